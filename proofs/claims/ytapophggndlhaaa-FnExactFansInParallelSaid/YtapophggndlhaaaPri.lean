/- What holds between two rounds of the loop that makes a fan of two fans side by side. -/
import Derived.Test.YtapophggndlhaaaParS
import Derived.Test.YtapophggndlhaaaSerI
import Derived.Test.YtapophggndlhaaaBwd
namespace Go.Proofs.Ytapophggndlhaaa
set_option linter.unusedVariables false
set_option linter.unusedSimpArgs false
open Go.RowKit Go.Shelf
theorem own_gr {w w' : World} {base n size : Nat} {e : TypeId} {v : Value} {xs : List Value} {row : Option Nat} (h : w.ownsRow base e size v n xs) (hg : w.grownBy w' row)
    (hr : ∀ r, row = some r → ∃ o : Obj, w.heap[r]? = some o ∧ o.isCells = false) : w'.ownsRow base e size v n xs := by
  rcases h.2 with h0 | ⟨g, cap, cur, hv, hbg, hgb, hnc, hcm, hcs, htake⟩
  · exact ⟨h.1, .inl h0⟩
  · have hgb' : Blk w g e cur := hgb
    refine ⟨h.1, .inr ⟨g, cap, cur, hv, hbg, (hg.block g hgb'.lt fun er => ?_).trans hgb, hnc, hcm, hcs, htake⟩⟩
    obtain ⟨o, ho, hoc⟩ := hr g er.symm
    rw [hgb] at ho
    injection ho with ho
    subst ho
    cases hoc
theorem OSS.gr {w w' : World} {lo n c : Nat} {A : Option Addr} {rs : List Row} {row : Option Nat} (h : OSS w lo A n c rs) (hg : w.grownBy w' row) (hr : ∀ r, row = some r → ∃ o : Obj, w.heap[r]? = some o ∧ o.isCells = false) : OSS w' lo A n c rs :=
  ⟨own_gr h.out hg hr, fun r hm => own_gr (h.row r hm) hg hr, h.apart⟩
theorem Made.gr {w w' : World} {lo n c : Nat} {A : Option Addr} {cs : List (List Int)} {rs : List Row} {row : Option Nat} (h : Made w lo A n c cs rs) (hg : w.grownBy w' row) (hr : ∀ r, row = some r → ∃ o : Obj, w.heap[r]? = some o ∧ o.isCells = false) : Made w' lo A n c cs rs :=
  ⟨h.oss.gr hg hr, h.dat, h.two⟩
/-- The fan that is being made, behind the rounds that pre tells. -/
def ParInv (ca cb : List (List Int)) (sa : ByteArray) (xa : Int) (g n0 : Nat) (w2 ws : World) (pre : List (Nat × Int)) (W : World) : Prop :=
  ∃ A' k c' rs', Blk W g 26 #[.string sa, .int .i64 xa, .slice A' k c'] ∧ Made W n0 A' k c' (parTo ca cb (pre.map Prod.snd)) rs' ∧ KpB n0 g ws W ∧ Below w2.heap.size w2 W ∧ k ≤ pre.length ∧ n0 ≤ W.heap.size
theorem parInv_own {ca cb : List (List Int)} {sa : ByteArray} {xa : Int} {g n0 : Nat} {w2 ws : World} (hg : g < n0) (h2 : w2.heap.size ≤ n0) : OwnFrom n0 (ParInv ca cb sa xa g n0 w2 ws) := by
  rintro pre W W' row ⟨A', k, c', rs', hB, hM, hK, hb, hk, hz⟩ hgr hr
  have hr' : ∀ r, row = some r → ∃ o : Obj, W.heap[r]? = some o ∧ o.isCells = false := fun r e => (hr r e).2
  refine ⟨A', k, c', rs', hB.grown hgr (fun e => ?_), hM.gr hgr hr', hK.trans fun p hp hne => ?_, hb.trans ?_, hk, Nat.le_trans hz hgr.size⟩
  · have := (hr g e.symm).1; omega
  · exact World.cell?_of_block (hgr.block p.block (by omega) (fun e => by have := (hr _ e.symm).1; omega))
  · exact (Below.refl _ _).grown hgr hb.size (fun r e => by have := (hr r e).1; omega)
theorem keeps_below {B : Nat} {W W' : World} (hb : Below W.heap.size W W') : KeepsFrom B W W' :=
  ⟨hb.size, fun k o _ hk _ => (hb.block k (Array.getElem?_eq_some_iff.1 hk).1).trans hk⟩
theorem keeps_grown {B base : Nat} {W W' : World} {e : TypeId} {size n : Nat} {v : Value} {xs : List Value} (h : W.ownsRow base e size v n xs) (hg : W.grownBy W' v.ownBlock) : KeepsFrom B W W' :=
  (KeepsOthers.of_grownBy hg fun j o hj ho => by
    rcases h.2 with ⟨rfl, _⟩ | ⟨g, cap, cur, rfl, _, hgb, _⟩
    · cases hj
    · have hj' : g = j := by simpa [Value.ownBlock] using hj
      subst hj'
      rw [hgb] at ho
      injection ho with ho
      subst ho
      rfl).from B
/-- A round that adds no point. -/
theorem parInv_skip {ca cb : List (List Int)} {sa : ByteArray} {xa : Int} {g n0 i k c' : Nat} {q : Int} {w2 ws W W' : World} {A' : Option Addr} {rs' : List Row} {pre : List (Nat × Int)} (hg : g < n0) (h2 : w2.heap.size ≤ n0)
    (hB : Blk W g 26 #[.string sa, .int .i64 xa, .slice A' k c']) (hM : Made W n0 A' k c' (parTo ca cb (pre.map Prod.snd)) rs') (hK : KpB n0 g ws W) (hb : Below w2.heap.size w2 W) (hk : k ≤ pre.length) (hz : n0 ≤ W.heap.size)
    (hb7 : Below W.heap.size W W') (hq : lastQ (parTo ca cb (pre.map Prod.snd)) = some (parQ ca cb q)) :
    KeepsFrom n0 W W' ∧ KpB n0 g W W' ∧ ParInv ca cb sa xa g n0 w2 ws (pre ++ [(i, q)]) W' := by
  have hk7 : KpB n0 g W W' := KpB.below (hb7.mono hz)
  refine ⟨keeps_below hb7, hk7, A', k, c', rs', hB.below hb7 (by omega), ?_, hK.trans hk7, hb.trans (hb7.mono hb.size), by simp; omega, Nat.le_trans hz hb7.size⟩
  rw [List.map_append]
  show Made W' n0 A' k c' (parTo ca cb (pre.map Prod.snd ++ [q])) rs'
  rw [parTo_snoc, parS_y hq]
  exact hM.below hb7
/-- A round that adds a point. -/
theorem parInv_add {ca cb : List (List Int)} {sa : ByteArray} {xa : Int} {g n0 i k c' : Nat} {q : Int} {w2 ws W w7 w8 : World} {A' A8 : Option Addr} {c8 : Nat} {rs' : List Row} {pre : List (Nat × Int)} (hg : g < n0) (h2 : w2.heap.size ≤ g) (h3 : w2.heap.size ≤ n0)
    (hB : Blk W g 26 #[.string sa, .int .i64 xa, .slice A' k c']) (hM : Made W n0 A' k c' (parTo ca cb (pre.map Prod.snd)) rs') (hK : KpB n0 g ws W) (hb : Below w2.heap.size w2 W) (hk : k ≤ pre.length) (hz : n0 ≤ W.heap.size)
    (hb7 : Below W.heap.size W w7) (hq : lastQ (parTo ca cb (pre.map Prod.snd)) ≠ some (parQ ca cb q))
    (ho : w8.ownsRow n0 53 1 (.slice A8 (k + 1) c8) (k + 1) (rowsV rs' ++ [.slice (some ⟨w7.heap.size, 0, none⟩) 2 2]))
    (hgr : ((w7.alloc (.cells #[.int .i64 (parQ ca cb q), .int .i64 q] 2)).alloc (.cells #[.slice (some ⟨w7.heap.size, 0, none⟩) 2 2] 53)).grownBy w8 (Value.ownBlock (.slice A' k c'))) :
    Blk w8 g 26 #[.string sa, .int .i64 xa, .slice A' k c'] ∧ (KeepsFrom n0 W (w8.setCell ⟨g, 2, none⟩ (.slice A8 (k + 1) c8)) ∧ KpB n0 g W (w8.setCell ⟨g, 2, none⟩ (.slice A8 (k + 1) c8)) ∧ ParInv ca cb sa xa g n0 w2 ws (pre ++ [(i, q)]) (w8.setCell ⟨g, 2, none⟩ (.slice A8 (k + 1) c8))) := by
  have hz7 := hb7.size
  have hM7 := hM.below hb7
  have hW := (hM7.oss.out.alloc (.cells #[.int .i64 (parQ ca cb q), .int .i64 q] 2)).alloc (.cells #[.slice (some ⟨w7.heap.size, 0, none⟩) 2 2] 53)
  have hB8 : Blk w8 g 26 #[.string sa, .int .i64 xa, .slice A' k c'] := (((hB.below hb7 (by omega)).alloc _).alloc _).grown hgr fun h => by have := (hW.lt _ h.symm).1; omega
  have hb2 : Below W.heap.size W ((w7.alloc (.cells #[.int .i64 (parQ ca cb q), .int .i64 q] 2)).alloc (.cells #[.slice (some ⟨w7.heap.size, 0, none⟩) 2 2] 53)) := (hb7.alloc hz7 _).alloc (by simp; omega) _
  have hn8 : Below n0 W w8 := (hb2.mono hz).grown hgr (by simp; omega) fun x hx => (hW.lt x hx).1
  have hkp : KpB n0 g W (w8.setCell ⟨g, 2, none⟩ (.slice A8 (k + 1) c8)) := fun p hp hne => (World.cell?_setCell_other _ _ _ _ (fun e => hne (by rw [← e]))).trans (hn8.cell hp)
  refine ⟨hB8, ((keeps_below hb2).trans (keeps_grown hW hgr)).trans ((KeepsOthers.setCell _ _ _).from _), hkp, A8, k + 1, c8, rs' ++ [⟨some ⟨w7.heap.size, 0, none⟩, 2, 2, [parQ ca cb q, q]⟩], hB8.set_ 2 _, ?_, hK.trans hkp, (hb.trans (hn8.mono h3)).setCell (p := ⟨g, 2, none⟩) h2 _, by simp; omega, ?_⟩
  · rw [List.map_append]
    show Made _ n0 A8 (k + 1) c8 (parTo ca cb (pre.map Prod.snd ++ [q])) _
    rw [parTo_snoc, parS_n hq]
    exact (hM7.app (w := w7) (parQ ca cb q) q (by omega) ho hgr).setLow (p := ⟨g, 2, none⟩) hg _
  · simpa [World.setCell] using Nat.le_trans hz hn8.size
theorem fanRet_defer {w W : World} {s : ByteArray} {a code : Int} {cs : List (List Int)} {e : Ending} {D : Nat} {o : Obj} (o' : Obj) (h : fanRet w s a cs code e W) (hD : w.heap.size ≤ D) (ho : W.heap[D]? = some o) (hc : o.isCells = false) : fanRet w s a cs code e (W.putObj D o') := by
  obtain ⟨A, n, c, rs, he, hO, hd, hn, hm, ht, hb⟩ := h
  refine ⟨A, n, c, rs, he, hO.gr (grownBy_putObj' W D o') (fun r e => by cases e; exact ⟨o, ho, hc⟩), hd, hn, hm, ht, hb.trans ?_⟩
  exact (Below.refl _ _).grown (grownBy_putObj' W D o') hb.size (fun r e => by cases e; exact hD)
/-- What the last stores leave, and what is read behind the deferred calls. -/
theorem put_end {w7 : World} {g D : Nat} {z0 z1 z2 u0 u1 u2 : Value} (hB : Blk w7 g 26 #[z0, z1, z2]) (hD : w7.heap[D]? = some (.deferred (some []))) :
    (((w7.setCell ⟨g, 0, none⟩ u0).setCell ⟨g, 1, none⟩ u1).setCell ⟨g, 2, none⟩ u2).heap[D]? = some (.deferred (some [])) ∧
    ((((w7.setCell ⟨g, 0, none⟩ u0).setCell ⟨g, 1, none⟩ u1).setCell ⟨g, 2, none⟩ u2).putObj D (.deferred none)).cell? ⟨g, 0, none⟩ = some u0 ∧
    ((((w7.setCell ⟨g, 0, none⟩ u0).setCell ⟨g, 1, none⟩ u1).setCell ⟨g, 2, none⟩ u2).putObj D (.deferred none)).cell? ⟨g, 1, none⟩ = some u1 ∧
    ((((w7.setCell ⟨g, 0, none⟩ u0).setCell ⟨g, 1, none⟩ u1).setCell ⟨g, 2, none⟩ u2).putObj D (.deferred none)).cell? ⟨g, 2, none⟩ = some u2 := by
  have h1 : (((w7.setCell ⟨g, 0, none⟩ u0).setCell ⟨g, 1, none⟩ u1).setCell ⟨g, 2, none⟩ u2).heap[D]? = some (.deferred (some [])) :=
    (KeepsOthers.setCell _ _ _).same D _ ((KeepsOthers.setCell _ _ _).same D _ ((KeepsOthers.setCell _ _ _).same D _ hD rfl) rfl) rfl
  have h3 := ((hB.set_ 0 u0).set_ 1 u1).set_ 2 u2
  have h4 := h3.grown (grownBy_putObj' _ D (.deferred none)) (fun e => by
    injection e with e
    subst e
    unfold Blk at h3
    rw [h1] at h3
    cases h3)
  exact ⟨h1, (h4.cell 0).trans rfl, (h4.cell 1).trans rfl, (h4.cell 2).trans rfl⟩
end Go.Proofs.Ytapophggndlhaaa
