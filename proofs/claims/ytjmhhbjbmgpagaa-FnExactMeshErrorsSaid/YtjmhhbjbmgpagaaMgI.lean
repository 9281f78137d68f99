/- Several texts in one: Msh Add Fom Err. -/
import Derived.Test.YtjmhhbjbmgpagaaMgH
import Derived.Test.YtjmhhbjbmgpagaaMgF
import Derived.Test.YtjmhhbjbmgpagaaMgD
/- Contracts of the meshes of a mine, both sides. -/
namespace Go.Proofs.Ytjmhhbjbmgpagaa
set_option linter.unusedVariables false
set_option linter.unusedSimpArgs false
open Go.RowKit
/-- A row of the call's own behind rows of the call's own. -/
theorem oss_push {w w3 w6 : World} {lo k c c' : Nat} {A A' : Option Addr} {rs : List Row} (r : Row) (h : OSS w lo A k c rs) (hlo : lo ≤ w.heap.size) (hb : Below w.heap.size w w3) (hr : w3.ownsRow w.heap.size 2 1 r.val r.n (ints r.xs))
    (ho : w6.ownsRow lo 25 1 (.slice A' (k + 1) c') (k + 1) (rowsV rs ++ [r.val])) (hg : (w3.alloc (.cells #[r.val] 25)).grownBy w6 (Value.ownBlock (.slice A k c))) : OSS w6 lo A' (k + 1) c' (rs ++ [r]) := by
  have hb4 : Below w.heap.size w (w3.alloc (.cells #[r.val] 25)) := hb.alloc hb.size _
  refine ⟨by unfold rowsV at *; rw [List.map_append]; exact ho, fun q hq => ?_, ?_⟩
  · rcases List.mem_append.1 hq with hq | hq
    · exact own_keep (own_below (h.row q hq) hb4) hg fun b g1 g2 => own_ne (h.row q hq) h.out (by decide) b g1 g2
    · rw [List.mem_singleton] at hq
      subst hq
      refine own_base (own_keep (hr.alloc _) hg fun b g1 g2 => ?_) hlo
      have h1 := (hr.lt b g1).1
      have h2 := (h.out.lt b g2).2
      omega
  · rw [List.pairwise_append]
    refine ⟨h.apart, List.pairwise_singleton _ _, fun q hq s hs j h1 h2 => ?_⟩
    rw [List.mem_singleton] at hs
    subst hs
    have h3 := ((h.row q hq).lt j h1).2
    have h4 := (hr.lt j h2).1
    omega
theorem walkL_len (E : Edges) (T : List Nat) (f : List Int) (to : Nat) : ∀ n u, (walkL E T f to n u).length ≤ n
  | 0, u => by simp [walkL]
  | n + 1, u => by
    simp only [walkL]
    split
    · simp
    · split
      · rw [List.length_cons]; have := walkL_len E T f to n; exact Nat.succ_le_succ (this _)
      · simp
theorem backL_len {E : Edges} {J : Nat} {T : List Nat} {fr to : Nat} (hto : to < J) (hfr : fr < J) (hr : ∀ i ∈ T, eA E i < J ∧ eB E i < J) : (backL E J T fr to).length ≤ J + 1 := by
  have h1 := walkL_len E T (farL E J T to) to ((farL E J T to).getD fr 0).toNat fr
  have h2 := (far_char hto hr hfr).2.1
  unfold backL
  omega
theorem walkL_wk {E : Edges} {T : List Nat} {f : List Int} {to m : Nat} (hT : ∀ i ∈ T, i < m) : ∀ n u, ∀ x ∈ walkL E T f to n u, wkB m x = true
  | 0, u => fun x h => by simp [walkL] at h
  | n + 1, u => fun x h => by
    simp only [walkL] at h
    split at h
    · simp at h
    · split at h
      · rename_i i hi
        have him := hT i (List.mem_of_find?_eq_some hi)
        rcases List.mem_cons.1 h with rfl | h
        · unfold stepN
          split
          · rw [wkB_in (by omega)]; unfold inB; exact decide_eq_true (by omega)
          · rw [wkB_in (by omega)]; unfold inB; exact decide_eq_true (by omega)
        · exact walkL_wk hT n _ x h
      · simp at h
/-- The numbers of meshes are those of airways, and meshes are short. -/
theorem meshTo_ok {E : Edges} {J : Nat} {T : List Nat} {m : Nat} (hT : ∀ i ∈ T, i < m) (hr : ∀ i, i < m → eA E i < J ∧ eB E i < J) : ∀ k, k ≤ m → ∀ ms ∈ meshTo E J T k, ms.length ≤ J + 2 ∧ ms ≠ [] ∧ ∀ x ∈ ms, wkB m x = true
  | 0, _ => fun ms h => by simp [meshTo] at h
  | k + 1, hk => fun ms h => by
    simp only [meshTo] at h
    split at h
    · exact meshTo_ok hT hr k (by omega) ms h
    · rcases List.mem_append.1 h with h | h
      · exact meshTo_ok hT hr k (by omega) ms h
      · rw [List.mem_singleton] at h
        subst h
        have h1 := hr k (by omega)
        have h2 := backL_len (E := E) (T := T) h1.1 h1.2 (fun i hi => hr i (hT i hi))
        refine ⟨by simp only [List.length_cons]; omega, by simp, fun x hx => ?_⟩
        rcases List.mem_cons.1 hx with rfl | hx
        · rw [wkB_in (by omega)]; unfold inB; exact decide_eq_true (by omega)
        · exact walkL_wk hT _ _ x hx
theorem meshTo_len (E : Edges) (J : Nat) (T : List Nat) : ∀ k, (meshTo E J T k).length ≤ k
  | 0 => by simp [meshTo]
  | k + 1 => by
    have := meshTo_len E J T k
    simp only [meshTo]
    split
    · omega
    · simp; omega
/-- All meshes of a mine. -/
def meshL (J : Int) (xs : List Awy) : List (List Int) := meshTo (edgesOf xs) J.toNat (treeL (edgesOf xs) J.toNat xs.length) xs.length
theorem meshL_ok {J : Int} {xs : List Awy} (hok : mineOk J xs = true) : ∀ ms ∈ meshL J xs, ms.length ≤ 18 ∧ ms ≠ [] ∧ ∀ x ∈ ms, wkB xs.length x = true := by
  intro ms h
  obtain ⟨⟨j1, j2⟩, _, _⟩ := mineOk_t hok
  have h1 := meshTo_ok (E := edgesOf xs) (J := J.toNat) (T := treeL (edgesOf xs) J.toNat xs.length) (m := xs.length) (treeL_ltm (Nat.le_refl _)) (fun i hi => edge_lt hok hi) xs.length (Nat.le_refl _) ms h
  exact ⟨by omega, h1.2⟩
theorem meshL_len {J : Int} {xs : List Awy} (hok : mineOk J xs = true) : (meshL J xs).length ≤ 24 := by
  have h1 := meshTo_len (edgesOf xs) J.toNat (treeL (edgesOf xs) J.toNat xs.length) xs.length
  have h2 := (mineOk_t hok).2.1
  unfold meshL
  omega
/-- What a call returns that makes meshes. -/
def MshRet (J : Int) (xs : List Awy) (w : World) (e : Ending) (w' : World) : Prop := ∃ A n c rs, e = .returned (.slice A n c) ∧ OSS w' w.heap.size A n c rs ∧ dat rs = meshL J xs ∧ Below w.heap.size w w'
theorem tree_connX {J : Int} {xs : List Awy} (hok : mineOk J xs = true) {k : Nat} (hk : k < xs.length) : Conn (edgesOf xs) (treeL (edgesOf xs) J.toNat xs.length) (eA (edgesOf xs) k) (eB (edgesOf xs) k) :=
  tree_conn hk fun i hi => edge_lt hok hi
/-- Meshes made so far. -/
structure Mms (w : World) (lo : Nat) (A : Option Addr) (n c : Nat) (ms : List (List Int)) (rs : List Row) : Prop where
  oss : OSS w lo A n c rs
  dat : dat rs = ms
theorem Mms.below {w w' : World} {lo n c : Nat} {A : Option Addr} {ms : List (List Int)} {rs : List Row} (h : Mms w lo A n c ms rs) (hb : Below w.heap.size w w') : Mms w' lo A n c ms rs := ⟨h.oss.below hb, h.dat⟩
theorem Mms.push {w w3 w6 : World} {lo k c c' : Nat} {A A' : Option Addr} {ms : List (List Int)} {rs : List Row} (r : Row) (h : Mms w lo A k c ms rs) (hlo : lo ≤ w.heap.size) (hb : Below w.heap.size w w3) (hr : w3.ownsRow w.heap.size 2 1 r.val r.n (ints r.xs))
    (ho : w6.ownsRow lo 25 1 (.slice A' (k + 1) c') (k + 1) (rowsV rs ++ [r.val])) (hg : (w3.alloc (.cells #[r.val] 25)).grownBy w6 (Value.ownBlock (.slice A k c))) : Mms w6 lo A' (k + 1) c' (ms ++ [r.xs]) (rs ++ [r]) :=
  ⟨oss_push r h.oss hlo hb hr ho hg, by rw [← h.dat]; simp [Go.Proofs.Ytjmhhbjbmgpagaa.dat]⟩
set_option maxHeartbeats 3200000 in
set_option maxRecDepth 100000 in
theorem l04Meshes_any (J : Int) (M : Option Addr) (m d : Nat) (xs : List Awy) (p : Addr) (w : World) (hm : Reads w w.heap.size 7 M m (Awy.recs xs)) (hok : mineOk J xs = true)
    (hp0 : w.cell? p = some (.int .i64 J)) (hp1 : w.cell? ⟨p.block, p.off + 1, none⟩ = some (.slice M m d)) :
    Calls Try.prog 48 #[.pointer (some p)] w (MshRet J xs w) := by
  obtain ⟨i0, hi0, hz0, hz1, hz2⟩ := info_parts info_Int64S
  obtain ⟨i1, hi1, hy0, hy1, hy2⟩ := info_parts info_Int64SS
  obtain ⟨⟨j1, j2⟩, hx24, _⟩ := mineOk_t hok
  have HLm := Lib.hid (recs_rlen Awy.clen (by omega) hm)
  have ct := l04Tree_any J M m d xs p w hm hok hp0 hp1
  have HOK := Lib.hid hok
  have hpl := block_lt_of_cell hp0
  have hpl1 := block_lt_of_cell hp1
  have hm24 : m ≤ 24 := by rw [← HLm.out]; exact hx24
  have HCN : Hid (∀ k, k < m → Conn (edgesOf xs) (treeL (edgesOf xs) J.toNat m) (eA (edgesOf xs) k) (eB (edgesOf xs) k)) := fun k hk => by have := tree_connX hok (k := k) (by rw [HLm.out]; exact hk); rwa [HLm.out] at this
  have HTl : Hid (∀ i ∈ treeL (edgesOf xs) J.toNat m, i < xs.length) := treeL_ltm (by rw [HLm.out]; exact Nat.le_refl _)
  have hTn := treeL_len (edgesOf xs) J.toNat m
  have HML : Hid (meshL J xs = meshTo (edgesOf xs) J.toNat (treeL (edgesOf xs) J.toNat m) m) := show _ = _ by unfold meshL; rw [HLm.out]
  generalize treeL (edgesOf xs) J.toNat m = T at *
  clear hok hx24
  go_enter Try.func48, Try.ntmps48
  go_wp2_with fail; ((with_reducible refine ct.mono ?_); rintro e w1 ⟨TA, tc, rfl, ho1, hb1⟩)
  have HOT := Lib.hid ho1
  have hz1w := hb1.size
  clear ct ho1
  go_wp2
  go_loopw [4, 5] (fun o i wr => ∃ (k : Nat) (A' : Option Addr) (n' c' : Nat) (rs : List Row), k ≤ m ∧ n' ≤ k ∧ o = .slice A' n' c' ∧ i = .int .i64 k ∧ Hid (Mms wr w1.heap.size A' n' c' (meshTo (edgesOf xs) J.toNat T k) rs) ∧ Below w1.heap.size w1 wr) (fun _ i _ => m - (intOf i).toNat)
  case atStart => exact ⟨0, _, 0, 0, [], by omega, by omega, rfl, rfl, ⟨⟨own_empty _ _ _, fun r h => by simp at h, List.Pairwise.nil⟩, rfl⟩, (Below.refl _ _).alloc (Nat.le_refl _) _⟩
  case round =>
    obtain ⟨k, A', n', c', rs, hk, hnk, rfl, rfl, HM, hbr⟩ := hrel
    obtain ⟨wo, rfl⟩ : ∃ wo : World, wo = wr := ⟨_, rfl⟩
    have hzr := hbr.size
    have Bo : Below w.heap.size w wo := hb1.trans (hbr.mono hz1w)
    have g0 : wo.cell? p = some (.int .i64 J) := (Bo.cell hpl).trans hp0
    have g1 : wo.cell? ⟨p.block, p.off + 1, none⟩ = some (.slice M m d) := (Bo.cell (p := ⟨p.block, p.off + 1, none⟩) hpl1).trans hp1
    have HOT2 := Lib.hid (own_below HOT.out hbr)
    by_cases hlt : k < m
    · have ch := l00Has_any TA T.length tc (nI T) (k : Nat) wo (Reads.of_own HOT2.out) (by omega)
      have hkI : (k : Int) < (m : Int) := by omega
      by_cases hkT : k ∈ T
      · rw [hasI_y hkT] at ch
        have HS := Lib.hid (meshTo_y (E := edgesOf xs) (J := J.toNat) hkT)
        clear hkT
        go_wp2_with fail; ((with_reducible refine ch.mono ?_); rintro e w' ⟨rfl, rfl⟩)
        go_wp2
        go_roundw
        case rel => exact ⟨k + 1, A', n', c', rs, by omega, by omega, rfl, by go_num, by rw [HS.out]; exact HM, hbr⟩
        case measure => simp [intOf]; omega
      · rw [hasI_n hkT] at ch
        have HS := Lib.hid (meshTo_n (E := edgesOf xs) (J := J.toNat) hkT)
        obtain ⟨ad, x, rfl, had, hx, hc⟩ := (hm.below Bo).rec_at Awy.clen (by omega) hlt
        obtain ⟨ea, eb, ha, hb⟩ := edge_ok HOK.out hx
        obtain ⟨a0, a1, a2, a3, a4, a5, a6⟩ := Awy.open_ hc
        rw [ea] at a1
        rw [eb] at a2
        have HW : Hid (∀ W : World, Below wo.heap.size wo W → Calls Try.prog 105 #[.pointer (some p), .slice TA T.length tc, .int .i64 (eB (edgesOf xs) k : Nat), .int .i64 (eA (edgesOf xs) k : Nat)] W fun e w' => ∃ A2 n2 c2, e = .returned (.tuple #[.slice A2 n2 c2, .bool true]) ∧ w'.ownsRow W.heap.size 2 1 (.slice A2 n2 c2) n2 (ints (backL (edgesOf xs) J.toNat T (eB (edgesOf xs) k) (eA (edgesOf xs) k))) ∧ n2 ≤ 16 ∧ Below W.heap.size W w') := fun W hW => by
          have B := Bo.trans (hW.mono Bo.size)
          exact l04Walk_any J (some ad) m d xs TA T.length tc T _ _ p W ((hm.below B).more B.size) (((Reads.of_own HOT2.out).below hW).more hW.size) HOK.out (by omega) HTl.out hb ha (HCN.out k hlt) ((hW.cell (block_lt_of_cell g0)).trans g0) ((hW.cell (block_lt_of_cell g1)).trans g1)
        generalize eA (edgesOf xs) k = ua at *
        generalize eB (edgesOf xs) k = ub at *
        generalize hBK : backL (edgesOf xs) J.toNat T ub ua = bk at *
        have hwk : IntKind.i64.wrap ((k : Int) + 1) = (k : Int) + 1 := IntWalk.i64_in _ (by omega)
        clear hx hc ea eb hkT hBK
        go_wp2_with fail; ((with_reducible refine ch.mono ?_); rintro e w' ⟨rfl, rfl⟩)
        go_wp2
        go_region_held3 (fun w' => w'.cell? ⟨p.block, p.off + 1, none⟩ = some (.slice (some ad) m d) ∧ w'.cell? ⟨(ad.add (k * 7)).block, (ad.add (k * 7)).off + 2, none⟩ = some (.int .i64 (ub : Nat)) ∧ w'.cell? ⟨(ad.add (k * 7)).block, (ad.add (k * 7)).off + 1, none⟩ = some (.int .i64 (ua : Nat)))
          (first | go_keep | (exact ⟨(hb2.cell (block_lt_of_cell g1)).trans g1, (hb2.cell (block_lt_of_cell a2)).trans a2, (hb2.cell (block_lt_of_cell a1)).trans a1⟩))
          ((go_at_call 105; refine (HW.out _ ((Below.refl _ _).drew)).mono ?_; rintro e w2 ⟨A2, n2, c2, rfl, ho2, hn2, hb2⟩))
        have hbz : Below wo.heap.size wo w2 := ((Below.refl _ _).drew).trans hb2
        have hbX : Below w1.heap.size w1 w2 := hbr.trans (hbz.mono hzr)
        have hzX := hbX.size
        have HM2 := Lib.hid (HM.out.below hbz)
        have HBK2 : Hid ((w2.alloc (.cells #[.int .i64 ((k : Int) + 1)] 2)).ownsRow w2.heap.size 2 1 (.slice (some ⟨w2.heap.size, 0, none⟩) 1 1) 1 (ints [(k : Int) + 1])) := own_of_blk (Blk.new w2 2 _) rfl rfl (by unfold maxLen; omega) (fun j _ => by rw [← Array.getElem?_toList]; rfl)
        have HRD : Hid (Reads (w2.alloc (.cells #[.int .i64 ((k : Int) + 1)] 2)) (w2.heap.size + 1) 1 A2 n2 (ints bk)) := ((Reads.of_own ho2).alloc (Nat.le_refl _) _).more (by omega)
        clear ho2 hb2
        go_wp2_with (first
          | (at_builtin; refine wpList_append_any _ rfl _ _ 25 rfl w2.heap.size 2 i0 _ 1 8 Try.underlying25 hi0 hz0 hz1 hz2 rfl (by omega) (.slice (some ⟨w2.heap.size, 0, none⟩) 1 1) 1 (ints [(k : Int) + 1]) rfl HBK2.out (w2.heap.size + 1) A2 n2 c2 (ints bk) rfl HRD.out (fun u hu => by obtain ⟨b, _, rfl⟩ := List.mem_map.1 hu; rfl) (by unfold maxLen; omega) (by omega) (by simp) ?_; intro v3 w3 ho3 hg3 hv3; obtain ⟨A3, c3, rfl⟩ := own_shape ho3; have HO3 := Lib.hid ho3; have HB3 : Hid (Below w2.heap.size w2 w3) := ((Below.refl _ _).alloc (Nat.le_refl _) _).grown hg3 (by simp) (fun q hq => Nat.le_of_eq (Option.some.inj hq)); have HOO : Hid ((w3.alloc (.cells #[.slice A3 (1 + n2) c3] 25)).ownsRow w1.heap.size 25 1 (.slice A' n' c') n' (rowsV rs)) := (own_below HM2.out.oss.out HB3.out).alloc _; have hz3 := HB3.out.size; clear ho3 hg3 hv3)
          | (at_builtin; refine wpList_append_own _ rfl _ _ 70 rfl w1.heap.size 25 i1 _ 1 24 Try.underlying70 hi1 hy0 hy1 hy2 rfl (by omega) (.slice A' n' c') n' (rowsV rs) rfl HOO.out ⟨w3.heap.size, 0, none⟩ 1 1 [.slice A3 (1 + n2) c3] rfl rfl (cell_one_at (by simp) _ _) (by simp [Value.oneCell']) (by unfold maxLen; omega) (by omega) (by simp; omega) ?_; intro v5 w5 ho5 hg5 hv5; obtain ⟨A5, c5, rfl⟩ := own_shape ho5))
        have HM5 := Lib.hid (HM2.out.push ⟨A3, 1 + n2, c3, ((k : Int) + 1) :: bk⟩ hzX HB3.out (by have h := HO3.out; simpa [ints, Row.val] using h) ho5 hg5)
        have HB5 : Hid (Below w1.heap.size w1 w5) := ((hbX.trans (HB3.out.mono hzX)).alloc (by omega) _).grown hg5 (by simp; omega) (fun q hq => (HOO.out.lt q hq).1)
        clear ho5 hg5 hv5
        go_roundw
        case rel => exact ⟨k + 1, A5, n' + 1, c5, _, by omega, by omega, rfl, by go_num, by rw [HS.out]; exact HM5, HB5.out⟩
        case measure => simp [intOf]; omega
    · have e : k = m := by omega
      have HMM := Lib.hid (show Mms wo w1.heap.size A' n' c' (meshL J xs) rs by rw [HML.out, ← e]; exact HM.out)
      clear e
      go_wp2
      go_ret
      exact ⟨A', n', c', rs, rfl, HMM.out.oss.base hz1w, HMM.out.dat, Bo⟩
set_option maxHeartbeats 3200000 in
set_option maxRecDepth 100000 in
theorem meshes_any (J : Int) (M : Option Addr) (m d : Nat) (xs : List Awy) (w : World) (hm1 : Reads w w.heap.size 7 M m (Awy.recs xs)) (hok : mineOk J xs = true) :
    Calls Try.prog 53 #[.agg #[.int .i64 J, .slice M m d]] w (MshRet J xs w) := by
  obtain ⟨i0, hi0, hz0, hz1, hz2⟩ := info_parts info_Int64S
  obtain ⟨i1, hi1, hy0, hy1, hy2⟩ := info_parts info_Int64SS
  obtain ⟨⟨j1, j2⟩, hx24, _⟩ := mineOk_t hok
  have hb0 : Below w.heap.size w (w.alloc (.cells #[.int .i64 J, .slice M m d] 31)) := (Below.refl _ _).alloc (Nat.le_refl _) _
  have HLm := Lib.hid (recs_rlen Awy.clen (by omega) hm1)
  have ct := tree_any J M m d xs (w.alloc (.cells #[.int .i64 J, .slice M m d] 31)) ((hm1.below hb0).more hb0.size) hok
  have HOK := Lib.hid hok
  have hm24 : m ≤ 24 := by rw [← HLm.out]; exact hx24
  have HCN : Hid (∀ k, k < m → Conn (edgesOf xs) (treeL (edgesOf xs) J.toNat m) (eA (edgesOf xs) k) (eB (edgesOf xs) k)) := fun k hk => by have := tree_connX hok (k := k) (by rw [HLm.out]; exact hk); rwa [HLm.out] at this
  have HTl : Hid (∀ i ∈ treeL (edgesOf xs) J.toNat m, i < xs.length) := treeL_ltm (by rw [HLm.out]; exact Nat.le_refl _)
  have hTn := treeL_len (edgesOf xs) J.toNat m
  have HML : Hid (meshL J xs = meshTo (edgesOf xs) J.toNat (treeL (edgesOf xs) J.toNat m) m) := show _ = _ by unfold meshL; rw [HLm.out]
  generalize treeL (edgesOf xs) J.toNat m = T at *
  clear hok hx24 hb0
  go_enter Try.func53, Try.ntmps53
  go_wp2_with fail; ((with_reducible refine ct.mono ?_); rintro e w1 ⟨TA, tc, rfl, ho1, hb1⟩)
  have HOT := Lib.hid ho1
  have hz1w : w.heap.size + 1 ≤ w1.heap.size := by have h := hb1.size; simp at h; omega
  have c0 : w1.cell? ⟨w.heap.size, 0, none⟩ = some (.int .i64 J) := (hb1.cell (p := ⟨w.heap.size, 0, none⟩) (by simp)).trans (by go_simp)
  have c1 : w1.cell? ⟨w.heap.size, 1, none⟩ = some (.slice M m d) := (hb1.cell (p := ⟨w.heap.size, 1, none⟩) (by simp)).trans (by go_simp)
  have B1 : Below w.heap.size w w1 := ((Below.refl _ _).alloc (Nat.le_refl _) _).trans (hb1.mono (by simp))
  clear ct ho1 hb1
  go_wp2
  go_loopw [4, 14] (fun o i wr => ∃ (k : Nat) (A' : Option Addr) (n' c' : Nat) (rs : List Row), k ≤ m ∧ n' ≤ k ∧ o = .slice A' n' c' ∧ i = .int .i64 k ∧ Hid (Mms wr w1.heap.size A' n' c' (meshTo (edgesOf xs) J.toNat T k) rs) ∧ Below w1.heap.size w1 wr) (fun _ i _ => m - (intOf i).toNat)
  case atStart => exact ⟨0, none, 0, 0, [], by omega, by omega, rfl, rfl, ⟨⟨own_nil _ _ _ _, fun r h => by simp at h, List.Pairwise.nil⟩, rfl⟩, Below.refl _ _⟩
  case round =>
    obtain ⟨k, A', n', c', rs, hk, hnk, rfl, rfl, HM, hbr⟩ := hrel
    obtain ⟨wo, rfl⟩ : ∃ wo : World, wo = wr := ⟨_, rfl⟩
    have hzr := hbr.size
    have Bo : Below w.heap.size w wo := B1.trans (hbr.mono (by omega))
    by_cases hlt : k < m
    · obtain ⟨ad, x, rfl, had, hx, hc⟩ := (hm1.below Bo).rec_at Awy.clen (by omega) hlt
      obtain ⟨ea, eb, ha, hb⟩ := edge_ok HOK.out hx
      obtain ⟨a0, a1, a2, a3, a4, a5, a6⟩ := Awy.open_ hc
      rw [ea] at a1
      rw [eb] at a2
      have hkI : (k : Int) < (m : Int) := by omega
      obtain ⟨wa, hwa⟩ : ∃ wa, wa = wo.alloc (.cells #[.string x.s, .int .i64 (eA (edgesOf xs) k : Nat), .int .i64 (eB (edgesOf xs) k : Nat), .int .i64 x.l, .int .i64 x.c, .int .i64 x.f, .int .i64 x.h] 99) := ⟨_, rfl⟩
      have hba : Below wo.heap.size wo wa := by rw [hwa]; exact (Below.refl _ _).alloc (Nat.le_refl _) _
      have f1 : wa.cell? ⟨wo.heap.size, 1, none⟩ = some (.int .i64 (eA (edgesOf xs) k : Nat)) := by rw [hwa]; exact ((Blk.new wo _ _).cell 1).trans rfl
      have f2 : wa.cell? ⟨wo.heap.size, 2, none⟩ = some (.int .i64 (eB (edgesOf xs) k : Nat)) := by rw [hwa]; exact ((Blk.new wo _ _).cell 2).trans rfl
      have f3 : wa.cell? ⟨w.heap.size, 0, none⟩ = some (.int .i64 J) := ((hbr.trans (hba.mono hzr)).cell (p := ⟨w.heap.size, 0, none⟩) (by show w.heap.size < _; omega)).trans c0
      have f4 : wa.cell? ⟨w.heap.size, 1, none⟩ = some (.slice (some ad) m d) := ((hbr.trans (hba.mono hzr)).cell (p := ⟨w.heap.size, 1, none⟩) (by show w.heap.size < _; omega)).trans c1
      have hzA := hba.size
      have HWA := Lib.hid hwa
      have Ba : Below w.heap.size w wa := Bo.trans (hba.mono Bo.size)
      have HOT2 := Lib.hid (own_below (own_below HOT.out hbr) hba)
      have HMA := Lib.hid (HM.out.below hba)
      have hbrA : Below w1.heap.size w1 wa := hbr.trans (hba.mono hzr)
      have ch := contains_any TA T.length tc (nI T) (k : Nat) wa (Reads.of_own HOT2.out) (by omega)
      by_cases hkT : k ∈ T
      · rw [hasI_y hkT] at ch
        have HS := Lib.hid (meshTo_y (E := edgesOf xs) (J := J.toNat) hkT)
        generalize eA (edgesOf xs) k = ua at *
        generalize eB (edgesOf xs) k = ub at *
        rw [hwa] at ch
        clear hkT hx hc ea eb hwa
        go_wp2_with fail; ((with_reducible refine ch.mono ?_); rintro e w' ⟨rfl, rfl⟩)
        go_wp2
        rw [← HWA.out]
        go_roundw
        case rel => exact ⟨k + 1, A', n', c', rs, by omega, by omega, rfl, by go_num, by rw [HS.out]; exact HMA, hbrA⟩
        case measure => simp [intOf]; omega
      · rw [hasI_n hkT] at ch
        have HS := Lib.hid (meshTo_n (E := edgesOf xs) (J := J.toNat) hkT)
        have cw := path_any J (some ad) m d xs (eB (edgesOf xs) k) (eA (edgesOf xs) k) TA T.length tc T wa ((hm1.below Ba).more Ba.size) (Reads.of_own HOT2.out) HOK.out (by omega) HTl.out hb ha (HCN.out k hlt)
        generalize eA (edgesOf xs) k = ua at *
        generalize eB (edgesOf xs) k = ub at *
        generalize hBK : backL (edgesOf xs) J.toNat T ub ua = bk at *
        have hwk : IntKind.i64.wrap ((k : Int) + 1) = (k : Int) + 1 := IntWalk.i64_in _ (by omega)
        have HCW := Lib.hid cw
        rw [hwa] at ch
        clear hx hc ea eb hkT hBK hwa cw
        go_wp2_with fail; ((with_reducible refine ch.mono ?_); rintro e w' ⟨rfl, rfl⟩)
        rw [← HWA.out]
        go_wp2_with fail; ((with_reducible refine HCW.out.mono ?_); rintro e w2 ⟨A2, n2, c2, rfl, ho2, hn2, hb2⟩)
        have hbX : Below w1.heap.size w1 w2 := hbrA.trans (hb2.mono hbrA.size)
        have hzX := hbX.size
        have HM2 := Lib.hid (HMA.out.below hb2)
        have HBK2 : Hid ((w2.alloc (.cells #[.int .i64 ((k : Int) + 1)] 2)).ownsRow w2.heap.size 2 1 (.slice (some ⟨w2.heap.size, 0, none⟩) 1 1) 1 (ints [(k : Int) + 1])) := own_of_blk (Blk.new w2 2 _) rfl rfl (by unfold maxLen; omega) (fun j _ => by rw [← Array.getElem?_toList]; rfl)
        have HRD : Hid (Reads (w2.alloc (.cells #[.int .i64 ((k : Int) + 1)] 2)) (w2.heap.size + 1) 1 A2 n2 (ints bk)) := ((Reads.of_own ho2).alloc (Nat.le_refl _) _).more (by omega)
        clear ho2 hb2
        go_wp2_with (first
          | (at_builtin; refine wpList_append_any _ rfl _ _ 25 rfl w2.heap.size 2 i0 _ 1 8 Try.underlying25 hi0 hz0 hz1 hz2 rfl (by omega) (.slice (some ⟨w2.heap.size, 0, none⟩) 1 1) 1 (ints [(k : Int) + 1]) rfl HBK2.out (w2.heap.size + 1) A2 n2 c2 (ints bk) rfl HRD.out (fun u hu => by obtain ⟨b, _, rfl⟩ := List.mem_map.1 hu; rfl) (by unfold maxLen; omega) (by omega) (by simp) ?_; intro v3 w3 ho3 hg3 hv3; obtain ⟨A3, c3, rfl⟩ := own_shape ho3; have HO3 := Lib.hid ho3; have HB3 : Hid (Below w2.heap.size w2 w3) := ((Below.refl _ _).alloc (Nat.le_refl _) _).grown hg3 (by simp) (fun q hq => Nat.le_of_eq (Option.some.inj hq)); have HOO : Hid ((w3.alloc (.cells #[.slice A3 (1 + n2) c3] 25)).ownsRow w1.heap.size 25 1 (.slice A' n' c') n' (rowsV rs)) := (own_below HM2.out.oss.out HB3.out).alloc _; have hz3 := HB3.out.size; clear ho3 hg3 hv3)
          | (at_builtin; refine wpList_append_own _ rfl _ _ 70 rfl w1.heap.size 25 i1 _ 1 24 Try.underlying70 hi1 hy0 hy1 hy2 rfl (by omega) (.slice A' n' c') n' (rowsV rs) rfl HOO.out ⟨w3.heap.size, 0, none⟩ 1 1 [.slice A3 (1 + n2) c3] rfl rfl (cell_one_at (by simp) _ _) (by simp [Value.oneCell']) (by unfold maxLen; omega) (by omega) (by simp; omega) ?_; intro v5 w5 ho5 hg5 hv5; obtain ⟨A5, c5, rfl⟩ := own_shape ho5))
        have HM5 := Lib.hid (HM2.out.push ⟨A3, 1 + n2, c3, ((k : Int) + 1) :: bk⟩ hzX HB3.out (by have h := HO3.out; simpa [ints, Row.val] using h) ho5 hg5)
        have HB5 : Hid (Below w1.heap.size w1 w5) := ((hbX.trans (HB3.out.mono hzX)).alloc (by omega) _).grown hg5 (by simp; omega) (fun q hq => (HOO.out.lt q hq).1)
        clear ho5 hg5 hv5
        go_roundw
        case rel => exact ⟨k + 1, A5, n' + 1, c5, _, by omega, by omega, rfl, by go_num, by rw [HS.out]; exact HM5, HB5.out⟩
        case measure => simp [intOf]; omega
    · have e : k = m := by omega
      have HMM := Lib.hid (show Mms wo w1.heap.size A' n' c' (meshL J xs) rs by rw [HML.out, ← e]; exact HM.out)
      clear e
      go_wp2
      go_ret
      exact ⟨A', n', c', rs, rfl, HMM.out.oss.base (by omega), HMM.out.dat, Bo⟩
end Go.Proofs.Ytjmhhbjbmgpagaa

/- Contracts of an amount added along a walk, both sides. -/
namespace Go.Proofs.Ytjmhhbjbmgpagaa
set_option linter.unusedVariables false
set_option linter.unusedSimpArgs false
open Go.RowKit
/-- The flows behind the first k numbers of a walk. -/
def addL (f ws : List Int) (a : Int) : Nat → List Int
  | 0 => f
  | k + 1 => (addL f ws a k).set (wkI (ws.getD k 0)) ((addL f ws a k).getD (wkI (ws.getD k 0)) 0 + wkS (ws.getD k 0) * a)
theorem addL_len (f ws : List Int) (a : Int) : ∀ k, (addL f ws a k).length = f.length
  | 0 => rfl
  | k + 1 => by simp only [addL, List.length_set]; exact addL_len f ws a k
theorem addL_pos {f ws : List Int} {a x : Int} {k : Nat} (hx : ws[k]? = some x) (h : 0 < x) : addL f ws a (k + 1) = (addL f ws a k).set (wkI x) ((addL f ws a k).getD (wkI x) 0 + a) := by
  simp only [addL]; rw [getW_at hx]; unfold wkS; rw [if_pos h, Int.one_mul]
theorem addL_neg {f ws : List Int} {a x : Int} {k : Nat} (hx : ws[k]? = some x) (h : ¬ 0 < x) : addL f ws a (k + 1) = (addL f ws a k).set (wkI x) ((addL f ws a k).getD (wkI x) 0 - a) := by
  simp only [addL]; rw [getW_at hx]; unfold wkS; rw [if_neg h, Int.neg_mul, Int.one_mul]; rfl
theorem addL_bnd {f ws : List Int} {a D A : Int} (h0 : 0 ≤ D) (hA : -A ≤ a ∧ a ≤ A) (hA0 : 0 ≤ A) (h : ∀ x ∈ f, -D ≤ x ∧ x ≤ D) : ∀ k : Nat, ∀ x ∈ addL f ws a k, -(D + A * (k : Int)) ≤ x ∧ x ≤ D + A * (k : Int)
  | 0 => fun x hx => by have := h x hx; simp; omega
  | k + 1 => fun x hx => by
    have ih := addL_bnd (ws := ws) h0 hA hA0 h k
    have h3 : A * ((k + 1 : Nat) : Int) = A * k + A := by rw [show ((k + 1 : Nat) : Int) = (k : Int) + 1 by omega, Int.mul_add, Int.mul_one]
    have hk0 : 0 ≤ A * (k : Int) := Int.mul_nonneg hA0 (by omega)
    rw [h3]
    simp only [addL] at hx
    rcases List.mem_or_eq_of_mem_set hx with hx | rfl
    · have := ih x hx; omega
    · have h2 := getD_bnd (D := D + A * (k : Int)) (by omega) (fun y hy => by have := ih y hy; omega) (wkI (ws.getD k 0))
      unfold wkS
      split
      · rw [Int.one_mul]; omega
      · rw [Int.neg_mul, Int.one_mul]; omega
theorem grown_refl (w : World) (row : Option Nat) : w.grownBy w row := ⟨rfl, rfl, rfl, Nat.le_refl _, fun _ _ _ => rfl⟩
/-- A row in another block reads as before. -/
theorem reads_grown {w w' : World} {B : Option Addr} {q g : Nat} {ws : List Value} (hw : Reads w w.heap.size 1 B q ws) (hg : w.grownBy w' (some g)) (hne : ∀ ad, B = some ad → ad.block ≠ g) : Reads w' w'.heap.size 1 B q ws :=
  ⟨hw.1, fun hq => by
    obtain ⟨ad, e, hb, hc⟩ := hw.2 hq
    refine ⟨ad, e, Nat.lt_of_lt_of_le hb hg.size, fun j u hu => ?_⟩
    exact (World.cell?_of_block (a := ad.add j) (by rw [block_of_add]; exact hg.block ad.block hb (fun h => hne ad e (Option.some.inj h)))).trans (hc j u hu)⟩
set_option maxHeartbeats 1600000 in
theorem l07Add_any (base g n c : Nat) (f : List Int) (B : Option Addr) (q d : Nat) (ws : List Int) (a D : Int) (w : World) (ho : w.ownsRow base 2 1 (.slice (some ⟨g, 0, none⟩) n c) n (ints f)) (hw : Reads w w.heap.size 1 B q (ints ws)) (hq : q ≤ 1000) (hne : ∀ ad, B = some ad → ad.block ≠ g)
    (hwk : ∀ x ∈ ws, wkB n x = true) (hn : n ≤ 1000000) (hD0 : 0 ≤ D) (hD1 : D ≤ 1000000000000000) (hf : ∀ x ∈ f, -D ≤ x ∧ x ≤ D) (ha1 : -1000000 ≤ a) (ha2 : a ≤ 1000000) :
    Calls Try.prog 50 #[.slice (some ⟨g, 0, none⟩) n c, .slice B q d, .int .i64 a] w fun e w' => e = .returned (.tuple #[]) ∧ w'.ownsRow base 2 1 (.slice (some ⟨g, 0, none⟩) n c) n (ints (addL f ws a q)) ∧ w.grownBy w' (some g) := by
  have HW := Lib.hid hwk
  have HB := Lib.hid (fun k => addL_bnd (ws := ws) (a := a) (A := 1000000) hD0 ⟨ha1, ha2⟩ (by omega) hf k)
  have HWR := Lib.hid hw
  have HNE := Lib.hid hne
  have HLF := Lib.hid (ints_len (Reads.of_own ho))
  clear hwk hf hne hw
  go_enter Try.func50, Try.ntmps50
  go_wp2
  go_loopw [6] (fun i wr => ∃ k : Nat, k ≤ q ∧ i = .int .i64 k ∧ wr.ownsRow base 2 1 (.slice (some ⟨g, 0, none⟩) n c) n (ints (addL f ws a k)) ∧ w.grownBy wr (some g)) (fun i _ => q - (intOf i).toNat)
  case atStart => exact ⟨0, by omega, rfl, ho, grown_refl _ _⟩
  case round =>
    obtain ⟨k, hk, rfl, hok, hgr⟩ := hrel
    by_cases hlt : k < q
    · obtain ⟨wo, rfl⟩ : ∃ wo : World, wo = wr := ⟨_, rfl⟩
      obtain ⟨bd, u, rfl, hbd, hx, hc⟩ := (reads_grown HWR.out hgr HNE.out).at_ hlt
      obtain ⟨x, hxk, rfl⟩ := ints_at hx
      have hxb := HW.out x (mem_of_at hxk)
      obtain ⟨x0, x1, x2⟩ := wkB_t hxb
      have hIl := wkI_lt hxb
      obtain ⟨e2, e3, e4, e5, e6⟩ := own_i hok hIl
      have hbnd := getD_bnd (D := D + 1000000 * (k : Int)) (by omega) (HB.out k) (wkI x)
      have HXK := Lib.hid hxk
      have hkI : (k : Int) < (q : Int) := by omega
      have HGR := Lib.hid hgr
      by_cases hp : 0 < x
      · have HS := Lib.hid (addL_pos (f := f) (a := a) HXK.out hp)
        have hi : x.toNat - 1 = wkI x := by rw [wkI_pos hp]; omega
        generalize hF : (addL f ws a k).getD (wkI x) 0 = F at *
        have HUP : Hid ((wo.setCell ⟨g, x.toNat - 1, none⟩ (.int .i64 (F + a))).ownsRow base 2 1 (.slice (some ⟨g, 0, none⟩) n c) n (ints ((addL f ws a k).set (wkI x) (F + a)))) := by have := e6 (F + a); rw [← hi] at this ⊢; exact this
        rw [← hi] at e4 e5
        have HG2 : Hid (w.grownBy (wo.setCell ⟨g, x.toNat - 1, none⟩ (.int .i64 (F + a))) (some g)) := only_setCell hgr (.inl rfl) _
        clear hx hxk hxb hok e6 hi hF hgr
        go_wp2
        go_roundw
        case rel => exact ⟨k + 1, by omega, by go_num, by rw [HS.out]; exact HUP.out, HG2.out⟩
        case measure => simp [intOf]; omega
      · have HS := Lib.hid (addL_neg (f := f) (a := a) HXK.out hp)
        have hi : (-x).toNat - 1 = wkI x := by rw [wkI_neg (by omega)]; omega
        generalize hF : (addL f ws a k).getD (wkI x) 0 = F at *
        have HUP : Hid ((wo.setCell ⟨g, (-x).toNat - 1, none⟩ (.int .i64 (F - a))).ownsRow base 2 1 (.slice (some ⟨g, 0, none⟩) n c) n (ints ((addL f ws a k).set (wkI x) (F - a)))) := by have := e6 (F - a); rw [← hi] at this ⊢; exact this
        rw [← hi] at e4 e5
        have HG2 : Hid (w.grownBy (wo.setCell ⟨g, (-x).toNat - 1, none⟩ (.int .i64 (F - a))) (some g)) := only_setCell hgr (.inl rfl) _
        clear hx hxk hxb hok e6 hi hF hgr
        go_wp2
        go_roundw
        case rel => exact ⟨k + 1, by omega, by go_num, by rw [HS.out]; exact HUP.out, HG2.out⟩
        case measure => simp [intOf]; omega
    · have e : k = q := by omega
      subst e
      go_wp2
      go_end0
      exact ⟨rfl, hok, hgr⟩
set_option maxHeartbeats 1600000 in
theorem addAlong_any (base g n c : Nat) (f : List Int) (B : Option Addr) (q d : Nat) (ws : List Int) (a D : Int) (w : World) (ho : w.ownsRow base 2 1 (.slice (some ⟨g, 0, none⟩) n c) n (ints f)) (hw : Reads w w.heap.size 1 B q (ints ws)) (hq : q ≤ 1000) (hne : ∀ ad, B = some ad → ad.block ≠ g)
    (hwk : ∀ x ∈ ws, wkB n x = true) (hn : n ≤ 1000000) (hD0 : 0 ≤ D) (hD1 : D ≤ 1000000000000000) (hf : ∀ x ∈ f, -D ≤ x ∧ x ≤ D) (ha1 : -1000000 ≤ a) (ha2 : a ≤ 1000000) :
    Calls Try.prog 55 #[.slice (some ⟨g, 0, none⟩) n c, .slice B q d, .int .i64 a] w fun e w' => e = .returned (.tuple #[]) ∧ w'.ownsRow base 2 1 (.slice (some ⟨g, 0, none⟩) n c) n (ints (addL f ws a q)) ∧ w.grownBy w' (some g) := by
  have HW := Lib.hid hwk
  have HB := Lib.hid (fun k => addL_bnd (ws := ws) (a := a) (A := 1000000) hD0 ⟨ha1, ha2⟩ (by omega) hf k)
  have HWR := Lib.hid hw
  have HNE := Lib.hid hne
  clear hwk hf hne hw
  go_enter Try.func55, Try.ntmps55
  go_wp2
  go_loopw [12] (fun i wr => ∃ k : Nat, k ≤ q ∧ i = .int .i64 k ∧ wr.ownsRow base 2 1 (.slice (some ⟨g, 0, none⟩) n c) n (ints (addL f ws a k)) ∧ w.grownBy wr (some g)) (fun i _ => q - (intOf i).toNat)
  case atStart => exact ⟨0, by omega, rfl, ho, grown_refl _ _⟩
  case round =>
    obtain ⟨k, hk, rfl, hok, hgr⟩ := hrel
    by_cases hlt : k < q
    · obtain ⟨wo, rfl⟩ : ∃ wo : World, wo = wr := ⟨_, rfl⟩
      obtain ⟨bd, u, rfl, hbd, hx, hc⟩ := (reads_grown HWR.out hgr HNE.out).at_ hlt
      obtain ⟨x, hxk, rfl⟩ := ints_at hx
      have hxb := HW.out x (mem_of_at hxk)
      obtain ⟨x0, x1, x2⟩ := wkB_t hxb
      have hIl := wkI_lt hxb
      obtain ⟨e2, e3, e4, e5, e6⟩ := own_i hok hIl
      have hbnd := getD_bnd (D := D + 1000000 * (k : Int)) (by omega) (HB.out k) (wkI x)
      have HXK := Lib.hid hxk
      have hkI : (k : Int) < (q : Int) := by omega
      have hIlI : (wkI x : Int) < (n : Int) := by omega
      have cc := airwayOf_any x wo x0 (by omega) (by omega)
      have HG2 : Hid (∀ v : Int, w.grownBy (wo.setCell ⟨g, wkI x, none⟩ (.int .i64 v)) (some g)) := fun v => only_setCell hgr (.inl rfl) _
      have HUP := Lib.hid e6
      by_cases hp : 0 < x
      · have HS := Lib.hid (addL_pos (f := f) (a := a) HXK.out hp)
        rw [show wkS x = 1 from if_pos hp] at cc
        generalize hF : (addL f ws a k).getD (wkI x) 0 = F at *
        have HC := Lib.hid cc
        clear hx hxk hxb hok e6 hF hgr cc
        go_wp2_with fail; ((with_reducible refine HC.out.mono ?_); rintro e w' ⟨rfl, rfl⟩)
        go_wp2
        go_roundw
        case rel => exact ⟨k + 1, by omega, by go_num, by rw [HS.out]; exact HUP.out _, HG2.out _⟩
        case measure => simp [intOf]; omega
      · have HS := Lib.hid (addL_neg (f := f) (a := a) HXK.out hp)
        rw [show wkS x = -1 from if_neg hp] at cc
        generalize hF : (addL f ws a k).getD (wkI x) 0 = F at *
        have HC := Lib.hid cc
        clear hx hxk hxb hok e6 hF hgr cc
        go_wp2_with fail; ((with_reducible refine HC.out.mono ?_); rintro e w' ⟨rfl, rfl⟩)
        go_wp2
        go_roundw
        case rel => exact ⟨k + 1, by omega, by go_num, by rw [HS.out]; first | exact HUP.out _ | (rw [Int.sub_eq_add_neg]; exact HUP.out _), HG2.out _⟩
        case measure => simp [intOf]; omega
    · have e : k = q := by omega
      subst e
      go_wp2
      go_end0
      exact ⟨rfl, hok, hgr⟩
end Go.Proofs.Ytjmhhbjbmgpagaa

/- Contracts of the flows of amounts along meshes, both sides. -/
namespace Go.Proofs.Ytjmhhbjbmgpagaa
set_option linter.unusedVariables false
set_option linter.unusedSimpArgs false
open Go.RowKit
/-- The flows behind the first k meshes. -/
def flowTo (ms : List (List Int)) (am f : List Int) : Nat → List Int
  | 0 => f
  | k + 1 => match ms[k]? with
    | some s => addL (flowTo ms am f k) s (am.getD k 0) s.length
    | none => flowTo ms am f k
theorem flowTo_snoc {ms : List (List Int)} {am f s : List Int} {a : Int} {k : Nat} (h : ms[k]? = some s) (ha : am[k]? = some a) : flowTo ms am f (k + 1) = addL (flowTo ms am f k) s a s.length := by
  simp only [flowTo]; rw [h]; simp only []; rw [getW_at ha]
theorem flowTo_len (ms : List (List Int)) (am f : List Int) : ∀ k, (flowTo ms am f k).length = f.length
  | 0 => rfl
  | k + 1 => by
    simp only [flowTo]
    cases ms[k]? with
    | none => exact flowTo_len ms am f k
    | some s => simp only []; rw [addL_len]; exact flowTo_len ms am f k
theorem flowTo_bnd {ms : List (List Int)} {am f : List Int} (hm : ∀ s ∈ ms, s.length ≤ 18) (ha : ∀ a ∈ am, -100000 ≤ a ∧ a ≤ 100000) (hf : ∀ x ∈ f, -100000 ≤ x ∧ x ≤ 100000) : ∀ k : Nat, ∀ x ∈ flowTo ms am f k, -(100000 + 1800000 * (k : Int)) ≤ x ∧ x ≤ 100000 + 1800000 * (k : Int)
  | 0 => fun x h => by have := hf x h; omega
  | k + 1 => fun x h => by
    have ih := flowTo_bnd hm ha hf k
    simp only [flowTo] at h
    cases e : ms[k]? with
    | none => rw [e] at h; have := ih x h; omega
    | some s =>
      rw [e] at h
      have hl := hm s (List.mem_of_getElem? e)
      have h2 := addL_bnd (ws := s) (D := 100000 + 1800000 * (k : Int)) (A := 100000) (by omega) (a := am.getD k 0) (by have := getD_bnd (D := 100000) (by omega) ha k; omega) (by omega) (fun y hy => by have := ih y hy; omega) s.length x h
      omega
def zrs (m : Nat) : List Int := List.replicate m 0
theorem zrs_own (w : World) (m : Nat) (hm : m ≤ 1000000) : (w.alloc (.cells (madeCells #[.int .i64 0] m) 2)).ownsRow w.heap.size 2 1 (.slice (some ⟨w.heap.size, 0, none⟩) m m) m (ints (zrs m)) := by
  have e : ints (zrs m) = List.replicate m (Value.int .i64 0) := by simp [ints, zrs]
  refine own_of_blk (Blk.new w 2 _) (by simp [ints, zrs]) (size_madeCells _ _) (by unfold maxLen; omega) (fun j _ => ?_)
  rw [e, ← Array.getElem?_toList, toList_madeCells_one]
def fomR (J : Int) (xs : List Awy) (am : List Int) : List Int × Int :=
  if mineOk J xs = true then (if lstOk (meshL J xs).length (-100000) 100000 am = true then (if lstOk xs.length (-100000) 100000 (flowTo (meshL J xs) am (zrs xs.length) (meshL J xs).length) = true then (flowTo (meshL J xs) am (zrs xs.length) (meshL J xs).length, 0) else ([], 6)) else ([], 7)) else ([], 1)
theorem fomR_1 {J : Int} {xs : List Awy} {am : List Int} (h : mineOk J xs = false) : fomR J xs am = ([], 1) := by unfold fomR; rw [if_neg (by rw [h]; exact Bool.false_ne_true)]
theorem fomR_7 {J : Int} {xs : List Awy} {am : List Int} (h : mineOk J xs = true) (h1 : lstOk (meshL J xs).length (-100000) 100000 am = false) : fomR J xs am = ([], 7) := by unfold fomR; rw [if_pos h, if_neg (by rw [h1]; exact Bool.false_ne_true)]
theorem fomR_6 {J : Int} {xs : List Awy} {am : List Int} (h : mineOk J xs = true) (h1 : lstOk (meshL J xs).length (-100000) 100000 am = true) (h2 : lstOk xs.length (-100000) 100000 (flowTo (meshL J xs) am (zrs xs.length) (meshL J xs).length) = false) : fomR J xs am = ([], 6) := by unfold fomR; rw [if_pos h, if_pos h1, if_neg (by rw [h2]; exact Bool.false_ne_true)]
theorem fomR_0 {J : Int} {xs : List Awy} {am : List Int} (h : mineOk J xs = true) (h1 : lstOk (meshL J xs).length (-100000) 100000 am = true) (h2 : lstOk xs.length (-100000) 100000 (flowTo (meshL J xs) am (zrs xs.length) (meshL J xs).length) = true) : fomR J xs am = (flowTo (meshL J xs) am (zrs xs.length) (meshL J xs).length, 0) := by unfold fomR; rw [if_pos h, if_pos h1, if_pos h2]
/-- What a row of meshes is good for. -/
theorem Mms.row_at {w w' : World} {lo n c k : Nat} {A : Option Addr} {ms : List (List Int)} {rs : List Row} (h : Mms w lo A n c ms rs) (hb : Below w.heap.size w w') (hk : k < n) :
    ∃ (ad : Addr) (r : Row), A = some ad ∧ ms[k]? = some r.xs ∧ r.n = r.xs.length ∧ w'.cell? (ad.add k) = some (.slice r.A r.n r.c) ∧ Reads w' w'.heap.size 1 r.A r.n (ints r.xs) ∧ (∀ a, r.A = some a → lo ≤ a.block ∧ a.block < w.heap.size) := by
  have hR := h.oss.reads
  obtain ⟨ad, r, e, hr, hc, hrr⟩ := (hR.below hb).at_ hk
  refine ⟨ad, r, e, by rw [← h.dat]; exact dat_at hr, (ints_len hrr).symm, hc, hrr.more hb.size, fun a ha => ?_⟩
  exact ((h.oss.row r (List.mem_of_getElem? hr)).lt a.block (by rw [show r.val = .slice (some a) r.n r.c by unfold Row.val; rw [ha]]; rfl))
theorem Mms.len {w : World} {lo n c : Nat} {A : Option Addr} {ms : List (List Int)} {rs : List Row} (h : Mms w lo A n c ms rs) : ms.length = n := by rw [← h.dat, dat_len]; exact h.oss.reads.len
set_option maxHeartbeats 3200000 in
set_option maxRecDepth 100000 in
theorem specFlowsOfMeshes_any (J : Int) (M : Option Addr) (m d : Nat) (xs : List Awy) (A0 : Option Addr) (n0 c0 : Nat) (am : List Int) (w : World) (hm : Reads w w.heap.size 7 M m (Awy.recs xs)) (hmn : m ≤ 1048576) (hxs : ∀ x ∈ xs, x.s.size ≤ maxLen) (hr : Reads w w.heap.size 1 A0 n0 (ints am)) (hn0 : n0 ≤ 1048576) :
    Calls Try.prog 17 #[.agg #[.int .i64 J, .slice M m d], .slice A0 n0 c0] w fun e w' => ∃ A' n' c', e = .returned (.tuple #[.slice A' n' c', .int .i64 (fomR J xs am).2]) ∧ w'.ownsRow w.heap.size 2 1 (.slice A' n' c') n' (ints (fomR J xs am).1) ∧ n' ≤ 1048576 ∧ Below w.heap.size w w' := by
  obtain ⟨i0, hi0, hz0, hz1, hz2⟩ := info_parts info_Int64S
  have HLm := Lib.hid (recs_rlen Awy.clen (by omega) hm)
  have HL0 := Lib.hid (ints_len hr)
  have hb : Below w.heap.size w (w.alloc (.cells #[.int .i64 J, .slice M m d] 31)) := (Below.refl _ _).alloc (Nat.le_refl _) _
  have g0 : (w.alloc (.cells #[.int .i64 J, .slice M m d] 31)).cell? ⟨w.heap.size, 0, none⟩ = some (.int .i64 J) := ((Blk.new w _ _).cell 0).trans rfl
  have g1 : (w.alloc (.cells #[.int .i64 J, .slice M m d] 31)).cell? ⟨w.heap.size, 1, none⟩ = some (.slice M m d) := ((Blk.new w _ _).cell 1).trans rfl
  have z0 : w.heap.size < (w.alloc (.cells #[.int .i64 J, .slice M m d] 31)).heap.size := by simp
  have HW := Lib.hid (fun W (hb : Below w.heap.size w W) => (hm.below hb).more hb.size)
  have HR := Lib.hid (fun W (hb : Below w.heap.size w W) => (hr.below hb).more hb.size)
  have hmk := run_make_row' (P := Try.prog) 25 2 (.int .i64 0) 8 Try.underlying25 info_Int64S rfl .i64 .i64 m (by omega) (by omega)
  have cm := l04Ok_any J M m d xs ⟨w.heap.size, 0, none⟩ _ (HW.out _ hb) hmn hxs (Cells.new w _ _)
  rcases Bool.eq_false_or_eq_true (mineOk J xs) with k1 | k1
  · have K1 := Lib.hid k1
    have hm24 : m ≤ 24 := by have := (mineOk_t k1).2.1; rw [HLm.out] at this; exact this
    have HMO := Lib.hid (meshL_ok k1)
    have HML := Lib.hid (meshL_len k1)
    have HFM := Lib.hid (fun h => fomR_7 (am := am) k1 h)
    have HF6 := Lib.hid (fun h h2 => fomR_6 (am := am) k1 h h2)
    have HF0 := Lib.hid (fun h h2 => fomR_0 (am := am) k1 h h2)
    rw [k1] at cm
    clear k1 hxs
    go_enter Try.func17, Try.ntmps17
    go_wp2_with fail; ((with_reducible refine cm.mono ?_); rintro e w1 ⟨rfl, hb1⟩)
    have B1 := hb.trans (hb1.mono hb.size)
    have p0 := (hb1.cell (p := ⟨w.heap.size, 0, none⟩) z0).trans g0
    have p1 := (hb1.cell (p := ⟨w.heap.size, 1, none⟩) z0).trans g1
    have z1 := Nat.lt_of_lt_of_le z0 hb1.size
    have cM := l04Meshes_any J M m d xs ⟨w.heap.size, 0, none⟩ w1 (HW.out _ B1) K1.out p0 p1
    clear cm hb hb1 g0 g1
    go_wp2_with fail; ((with_reducible refine cM.mono ?_); rintro e w2 ⟨A2, n2, c2, rs, rfl, hos, hda, hb2⟩)
    have HMS : Hid (Mms w2 w1.heap.size A2 n2 c2 (meshL J xs) rs) := ⟨hos, hda⟩
    have B2 := B1.trans (hb2.mono B1.size)
    have q0 := (hb2.cell (p := ⟨w.heap.size, 0, none⟩) z1).trans p0
    have q1 := (hb2.cell (p := ⟨w.heap.size, 1, none⟩) z1).trans p1
    have z2 := Nat.lt_of_lt_of_le z1 hb2.size
    have HN2 := Lib.hid (HMS.out.len)
    have hn24 : n2 ≤ 24 := by rw [← HN2.out]; exact HML.out
    clear cM hos hda hb2 p0 p1
    go_wp2
    go_loop [7] (fun i => ∃ k : Nat, k ≤ n0 ∧ i = .int .i64 k ∧ Hid ((am.take k).all (fun x => inB x (-100000) 100000) = true)) (fun i => n0 - (intOf i).toNat)
    case atStart => exact ⟨0, by omega, rfl, rfl⟩
    case round =>
      obtain ⟨k, hk, rfl, HK⟩ := hrel
      by_cases hlt : k < n0
      · obtain ⟨ad, u, rfl, had, hx, hc⟩ := (HR.out w2 B2).at_ hlt
        obtain ⟨b, hb, rfl⟩ := ints_at hx
        have HX := Lib.hid hb
        clear hb hx
        cases hp : inB b (-100000) 100000
        · have HV := Lib.hid (HFM.out (by unfold lstOk allIn; rw [all_false (p := fun x => inB x (-100000) 100000) HX.out hp, Bool.false_and]))
          have HP : Hid (inB b (-100000) 100000 = false) := hp
          go_wp2_with (go_at_call 49; refine ((show Calls Try.prog _ _ _ (fun e w' => e = .returned (.bool (inB _ (-100000) 100000)) ∧ _ = w') from l03Flow_any _ _)).mono ?_; rintro e w' ⟨rfl, rfl⟩)
          go_ret2
          rw [HV.out]
          exact ⟨none, 0, 0, rfl, own_nil _ _ _ _, by omega, B2⟩
        · have HP : Hid (inB b (-100000) 100000 = true) := hp
          go_wp2_with (go_at_call 49; refine ((show Calls Try.prog _ _ _ (fun e w' => e = .returned (.bool (inB _ (-100000) 100000)) ∧ _ = w') from l03Flow_any _ _)).mono ?_; rintro e w' ⟨rfl, rfl⟩)
          go_round
          case rel => exact ⟨k + 1, by omega, by go_num, all_take HX.out HK.out HP.out⟩
          case measure => simp [intOf]; omega
      · have e : k = n0 := by omega
        have HAL : Hid (allIn (-100000) 100000 am = true) := all_whole (HL0.out.trans e.symm) HK.out
        clear e
        by_cases hne : n0 = n2
        · have HAB : Hid (∀ a ∈ am, -100000 ≤ a ∧ a ≤ 100000) := fun a h => allIn_mem HAL.out h
          have HLS : Hid (lstOk (meshL J xs).length (-100000) 100000 am = true) := show _ = _ by unfold lstOk; rw [HAL.out, HL0.out, HN2.out, hne]; simp
          have HFB : Hid (∀ k : Nat, ∀ x ∈ flowTo (meshL J xs) am (zrs m) k, -(100000 + 1800000 * (k : Int)) ≤ x ∧ x ≤ 100000 + 1800000 * (k : Int)) := flowTo_bnd (fun s h => (HMO.out s h).1) HAB.out (fun x h => by have := List.eq_of_mem_replicate h; omega)
          have hneI : ((n0 : Int) != (n2 : Int)) = false := by rw [hne]; simp
          have HNE := Lib.hid hne
          clear hne
          have HZ := Lib.hid (zrs_own w2 m (by omega))
          have HBZ : Hid (Below w2.heap.size w2 (w2.alloc (.cells (madeCells #[.int .i64 0] m) 2))) := (Below.refl _ _).alloc (Nat.le_refl _) _
          go_wp2
          go_loopw [9] (fun i wr => ∃ k : Nat, k ≤ n2 ∧ i = .int .i64 k ∧ wr.ownsRow w2.heap.size 2 1 (.slice (some ⟨w2.heap.size, 0, none⟩) m m) m (ints (flowTo (meshL J xs) am (zrs m) k)) ∧ Below w2.heap.size w2 wr) (fun i _ => n2 - (intOf i).toNat)
          case atStart => exact ⟨0, by omega, rfl, HZ.out, HBZ.out⟩
          case round =>
            obtain ⟨k, hk, rfl, hok, hbr⟩ := hrel
            obtain ⟨wo, rfl⟩ : ∃ wo : World, wo = wr := ⟨_, rfl⟩
            have hzo := hbr.size
            have r0 := (hbr.cell (p := ⟨w.heap.size, 0, none⟩) z2).trans q0
            have r1 := (hbr.cell (p := ⟨w.heap.size, 1, none⟩) z2).trans q1
            have Bo := B2.trans (hbr.mono B2.size)
            by_cases hlt : k < n2
            · obtain ⟨ad, r, rfl, hms, hrl, hc, hrr, hra⟩ := HMS.out.row_at hbr hlt
              obtain ⟨av, hvk⟩ : ∃ a, am[k]? = some a := ⟨_, List.getElem?_eq_getElem (by rw [HL0.out, HNE.out]; exact hlt)⟩
              obtain ⟨td, rfl, htd, _, hct⟩ := (HR.out wo Bo).int_at hvk
              have hav := HAB.out av (List.mem_of_getElem? hvk)
              have HS := Lib.hid (flowTo_snoc (f := zrs m) hms hvk)
              have HRL := Lib.hid hrl
              have hmo := HMO.out r.xs (List.mem_of_getElem? hms)
              have HCC : Hid (∀ W : World, Below wo.heap.size wo W → W.ownsRow w2.heap.size 2 1 (.slice (some ⟨w2.heap.size, 0, none⟩) m m) m (ints (flowTo (meshL J xs) am (zrs m) k)) → Calls Try.prog 50 #[.slice (some ⟨w2.heap.size, 0, none⟩) m m, .slice r.A r.n r.c, .int .i64 av] W fun e w' => e = .returned (.tuple #[]) ∧ w'.ownsRow w2.heap.size 2 1 (.slice (some ⟨w2.heap.size, 0, none⟩) m m) m (ints (addL (flowTo (meshL J xs) am (zrs m) k) r.xs av r.n)) ∧ W.grownBy w' (some w2.heap.size)) := fun W hW hO => l07Add_any w2.heap.size w2.heap.size m m _ r.A r.n r.c r.xs av (100000 + 1800000 * (k : Int)) W hO ((hrr.below hW).more hW.size) (by omega) (fun a ha => by have := hra a ha; omega) (by have h := hmo.2.2; rw [HLm.out] at h; exact h) (by omega) (by omega) (by omega) (HFB.out k) (by omega) (by omega)
              have hkI : (k : Int) < (n2 : Int) := by omega
              have hkI0 : (k : Int) < (n0 : Int) := by have := HNE.out; omega
              clear hms hmo hrr hra hvk hrl
              have HOW := Lib.hid (own_below hok ((Below.refl _ _).drew))
              clear hok
              go_wp2
              go_still_tail 9, (by kernel_rfl)
              go_wp2_with fail; ((with_reducible refine (HCC.out _ ((Below.refl _ _).drew) HOW.out).mono ?_); rintro e w3 ⟨rfl, ho3, hg3⟩)
              have HO3 := Lib.hid ho3
              have hb3 : Below w2.heap.size w2 w3 := (below_drew hbr).grown hg3 hzo (fun q hq => Nat.le_of_eq (Option.some.inj hq))
              clear ho3 hg3
              go_wp2
              go_roundw
              case rel => exact ⟨k + 1, by omega, by go_num, by rw [HS.out, ← HRL.out]; exact HO3.out, hb3⟩
              case measure => simp [intOf]; omega
            · have e : k = n2 := by omega
              have hok2 : wo.ownsRow w2.heap.size 2 1 (.slice (some ⟨w2.heap.size, 0, none⟩) m m) m (ints (flowTo (meshL J xs) am (zrs xs.length) (meshL J xs).length)) := by rw [HLm.out, HN2.out, ← e]; exact hok
              have HOK2 := Lib.hid hok2
              have cf := l07Flows_any m M d ⟨w.heap.size, 0, none⟩ (some ⟨w2.heap.size, 0, none⟩) m m _ wo (Reads.of_own hok2) (by omega) r1
              generalize hFF : flowTo (meshL J xs) am (zrs xs.length) (meshL J xs).length = FF at *
              rcases Bool.eq_false_or_eq_true (lstOk m (-100000) 100000 FF) with kf | kf
              · have HV := Lib.hid (HF0.out HLS.out (by rw [HLm.out]; exact kf))
                rw [kf] at cf
                have HCF := Lib.hid cf
                clear cf kf e hok hok2 hFF
                go_wp2_with fail; ((with_reducible refine HCF.out.mono ?_); rintro e w' ⟨rfl, rfl⟩)
                go_wp2
                go_ret2
                rw [HV.out]
                exact ⟨_, m, m, rfl, own_base HOK2.out B2.size, by omega, Bo⟩
              · have HV := Lib.hid (HF6.out HLS.out (by rw [HLm.out]; exact kf))
                rw [kf] at cf
                have HCF := Lib.hid cf
                clear cf kf e hok hok2 hFF
                go_wp2_with fail; ((with_reducible refine HCF.out.mono ?_); rintro e w' ⟨rfl, rfl⟩)
                go_wp2
                go_ret2
                rw [HV.out]
                exact ⟨none, 0, 0, rfl, own_nil _ _ _ _, by omega, Bo⟩
        · have HV := Lib.hid (HFM.out (by unfold lstOk; rw [HL0.out, HN2.out, show ((n0 : Int) == (n2 : Int)) = false from beq_eq_false_iff_ne.2 (by omega), Bool.and_false]))
          have hneI : ((n0 : Int) != (n2 : Int)) = true := by rw [bne_iff_ne]; omega
          clear hne
          go_wp2
          go_ret2
          rw [HV.out]
          exact ⟨none, 0, 0, rfl, own_nil _ _ _ _, by omega, B2⟩
  · have HV := Lib.hid (fomR_1 (am := am) k1)
    rw [k1] at cm
    have HCM := Lib.hid cm
    clear cm k1 hxs
    go_enter Try.func17, Try.ntmps17
    go_wp2_with fail; ((with_reducible refine HCM.out.mono ?_); rintro e w1 ⟨rfl, hb1⟩)
    go_wp2
    go_ret2
    rw [HV.out]
    exact ⟨none, 0, 0, rfl, own_nil _ _ _ _, by omega, hb.trans (hb1.mono hb.size)⟩
set_option maxHeartbeats 3200000 in
set_option maxRecDepth 100000 in
theorem implFlowsOfMeshes_any (J : Int) (M : Option Addr) (m d : Nat) (xs : List Awy) (A0 : Option Addr) (n0 c0 : Nat) (am : List Int) (w : World) (hm : Reads w w.heap.size 7 M m (Awy.recs xs)) (hmn : m ≤ 1048576) (hxs : ∀ x ∈ xs, x.s.size ≤ maxLen) (hr : Reads w w.heap.size 1 A0 n0 (ints am)) (hn0 : n0 ≤ 1048576) :
    Calls Try.prog 18 #[.agg #[.int .i64 J, .slice M m d], .slice A0 n0 c0] w fun e w' => ∃ A' n' c', e = .returned (.tuple #[.slice A' n' c', .int .i64 (fomR J xs am).2]) ∧ w'.ownsRow w.heap.size 2 1 (.slice A' n' c') n' (ints (fomR J xs am).1) ∧ n' ≤ 1048576 ∧ Below w.heap.size w w' := by
  obtain ⟨i0, hi0, hz0, hz1, hz2⟩ := info_parts info_Int64S
  have HLm := Lib.hid (recs_rlen Awy.clen (by omega) hm)
  have HL0 := Lib.hid (ints_len hr)
  have hb : Below w.heap.size w (w.alloc (.cells #[.int .i64 J, .slice M m d] 31)) := (Below.refl _ _).alloc (Nat.le_refl _) _
  have g0 : (w.alloc (.cells #[.int .i64 J, .slice M m d] 31)).cell? ⟨w.heap.size, 0, none⟩ = some (.int .i64 J) := ((Blk.new w _ _).cell 0).trans rfl
  have g1 : (w.alloc (.cells #[.int .i64 J, .slice M m d] 31)).cell? ⟨w.heap.size, 1, none⟩ = some (.slice M m d) := ((Blk.new w _ _).cell 1).trans rfl
  have z0 : w.heap.size < (w.alloc (.cells #[.int .i64 J, .slice M m d] 31)).heap.size := by simp
  have HW := Lib.hid (fun W (hb : Below w.heap.size w W) => (hm.below hb).more hb.size)
  have HR := Lib.hid (fun W (hb : Below w.heap.size w W) => (hr.below hb).more hb.size)
  have hmk := run_make_row' (P := Try.prog) 25 2 (.int .i64 0) 8 Try.underlying25 info_Int64S rfl .i64 .i64 m (by omega) (by omega)
  have cm := implValidMine_any J M m d xs (w.alloc (.cells #[.int .i64 J, .slice M m d] 31)) (HW.out _ hb) hmn hxs
  rcases Bool.eq_false_or_eq_true (mineOk J xs) with k1 | k1
  · have K1 := Lib.hid k1
    have hm24 : m ≤ 24 := by have := (mineOk_t k1).2.1; rw [HLm.out] at this; exact this
    have HMO := Lib.hid (meshL_ok k1)
    have HML := Lib.hid (meshL_len k1)
    have HFM := Lib.hid (fun h => fomR_7 (am := am) k1 h)
    have HF6 := Lib.hid (fun h h2 => fomR_6 (am := am) k1 h h2)
    have HF0 := Lib.hid (fun h h2 => fomR_0 (am := am) k1 h h2)
    rw [k1] at cm
    clear k1 hxs
    go_enter Try.func18, Try.ntmps18
    go_wp2_with fail; ((with_reducible refine cm.mono ?_); rintro e w1 ⟨rfl, hb1⟩)
    have B1 := hb.trans (hb1.mono hb.size)
    have p0 := (hb1.cell (p := ⟨w.heap.size, 0, none⟩) z0).trans g0
    have p1 := (hb1.cell (p := ⟨w.heap.size, 1, none⟩) z0).trans g1
    have z1 := Nat.lt_of_lt_of_le z0 hb1.size
    have cM := meshes_any J M m d xs w1 (HW.out _ B1) K1.out
    clear cm hb hb1 g0 g1
    go_wp2_with fail; ((with_reducible refine cM.mono ?_); rintro e w2 ⟨A2, n2, c2, rs, rfl, hos, hda, hb2⟩)
    have HMS : Hid (Mms w2 w1.heap.size A2 n2 c2 (meshL J xs) rs) := ⟨hos, hda⟩
    have B2 := B1.trans (hb2.mono B1.size)
    have q0 := (hb2.cell (p := ⟨w.heap.size, 0, none⟩) z1).trans p0
    have q1 := (hb2.cell (p := ⟨w.heap.size, 1, none⟩) z1).trans p1
    have z2 := Nat.lt_of_lt_of_le z1 hb2.size
    have HN2 := Lib.hid (HMS.out.len)
    have hn24 : n2 ≤ 24 := by rw [← HN2.out]; exact HML.out
    clear cM hos hda hb2 p0 p1
    have ca := allWithin_any A0 n0 c0 am (-100000) 100000 w2 (HR.out w2 B2) (by omega)
    by_cases hne : n0 = n2
    · rcases Bool.eq_false_or_eq_true (allIn (-100000) 100000 am) with ka | ka
      · have HAL := Lib.hid ka
        rw [ka] at ca
        have HCA := Lib.hid ca
        clear ca ka
        have hneI0 : ((n0 : Int) != (n2 : Int)) = false := by rw [hne]; simp
        have HNE0 := Lib.hid hne
        clear hne
        go_wp2_with fail; ((with_reducible refine HCA.out.mono ?_); rintro e w2' ⟨rfl, hb2'⟩)
        have hne := HNE0.out
        have HMS2 := Lib.hid (HMS.out.below hb2')
        have B2' := B2.trans (hb2'.mono B2.size)
        have q0' := (hb2'.cell (p := ⟨w.heap.size, 0, none⟩) z2).trans q0
        have q1' := (hb2'.cell (p := ⟨w.heap.size, 1, none⟩) z2).trans q1
        have z2' := Nat.lt_of_lt_of_le z2 hb2'.size
        clear HMS B2 q0 q1 z2 HCA hneI0 hb2'
        obtain ⟨HMS, B2, q0, q1, z2⟩ := And.intro HMS2 (And.intro B2' (And.intro q0' (And.intro q1' z2')))
        clear HMS2 B2' q0' q1' z2'
        obtain ⟨w2, rfl⟩ : ∃ w2 : World, w2 = w2' := ⟨_, rfl⟩
        have HAB : Hid (∀ a ∈ am, -100000 ≤ a ∧ a ≤ 100000) := fun a h => allIn_mem HAL.out h
        have HLS : Hid (lstOk (meshL J xs).length (-100000) 100000 am = true) := show _ = _ by unfold lstOk; rw [HAL.out, HL0.out, HN2.out, hne]; simp
        have HFB : Hid (∀ k : Nat, ∀ x ∈ flowTo (meshL J xs) am (zrs m) k, -(100000 + 1800000 * (k : Int)) ≤ x ∧ x ≤ 100000 + 1800000 * (k : Int)) := flowTo_bnd (fun s h => (HMO.out s h).1) HAB.out (fun x h => by have := List.eq_of_mem_replicate h; omega)
        have hneI : ((n0 : Int) != (n2 : Int)) = false := by rw [hne]; simp
        have HNE := Lib.hid hne
        clear hne
        have HZ := Lib.hid (zrs_own w2 m (by omega))
        have HBZ : Hid (Below w2.heap.size w2 (w2.alloc (.cells (madeCells #[.int .i64 0] m) 2))) := (Below.refl _ _).alloc (Nat.le_refl _) _
        go_wp2
        go_loopw [31] (fun i wr => ∃ k : Nat, k ≤ n2 ∧ i = .int .i64 k ∧ wr.ownsRow w2.heap.size 2 1 (.slice (some ⟨w2.heap.size, 0, none⟩) m m) m (ints (flowTo (meshL J xs) am (zrs m) k)) ∧ Below w2.heap.size w2 wr) (fun i _ => n2 - (intOf i).toNat)
        case atStart => exact ⟨0, by omega, rfl, HZ.out, HBZ.out⟩
        case round =>
          obtain ⟨k, hk, rfl, hok, hbr⟩ := hrel
          obtain ⟨wo, rfl⟩ : ∃ wo : World, wo = wr := ⟨_, rfl⟩
          have hzo := hbr.size
          have r0 := (hbr.cell (p := ⟨w.heap.size, 0, none⟩) z2).trans q0
          have r1 := (hbr.cell (p := ⟨w.heap.size, 1, none⟩) z2).trans q1
          have Bo := B2.trans (hbr.mono B2.size)
          by_cases hlt : k < n2
          · obtain ⟨ad, r, rfl, hms, hrl, hc, hrr, hra⟩ := HMS.out.row_at hbr hlt
            obtain ⟨av, hvk⟩ : ∃ a, am[k]? = some a := ⟨_, List.getElem?_eq_getElem (by rw [HL0.out, HNE.out]; exact hlt)⟩
            obtain ⟨td, rfl, htd, _, hct⟩ := (HR.out wo Bo).int_at hvk
            have hav := HAB.out av (List.mem_of_getElem? hvk)
            have HS := Lib.hid (flowTo_snoc (f := zrs m) hms hvk)
            have HRL := Lib.hid hrl
            have hmo := HMO.out r.xs (List.mem_of_getElem? hms)
            have HCC : Hid (∀ W : World, Below wo.heap.size wo W → W.ownsRow w2.heap.size 2 1 (.slice (some ⟨w2.heap.size, 0, none⟩) m m) m (ints (flowTo (meshL J xs) am (zrs m) k)) → Calls Try.prog 55 #[.slice (some ⟨w2.heap.size, 0, none⟩) m m, .slice r.A r.n r.c, .int .i64 av] W fun e w' => e = .returned (.tuple #[]) ∧ w'.ownsRow w2.heap.size 2 1 (.slice (some ⟨w2.heap.size, 0, none⟩) m m) m (ints (addL (flowTo (meshL J xs) am (zrs m) k) r.xs av r.n)) ∧ W.grownBy w' (some w2.heap.size)) := fun W hW hO => addAlong_any w2.heap.size w2.heap.size m m _ r.A r.n r.c r.xs av (100000 + 1800000 * (k : Int)) W hO ((hrr.below hW).more hW.size) (by omega) (fun a ha => by have := hra a ha; omega) (by have h := hmo.2.2; rw [HLm.out] at h; exact h) (by omega) (by omega) (by omega) (HFB.out k) (by omega) (by omega)
            have hkI : (k : Int) < (n2 : Int) := by omega
            have hkI0 : (k : Int) < (n0 : Int) := by have := HNE.out; omega
            clear hms hmo hrr hra hvk hrl
            have HOW := Lib.hid hok
            clear hok
            go_wp2_with fail; ((with_reducible refine (HCC.out _ (Below.refl _ _) HOW.out).mono ?_); rintro e w3 ⟨rfl, ho3, hg3⟩)
            have HO3 := Lib.hid ho3
            have hb3 : Below w2.heap.size w2 w3 := hbr.grown hg3 hzo (fun q hq => Nat.le_of_eq (Option.some.inj hq))
            clear ho3 hg3
            go_wp2
            go_roundw
            case rel => exact ⟨k + 1, by omega, by go_num, by rw [HS.out, ← HRL.out]; exact HO3.out, hb3⟩
            case measure => simp [intOf]; omega
          · have e : k = n2 := by omega
            have hok2 : wo.ownsRow w2.heap.size 2 1 (.slice (some ⟨w2.heap.size, 0, none⟩) m m) m (ints (flowTo (meshL J xs) am (zrs xs.length) (meshL J xs).length)) := by rw [HLm.out, HN2.out, ← e]; exact hok
            have HOK2 := Lib.hid hok2
            have cf := hasFlows_any J M m d (some ⟨w2.heap.size, 0, none⟩) m m _ wo (Reads.of_own hok2) (by omega)
            generalize hFF : flowTo (meshL J xs) am (zrs xs.length) (meshL J xs).length = FF at *
            rcases Bool.eq_false_or_eq_true (lstOk m (-100000) 100000 FF) with kf | kf
            · have HV := Lib.hid (HF0.out HLS.out (by rw [HLm.out]; exact kf))
              rw [kf] at cf
              have HCF := Lib.hid cf
              clear cf kf e hok hok2 hFF
              go_wp2_with fail; ((with_reducible refine HCF.out.mono ?_); rintro e w4 ⟨rfl, hb4⟩)
              go_wp2
              go_ret2
              rw [HV.out]
              exact ⟨_, m, m, rfl, own_base (own_below HOK2.out hb4) B2.size, by omega, Bo.trans (hb4.mono Bo.size)⟩
            · have HV := Lib.hid (HF6.out HLS.out (by rw [HLm.out]; exact kf))
              rw [kf] at cf
              have HCF := Lib.hid cf
              clear cf kf e hok hok2 hFF
              go_wp2_with fail; ((with_reducible refine HCF.out.mono ?_); rintro e w4 ⟨rfl, hb4⟩)
              go_wp2
              go_ret2
              rw [HV.out]
              exact ⟨none, 0, 0, rfl, own_nil _ _ _ _, by omega, Bo.trans (hb4.mono Bo.size)⟩
      · have HV := Lib.hid (HFM.out (by unfold lstOk; rw [ka, Bool.false_and]))
        rw [ka] at ca
        have HCA := Lib.hid ca
        clear ca ka
        have hneI0 : ((n0 : Int) != (n2 : Int)) = false := by rw [hne]; simp
        clear hne
        go_wp2_with fail; ((with_reducible refine HCA.out.mono ?_); rintro e w3 ⟨rfl, hb3⟩)
        go_wp2
        go_ret2
        rw [HV.out]
        exact ⟨none, 0, 0, rfl, own_nil _ _ _ _, by omega, B2.trans (hb3.mono B2.size)⟩
    · have HV := Lib.hid (HFM.out (by unfold lstOk; rw [HL0.out, HN2.out, show ((n0 : Int) == (n2 : Int)) = false from beq_eq_false_iff_ne.2 (by omega), Bool.and_false]))
      have hneI : ((n0 : Int) != (n2 : Int)) = true := by rw [bne_iff_ne]; omega
      clear hne ca
      go_wp2
      go_ret2
      rw [HV.out]
      exact ⟨none, 0, 0, rfl, own_nil _ _ _ _, by omega, B2⟩
  · have HV := Lib.hid (fomR_1 (am := am) k1)
    rw [k1] at cm
    have HCM := Lib.hid cm
    clear cm k1 hxs
    go_enter Try.func18, Try.ntmps18
    go_wp2_with fail; ((with_reducible refine HCM.out.mono ?_); rintro e w1 ⟨rfl, hb1⟩)
    go_wp2
    go_ret2
    rw [HV.out]
    exact ⟨none, 0, 0, rfl, own_nil _ _ _ _, by omega, hb.trans (hb1.mono hb.size)⟩
end Go.Proofs.Ytjmhhbjbmgpagaa

/- Contracts of the errors of walks and of the steps against them, both sides. -/
namespace Go.Proofs.Ytjmhhbjbmgpagaa
set_option linter.unusedVariables false
set_option linter.unusedSimpArgs false
open Go.RowKit
/-- Numbers that make a system. -/
def SysB (rs ps fs ws : List Int) (n : Nat) : Prop := (∀ r ∈ rs, isRes r = true) ∧ (∀ p ∈ ps, -1000000 ≤ p ∧ p ≤ 1000000) ∧ (∀ f ∈ fs, isFlow f = true) ∧ (∀ x ∈ ws, wkB n x = true)
def erT (rs ps fs ws : List Int) : Nat → Int
  | 0 => 0
  | k + 1 => erT rs ps fs ws k + wkS (ws.getD k 0) * (drop (rs.getD (wkI (ws.getD k 0)) 0) (fs.getD (wkI (ws.getD k 0)) 0) - ps.getD (wkI (ws.getD k 0)) 0)
theorem erT_s {rs ps fs ws : List Int} {k : Nat} {x r p f : Int} (hx : ws[k]? = some x) (hr : rs[wkI x]? = some r) (hp : ps[wkI x]? = some p) (hf : fs[wkI x]? = some f) : erT rs ps fs ws (k + 1) = erT rs ps fs ws k + wkS x * (drop r f - p) := by
  simp only [erT]; rw [getW_at hx, getW_at hr, getW_at hp, getW_at hf]
theorem wkS_or (x : Int) : wkS x = 1 ∨ wkS x = -1 := by unfold wkS; split <;> simp
theorem sgn_bnd {s v B : Int} (hs : s = 1 ∨ s = -1) (h1 : -B ≤ v) (h2 : v ≤ B) : -B ≤ s * v ∧ s * v ≤ B := by
  rcases hs with rfl | rfl
  · rw [Int.one_mul]; omega
  · rw [Int.neg_mul, Int.one_mul]; omega
/-- What stands at a number of a walk. -/
theorem sys_at {rs ps fs ws : List Int} {n k : Nat} {x : Int} (h : SysB rs ps fs ws n) (hr : rs.length = n) (hp : ps.length = n) (hf : fs.length = n) (hx : ws[k]? = some x) :
    ∃ r p f : Int, rs[wkI x]? = some r ∧ ps[wkI x]? = some p ∧ fs[wkI x]? = some f ∧ isRes r = true ∧ (-1000000 ≤ p ∧ p ≤ 1000000) ∧ isFlow f = true ∧ wkI x < n ∧ wkB n x = true := by
  obtain ⟨h1, h2, h3, h4⟩ := h
  have hw := h4 x (List.mem_of_getElem? hx)
  have hl := wkI_lt hw
  exact ⟨rs[wkI x], ps[wkI x], fs[wkI x], List.getElem?_eq_getElem (by omega), List.getElem?_eq_getElem (by omega), List.getElem?_eq_getElem (by omega), h1 _ (List.getElem_mem _), h2 _ (List.getElem_mem _), h3 _ (List.getElem_mem _), hl, hw⟩
theorem erT_bnd {rs ps fs ws : List Int} {n : Nat} (h : SysB rs ps fs ws n) (hr : rs.length = n) (hp : ps.length = n) (hf : fs.length = n) : ∀ k : Nat, k ≤ ws.length → -(2000000 * (k : Int)) ≤ erT rs ps fs ws k ∧ erT rs ps fs ws k ≤ 2000000 * (k : Int)
  | 0, _ => by simp [erT]
  | k + 1, hk => by
    have ih := erT_bnd h hr hp hf k (by omega)
    obtain ⟨r, p, f, e1, e2, e3, e4, e5, e6, _⟩ := sys_at h hr hp hf (List.getElem?_eq_getElem (l := ws) (i := k) (by omega))
    rw [erT_s (List.getElem?_eq_getElem (by omega)) e1 e2 e3]
    have hd := drop_bnd e4 e6
    have hs := sgn_bnd (B := 2000000) (wkS_or ws[k]) (v := drop r f - p) (by omega) (by omega)
    omega
/-- A callee that only draws, behind draws. -/
theorem quiet_same {f : FuncId} {args : Array Value} {v : Value} {w : World} (h : ∀ W : World, Calls Try.prog f args W fun e w' => e = .returned v ∧ W = w') : ∀ m, Calls Try.prog f args (w.drewN m) fun e w'' => e = .returned v ∧ ∃ q, w'' = w.drewN q :=
  fun m => (h _).mono fun _ _ ⟨he, hw⟩ => ⟨he, m, hw.symm⟩
theorem quiet_drew {f : FuncId} {args : Array Value} {v : Value} {w : World} (h : ∀ W : World, Calls Try.prog f args W fun e w' => e = .returned v ∧ ∃ n, w' = W.drewN n) : ∀ m, Calls Try.prog f args (w.drewN m) fun e w'' => e = .returned v ∧ ∃ q, w'' = w.drewN q :=
  fun m => Calls.quiet_of (h (w.drewN m))
set_option maxHeartbeats 1600000 in
set_option maxRecDepth 100000 in
theorem l07Error_any (A : Option Addr) (n a : Nat) (rs : List Int) (B : Option Addr) (b : Nat) (ps : List Int) (C : Option Addr) (c : Nat) (fs : List Int) (D : Option Addr) (q d : Nat) (ws : List Int) (w : World)
    (hA : Reads w w.heap.size 1 A n (ints rs)) (hB : Reads w w.heap.size 1 B n (ints ps)) (hC : Reads w w.heap.size 1 C n (ints fs)) (hD : Reads w w.heap.size 1 D q (ints ws)) (hs : SysB rs ps fs ws n) (hn : n ≤ 1000000) (hq : q ≤ 1000) :
    Calls Try.prog 125 #[.slice A n a, .slice B n b, .slice C n c, .slice D q d] w fun e w' => e = .returned (.int .i64 (erT rs ps fs ws q)) ∧ ∃ m, w' = w.drewN m := by
  have HLA := Lib.hid (ints_len hA)
  have HLB := Lib.hid (ints_len hB)
  have HLC := Lib.hid (ints_len hC)
  have HLD := Lib.hid (ints_len hD)
  have HS := Lib.hid hs
  have HBD := Lib.hid (fun k h => erT_bnd hs HLA.out HLB.out HLC.out k h)
  have HR := Lib.hid (And.intro hA (And.intro hB (And.intro hC hD)))
  clear hs hA hB hC hD
  go_enter Try.func125, Try.ntmps125
  go_wp2
  go_loopw [9, 10] (fun s i wr => ∃ k m : Nat, k ≤ q ∧ s = .int .i64 (erT rs ps fs ws k) ∧ i = .int .i64 k ∧ Hid (wr = w.drewN m)) (fun _ i _ => q - (intOf i).toNat)
  case atStart => exact ⟨0, 0, by omega, rfl, rfl, rfl⟩
  case round =>
    obtain ⟨k, m, hk, rfl, rfl, HWD⟩ := hrel
    by_cases hlt : k < q
    · obtain ⟨wo, rfl⟩ : ∃ wo : World, wo = wr := ⟨_, rfl⟩
      have hRW : Reads wo wo.heap.size 1 A n (ints rs) ∧ Reads wo wo.heap.size 1 B n (ints ps) ∧ Reads wo wo.heap.size 1 C n (ints fs) ∧ Reads wo wo.heap.size 1 D q (ints ws) := by rw [HWD.out]; exact HR.out
      obtain ⟨x, hx⟩ : ∃ x, ws[k]? = some x := ⟨_, List.getElem?_eq_getElem (by rw [HLD.out]; exact hlt)⟩
      obtain ⟨r, p, f, e1, e2, e3, e4, e5, e6, hl, hw⟩ := sys_at HS.out HLA.out HLB.out HLC.out hx
      obtain ⟨ad, rfl, _, _, ca⟩ := hRW.1.int_at e1
      obtain ⟨bd, rfl, _, _, cb⟩ := hRW.2.1.int_at e2
      obtain ⟨cd, rfl, _, _, cc⟩ := hRW.2.2.1.int_at e3
      obtain ⟨dd, rfl, _, _, cx⟩ := hRW.2.2.2.int_at hx
      obtain ⟨x0, x1, x2⟩ := wkB_t hw
      have hI := wkI_int x0
      have HE := Lib.hid (erT_s hx e1 e2 e3)
      have hb := HBD.out k (by rw [HLD.out]; omega)
      have hd := drop_bnd e4 e6
      have HQD : Hid (∀ m, Calls Try.prog 159 #[.int .i64 r, .int .i64 f] (wo.drewN m) fun e w'' => e = .returned (.int .i64 (drop r f)) ∧ ∃ q, w'' = wo.drewN q) := quiet_same fun W => l03Drop_any r f W e4 e6
      have cab := l03Abs_any x wo (by omega) (by omega)
      rw [show absI x = (wkI x : Int) + 1 by omega] at cab
      have HAB := Lib.hid cab
      have hkI : (k : Int) < (q : Int) := by omega
      have hlI : (wkI x : Int) < (n : Int) := by omega
      have HIx := Lib.hid hI
      have HWS : Hid (wkS x = if 0 < x then 1 else -1) := rfl
      generalize wkI x = j at *
      generalize erT rs ps fs ws k = s at *
      generalize hDV : drop r f = dv at *
      have hw1 : IntKind.i64.wrap (dv - p) = dv - p := IntWalk.i64_in _ (by omega)
      clear hRW hx e1 e2 e3 e4 e6 hl hw hI cab hDV
      by_cases hp : 0 < x
      · have HN : Hid (erT rs ps fs ws (k + 1) = s + (dv - p)) := show _ = _ by rw [HE.out, HWS.out, if_pos hp, Int.one_mul]
        clear x0 x1 x2
        go_wp2_with fail; ((with_reducible refine HAB.out.mono ?_); rintro e w' ⟨rfl, rfl⟩)
        go_wp2
        go_quiet ((go_at_call 159; exact HQD.out _))
        go_wp2
        go_roundw
        case rel => exact ⟨k + 1, _, by omega, by rw [HN.out], by go_num, (show _ = _ by rw [HWD.out, World.drewN_drewN])⟩
        case measure => simp [intOf]; omega
      · have HN : Hid (erT rs ps fs ws (k + 1) = s - (dv - p)) := show _ = _ by rw [HE.out, HWS.out, if_neg hp]; omega
        clear x0 x1 x2
        go_wp2_with fail; ((with_reducible refine HAB.out.mono ?_); rintro e w' ⟨rfl, rfl⟩)
        go_wp2
        go_quiet ((go_at_call 159; exact HQD.out _))
        go_wp2
        go_roundw
        case rel => exact ⟨k + 1, _, by omega, by rw [HN.out], by go_num, (show _ = _ by rw [HWD.out, World.drewN_drewN])⟩
        case measure => simp [intOf]; omega
    · have e : k = q := by omega
      subst e
      go_wp2
      go_ret
      exact ⟨rfl, _, HWD.out⟩
set_option maxHeartbeats 1600000 in
set_option maxRecDepth 100000 in
theorem walkError_any (D : Option Addr) (q d : Nat) (ws : List Int) (A : Option Addr) (n a : Nat) (rs : List Int) (B : Option Addr) (b : Nat) (ps : List Int) (C : Option Addr) (c : Nat) (fs : List Int) (w : World)
    (hA : Reads w w.heap.size 1 A n (ints rs)) (hB : Reads w w.heap.size 1 B n (ints ps)) (hC : Reads w w.heap.size 1 C n (ints fs)) (hD : Reads w w.heap.size 1 D q (ints ws)) (hs : SysB rs ps fs ws n) (hn : n ≤ 1000000) (hq : q ≤ 1000) :
    Calls Try.prog 126 #[.slice D q d, .slice A n a, .slice B n b, .slice C n c] w fun e w' => e = .returned (.int .i64 (erT rs ps fs ws q)) ∧ ∃ m, w' = w.drewN m := by
  have HLA := Lib.hid (ints_len hA)
  have HLB := Lib.hid (ints_len hB)
  have HLC := Lib.hid (ints_len hC)
  have HLD := Lib.hid (ints_len hD)
  have HS := Lib.hid hs
  have HBD := Lib.hid (fun k h => erT_bnd hs HLA.out HLB.out HLC.out k h)
  have HR := Lib.hid (And.intro hA (And.intro hB (And.intro hC hD)))
  clear hs hA hB hC hD
  go_enter Try.func126, Try.ntmps126
  go_wp2
  go_loopw [9, 16] (fun s i wr => ∃ k m : Nat, k ≤ q ∧ s = .int .i64 (erT rs ps fs ws k) ∧ i = .int .i64 k ∧ Hid (wr = w.drewN m)) (fun _ i _ => q - (intOf i).toNat)
  case atStart => exact ⟨0, 0, by omega, rfl, rfl, rfl⟩
  case round =>
    obtain ⟨k, m, hk, rfl, rfl, HWD⟩ := hrel
    by_cases hlt : k < q
    · obtain ⟨wo, rfl⟩ : ∃ wo : World, wo = wr := ⟨_, rfl⟩
      have hRW : Reads wo wo.heap.size 1 A n (ints rs) ∧ Reads wo wo.heap.size 1 B n (ints ps) ∧ Reads wo wo.heap.size 1 C n (ints fs) ∧ Reads wo wo.heap.size 1 D q (ints ws) := by rw [HWD.out]; exact HR.out
      obtain ⟨x, hx⟩ : ∃ x, ws[k]? = some x := ⟨_, List.getElem?_eq_getElem (by rw [HLD.out]; exact hlt)⟩
      obtain ⟨r, p, f, e1, e2, e3, e4, e5, e6, hl, hw⟩ := sys_at HS.out HLA.out HLB.out HLC.out hx
      obtain ⟨ad, rfl, _, _, ca⟩ := hRW.1.int_at e1
      obtain ⟨bd, rfl, _, _, cb⟩ := hRW.2.1.int_at e2
      obtain ⟨cd, rfl, _, _, cc⟩ := hRW.2.2.1.int_at e3
      obtain ⟨dd, rfl, _, _, cx⟩ := hRW.2.2.2.int_at hx
      obtain ⟨x0, x1, x2⟩ := wkB_t hw
      have HE := Lib.hid (erT_s hx e1 e2 e3)
      have hb := HBD.out k (by rw [HLD.out]; omega)
      have hd := drop_bnd e4 e6
      have HQD : Hid (∀ m, Calls Try.prog 160 #[.int .i64 r, .int .i64 f] (wo.drewN m) fun e w'' => e = .returned (.int .i64 (drop r f)) ∧ ∃ q, w'' = wo.drewN q) := quiet_drew fun W => dropOf_any r f W e4 e6
      have HAB := Lib.hid (airwayOf_any x wo x0 (by omega) (by omega))
      have hkI : (k : Int) < (q : Int) := by omega
      have hlI : (wkI x : Int) < (n : Int) := by omega
      have hsg := wkS_or x
      have hsb := sgn_bnd (B := 2000000) hsg (v := drop r f - p) (by omega) (by omega)
      generalize wkI x = j at *
      generalize wkS x = sg at *
      generalize erT rs ps fs ws k = s at *
      generalize hDV : drop r f = dv at *
      have hw1 : IntKind.i64.wrap (dv - p) = dv - p := IntWalk.i64_in _ (by omega)
      have hw2 : IntKind.i64.wrap (sg * (dv - p)) = sg * (dv - p) := IntWalk.i64_in _ (by omega)
      have hw3 : IntKind.i64.wrap (s + sg * (dv - p)) = s + sg * (dv - p) := IntWalk.i64_in _ (by omega)
      clear hRW hx e1 e2 e3 e4 e6 hl hw hDV hsg x0 x1 x2
      go_wp2_with fail; ((with_reducible refine HAB.out.mono ?_); rintro e w' ⟨rfl, rfl⟩)
      go_wp2
      go_quiet ((go_at_call 160; exact HQD.out _))
      go_wp2
      go_roundw
      case rel => exact ⟨k + 1, _, by omega, by rw [HE.out], by go_num, (show _ = _ by rw [HWD.out, World.drewN_drewN])⟩
      case measure => simp [intOf]; omega
    · have e : k = q := by omega
      subst e
      go_wp2
      go_ret
      exact ⟨rfl, _, HWD.out⟩
end Go.Proofs.Ytjmhhbjbmgpagaa
