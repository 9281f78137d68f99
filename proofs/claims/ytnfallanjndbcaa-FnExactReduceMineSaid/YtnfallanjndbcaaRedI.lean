/- Contracts of the three steps of the reduction, the program's side: the edges lie in a row of the call's own, behind the record that names them. -/
import Derived.Test.YtnfallanjndbcaaRedE
import Derived.Deep.RegionLaw
import Derived.Deep.RegionWith
import Derived.BigRegion
namespace Go.Proofs.Ytnfallanjndbcaa
set_option linter.unusedVariables false
set_option linter.unusedSimpArgs false
open Go.RowKit
/-- The record of the reduction and its edges. -/
structure RedS (w : World) (g lo : Nat) (fr to : Int) (A : Option Addr) (n c : Nat) (es : List Edg) (full : Bool) : Prop where
  blk : Blk w g 55 #[.int .i64 fr, .int .i64 to, .slice A n c, .bool full]
  own : w.ownsRow lo 57 3 (.slice A n c) n (Edg.recs es)
  lt : g < lo
theorem RedS.len {w : World} {g lo : Nat} {fr to : Int} {A : Option Addr} {n c : Nat} {es : List Edg} {full : Bool} (h : RedS w g lo fr to A n c es full) : es.length = n := by
  have h1 := h.own.1
  rw [recs_len Edg.clen] at h1
  omega
theorem RedS.below {w w' : World} {g lo : Nat} {fr to : Int} {A : Option Addr} {n c : Nat} {es : List Edg} {full : Bool} (h : RedS w g lo fr to A n c es full) (hb : Below w.heap.size w w') : RedS w' g lo fr to A n c es full :=
  ⟨h.blk.below hb h.blk.lt, own_below h.own hb, h.lt⟩
theorem own_low {w : World} {base e size n : Nat} {v : Value} {xs : List Value} (h : w.ownsRow base e size v n xs) {p : Addr} (hp : p.block < base) (u : Value) : (w.setCell p u).ownsRow base e size v n xs :=
  own_far h (only_setCell (World.grownBy.refl w (some p.block)) (.inl rfl) u) (fun b e => by cases e; exact hp)
theorem RedS.form {w : World} {g lo : Nat} {fr to : Int} {A : Option Addr} {n c : Nat} {es : List Edg} {full : Bool} (h : RedS w g lo fr to A n c es full) (hn : 0 < n) : ∃ ge, A = some ⟨ge, 0, none⟩ ∧ lo ≤ ge ∧ ge < w.heap.size ∧ g ≠ ge := by
  obtain ⟨ge, cap, hv, hb, hlt⟩ := h.own.form hn
  injection hv with hA
  subst hA
  exact ⟨ge, rfl, hb, hlt, by have := h.lt; omega⟩
/-- The row of edges has turned in place; the record takes the new slice. -/
theorem RedS.turn {w w3 : World} {g lo ge : Nat} {fr to : Int} {n c n' c' : Nat} {es es' : List Edg} {full : Bool} (h : RedS w g lo fr to (some ⟨ge, 0, none⟩) n c es full) (hlo : lo ≤ ge) (hg : w.grownBy w3 (some ge)) (ho : w3.ownsRow lo 57 3 (.slice (some ⟨ge, 0, none⟩) n' c') n' (Edg.recs es')) :
    RedS (w3.setCell ⟨g, 2, none⟩ (.slice (some ⟨ge, 0, none⟩) n' c')) g lo fr to (some ⟨ge, 0, none⟩) n' c' es' full :=
  ⟨(h.blk.grown hg (fun e => by have := h.lt; injection e with e; omega)).set_ 2 _, own_low ho (p := ⟨g, 2, none⟩) h.lt _, h.lt⟩
theorem idxI_rm (fr to : Int) (es : List Edg) : idxI (deadP fr to es) es = match rmOf fr to es with | some k => (k : Int) | none => -1 := by
  unfold idxI; rw [rmOf_p]; cases rmOf fr to es <;> rfl
set_option maxHeartbeats 3200000 in
set_option maxRecDepth 100000 in
theorem removeOne_no (g lo : Nat) (fr to : Int) (A : Option Addr) (n c : Nat) (es : List Edg) (full : Bool) (w : World) (h : RedS w g lo fr to A n c es full) (hn : n ≤ 24) (hrm : rmOf fr to es = none) :
    Calls Try.prog 20 #[.pointer (some ⟨g, 0, none⟩)] w fun e w' => e = .returned (.bool false) ∧ Below w.heap.size w w' := by
  have hb0 : Below w.heap.size w (w.alloc (.cells #[.pointer (some ⟨g, 0, none⟩)] 71)) := (Below.refl _ _).alloc (Nat.le_refl _) _
  have HI := indexE_any A n c es 38 #[.pointer (some ⟨w.heap.size, 0, none⟩)] (deadP fr to es) (w.alloc (.cells #[.pointer (some ⟨g, 0, none⟩)] 71)) (fun _ _ => rfl) ((Reads.of_own (own_below h.own hb0))) (by omega)
    (fun W x hW hx => by
      have hS := (h.below hb0).below hW
      have hbx := (Blk.new w 71 #[.pointer (some ⟨g, 0, none⟩)]).below hW (by simp)
      exact deadClosure_any w.heap.size g fr to A n c es x W ((hbx.cell 0).trans rfl) ((hS.blk.cell 0).trans rfl) ((hS.blk.cell 1).trans rfl) ((hS.blk.cell 2).trans rfl) (Reads.of_own hS.own) (by omega))
  rw [idxI_rm, hrm] at HI
  have HC := Lib.hid HI
  have g2 := h.blk.cell 2
  have hlt := h.blk.lt
  clear HI
  go_enter Try.func20, Try.ntmps20
  go_wp2_with fail; ((with_reducible refine HC.out.mono ?_); rintro e w1 ⟨rfl, hb1⟩)
  go_wp2
  go_ret
  exact ⟨rfl, hb0.trans (hb1.mono (by simp))⟩
set_option maxHeartbeats 6400000 in
set_option maxRecDepth 100000 in
theorem removeOne_yes (g lo i : Nat) (fr to : Int) (A : Option Addr) (n c : Nat) (es : List Edg) (full : Bool) (w : World) (h : RedS w g lo fr to A n c es full) (hn : n ≤ 24) (hrm : rmOf fr to es = some i) :
    Calls Try.prog 20 #[.pointer (some ⟨g, 0, none⟩)] w fun e w' => e = .returned (.bool true) ∧ ∃ A' n' c', RedS w' g lo fr to A' n' c' (es.eraseIdx i) full ∧ Below g w w' := by
  have hi : i < n := by have := rm_lt hrm; rw [h.len] at this; exact this
  obtain ⟨ge, rfl, hlo, hge, hne⟩ := h.form (by omega)
  have hb0 : Below w.heap.size w (w.alloc (.cells #[.pointer (some ⟨g, 0, none⟩)] 71)) := (Below.refl _ _).alloc (Nat.le_refl _) _
  have HI := indexE_any (some ⟨ge, 0, none⟩) n c es 38 #[.pointer (some ⟨w.heap.size, 0, none⟩)] (deadP fr to es) (w.alloc (.cells #[.pointer (some ⟨g, 0, none⟩)] 71)) (fun _ _ => rfl) ((Reads.of_own (own_below h.own hb0))) (by omega)
    (fun W x hW hx => by
      have hS := (h.below hb0).below hW
      have hbx := (Blk.new w 71 #[.pointer (some ⟨g, 0, none⟩)]).below hW (by simp)
      exact deadClosure_any w.heap.size g fr to _ n c es x W ((hbx.cell 0).trans rfl) ((hS.blk.cell 0).trans rfl) ((hS.blk.cell 1).trans rfl) ((hS.blk.cell 2).trans rfl) (Reads.of_own hS.own) (by omega))
  rw [idxI_rm, hrm] at HI
  have HC := Lib.hid HI
  have HB := Lib.hid (Blk.new w 71 #[.pointer (some ⟨g, 0, none⟩)])
  have HS0 := Lib.hid (h.below hb0)
  have g2 := h.blk.cell 2
  have hlt := h.blk.lt
  clear HI
  go_enter Try.func20, Try.ntmps20
  go_wp2_with fail; ((with_reducible refine HC.out.mono ?_); rintro e w1 ⟨rfl, hb1⟩)
  have HS1 := Lib.hid (HS0.out.below hb1)
  have HB1 := Lib.hid (HB.out.below hb1 (by simp))
  have hz1 := hb1.size
  simp at hz1
  have b0 : w1.cell? ⟨w.heap.size, 0, none⟩ = some (.pointer (some ⟨g, 0, none⟩)) := (HB1.out.cell 0).trans rfl
  have c2 : w1.cell? ⟨g, 2, none⟩ = some (.slice (some ⟨ge, 0, none⟩) n c) := (HS1.out.blk.cell 2).trans rfl
  have HBl : Hid (Below w.heap.size w w1) := hb0.trans (hb1.mono (by simp))
  have HD : Hid (Calls Try.prog 40 #[.slice (some ⟨ge, 0, none⟩) n c, .int .i64 (i : Int), .int .i64 ((i : Int) + 1)] w1.drew fun e w' => e = .returned (.slice (some ⟨ge, 0, none⟩) (n - 1) c) ∧ w'.ownsRow lo 57 3 (.slice (some ⟨ge, 0, none⟩) (n - 1) c) (n - 1) (Edg.recs (es.eraseIdx i)) ∧ w1.drew.grownBy w' (some ge)) :=
    delete_any lo ge n c i es w1.drew HS1.out.own hi (by omega)
  have hwi : IntKind.i64.wrap ((i : Int) + 1) = (i : Int) + 1 := IntWalk.i64_in _ (by omega)
  clear hb1 g2 HC HB HS0 hb0
  go_wp2
  go_region_law
    (go_simp; go_at_call 40; with_reducible refine HD.out.mono ?_; rintro e w3 ⟨rfl, ho3, hg3⟩; have HO3 := Lib.hid ho3; have HG3 := Lib.hid hg3; have K3 := HS1.out.blk.drew.grown hg3 (fun e => by injection e with e; omega); have L3 := HB1.out.drew.grown hg3 (fun e => by injection e with e; omega); have l0 := L3.cell 0; have k2 := K3.cell 2; have f2 := K3.frozen 2; clear ho3 hg3 K3 L3)
  all_goals
    go_wp2
    go_ret
    have hgz : g ≤ w.heap.size := by omega
    have hq : Below g w w3 := (below_drew (HBl.out.mono hgz)).grown HG3.out (by show g ≤ w1.heap.size; omega) (fun r e => by injection e with e; have := HS1.out.lt; omega)
    exact ⟨rfl, _, _, _, RedS.turn (HS1.out.below (below_drew (Below.refl _ _))) hlo HG3.out HO3.out, hq.setCell (p := ⟨g, 2, none⟩) (Nat.le_refl g) _⟩
end Go.Proofs.Ytnfallanjndbcaa
