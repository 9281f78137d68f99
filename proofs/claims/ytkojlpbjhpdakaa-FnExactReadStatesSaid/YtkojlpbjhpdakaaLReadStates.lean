/- The law FnExactReadStates: for all arguments the program's ReadStates and the reference's return the same, and the result shares no memory with an argument or with the result of another call; no condition. -/
import Derived.Test.YtkojlpbjhpdakaaFrame
import Derived.Test.YtkojlpbjhpdakaaStates
namespace Go.Proofs.Ytkojlpbjhpdakaa.lReadStates
set_option linter.unusedVariables false
set_option linter.unusedSimpArgs false
open Go.ChangeShapes Go.WideShapes Go.ChangeAt Go.RowKit
set_option maxHeartbeats 4000000 in
theorem walk (s0 : ByteArray) (ls0 : s0.size ≤ maxLen) (w : World)  :
    Calls Try.prog 3 #[.string s0] w fun e w' => e = .returned (.bool true) ∧ Below w.heap.size w w' := by
  by_cases big0 : 1048576 < s0.size
  · go_enter Try.func3, Try.ntmps3
    go_wp2
    go_ret
    exact ⟨rfl, by (repeat (first | exact Below.refl _ _ | assumption | (refine Below.alloc ?_ (by first | exact Nat.le_refl _ | (simp; done) | (simp; omega)) _) | (refine below_drewN ?_ _) | (refine Below.trans ?_ (Below.mono (by assumption) (by first | exact Nat.le_refl _ | (simp; done) | (simp; omega) | omega)))))⟩
  have hn0 : s0.size ≤ 1048576 := by omega
  go_enter Try.func3, Try.ntmps3
  go_wp2_with fail; ((with_reducible refine (specReadStates_any s0 _ ls0 hn0).mono ?_); rintro e w1 ⟨AW, nW, cW, rfl, W1, hnW, hb1⟩)
  have z1 : w.heap.size ≤ w1.heap.size := hb1.size
  have B1 : Below w.heap.size w w1 := hb1
  have lo_W : ∀ k, Value.ownBlock (.slice AW nW cW) = some k → w.heap.size ≤ k := fun k hk => (W1.lt k hk).1
  have hi_W : ∀ k, Value.ownBlock (.slice AW nW cW) = some k → k < w1.heap.size := fun k hk => (W1.lt k hk).2
  go_wp2_with fail; ((with_reducible refine (implReadStates_any s0 _ ls0 hn0).mono ?_); rintro e w2 ⟨AG, nG, cG, rfl, G2, hnG, hb2⟩)
  have z2 : w1.heap.size ≤ w2.heap.size := hb2.size
  have B2 : Below w.heap.size w w2 := B1.trans (hb2.mono B1.size)
  have W2 := own_below W1 hb2
  have lo_G : ∀ k, Value.ownBlock (.slice AG nG cG) = some k → w1.heap.size ≤ k := fun k hk => (G2.lt k hk).1
  have hi_G : ∀ k, Value.ownBlock (.slice AG nG cG) = some k → k < w2.heap.size := fun k hk => (G2.lt k hk).2
  obtain rfl : nG = nW := by have h1 := G2.1; have h2 := W2.1; omega
  go_wp2_with fail; ((with_reducible refine (eqBoolS_b _ _ nG cG cW _ _ (Reads.of_own G2) (Reads.of_own W2) (by omega)).mono ?_); rintro e w3 ⟨rfl, hb3⟩)
  have z3 : w2.heap.size ≤ w3.heap.size := hb3.size
  have B3 : Below w.heap.size w w3 := B2.trans (hb3.mono B2.size)
  have W3 := own_below W2 hb3
  have G3 := own_below G2 hb3
  go_wp2_with fail; ((with_reducible refine (markBoolS_any _ nG cG _ 1 w1.heap.size w3 G3 (by omega) (by omega) (by omega)).mono ?_); rintro e w4 ⟨rfl, G4, hb4⟩)
  have z4 : w3.heap.size ≤ w4.heap.size := hb4.size
  have B4 : Below w.heap.size w w4 := B3.grown hb4 B3.size (fun k hk => by have h1 := lo_G k hk; have h2 := B1.size; omega)
  have W4 := own_keep W3 hb4 (fun k hk hr => by have h1 := hi_W k hk; have h2 := lo_G k hr; omega)
  go_wp2_with fail; ((with_reducible refine (heldBoolS_any _ nG cG 1 w4 (Reads.of_own G4) (by omega) (by omega) (by omega)).mono ?_); rintro e w' ⟨rfl, rfl⟩)
  go_wp2_with fail; ((with_reducible refine (implReadStates_any s0 _ ls0 hn0).mono ?_); rintro e w5 ⟨AH, nH, cH, rfl, H5, hnH, hb5⟩)
  have z5 : w4.heap.size ≤ w5.heap.size := hb5.size
  have B5 : Below w.heap.size w w5 := B4.trans (hb5.mono B4.size)
  have W5 := own_below W4 hb5
  have G5 := own_below G4 hb5
  have lo_H : ∀ k, Value.ownBlock (.slice AH nH cH) = some k → w4.heap.size ≤ k := fun k hk => (H5.lt k hk).1
  have hi_H : ∀ k, Value.ownBlock (.slice AH nH cH) = some k → k < w5.heap.size := fun k hk => (H5.lt k hk).2
  obtain rfl : nH = nG := by have h1 := H5.1; have h2 := W5.1; omega
  go_wp2_with fail; ((with_reducible refine (eqBoolS_b _ _ nH cH cW _ _ (Reads.of_own H5) (Reads.of_own W5) (by omega)).mono ?_); rintro e w6 ⟨rfl, hb6⟩)
  have z6 : w5.heap.size ≤ w6.heap.size := hb6.size
  have B6 : Below w.heap.size w w6 := B5.trans (hb6.mono B5.size)
  have W6 := own_below W5 hb6
  have G6 := own_below G5 hb6
  have H6 := own_below H5 hb6
  go_wp2_with fail; ((with_reducible refine (heldBoolS_any _ nH cG 1 w6 (Reads.of_own G6) (by omega) (by omega) (by omega)).mono ?_); rintro e w' ⟨rfl, rfl⟩)
  go_wp2
  go_ret
  exact ⟨rfl, B6⟩

set_option maxRecDepth 100000 in
theorem lifted (os : Os) (started : os.Started) (H : Type) (enc : TypeId × Value → H) :
    ReturnsInHanded {} Try.checked os 3 .any (Rows.fnExactReadStatesSpec.pre6 enc Try.prog Try.f3 Rows.fnExactReadStatesRow.domain false) (Rows.fnExactReadStatesSpec.post enc Try.prog Try.f3 false true false false) := by
  refine returnsInHanded_of_change (C := Try.checked) own_ started (by kernel_rfl) Try.func3
    (ChangeSpec.witness6 (enc := enc) (C := Try.checked) false ⟨#[], #[.string ByteArray.empty], []⟩ 12 (by kernel_rfl) (by kernel_rfl) (by kernel_rfl) (by kernel_rfl)) ?_
  intro W base args ds gs before hval0 hW hcnd _
  have hval : ∀ (j : Nat) t v, Try.f3.params[j]? = some t → args[j]? = some v → Value.okWide Try.prog W .any base t v := hval0
  have hW' := hW
  obtain ⟨p, q, hA0, hV, rfl, hfz, hnd⟩ := hW
  have hA : DataW.TrodAll enc Try.prog W 0 (fun _ => true) true Try.f3.params.toList args.toList ds p := hA0
  rw [Try.params3] at hA hval
  obtain ⟨v0, vs0, d0, ds0, p0, q0, hargs, rfl, rfl, h0, r0⟩ := trodAll_cons hA
  obtain ⟨rfl, rfl, rfl⟩ := trodAll_nil r0
  obtain rfl : args = #[v0] := by cases args; simp_all
  obtain ⟨rfl, rfl⟩ := trodVars_none hV
  obtain ⟨s0, rfl, ls0⟩ := op_str Try.underlying9 (hval 0 9 v0 rfl rfl) h0
  clear hA0 hval0
  refine (walk s0 ls0 W).mono fun e W' ⟨he, hb⟩ => ?_
  subst he
  exact ⟨_, rfl, law_post laidOut_ (by kernel_rfl) rfl rfl Try.underlying4 hW' rfl hb⟩

theorem over : Rows.fnExactReadStatesRow.holds Try.pinned (OpenSpec.ofChange Rows.fnExactReadStatesSpec) :=
  OpenClaim.holds_of_wide 3 Try.f3 rfl rfl rfl rfl rfl rfl rfl ⟨rfl, rfl, rfl, rfl, rfl⟩ rfl rfl rfl rfl rfl (by kernel_rfl) Try.func3 (by kernel_rfl)
    (of_decide_eq_true (by kernel_rfl)) (by unfold Func.isWrapper; first | (rw [if_pos (by decide +kernel)]; kernel_rfl) | (rw [if_neg (by decide +kernel)]; exact ⟨rfl, rfl⟩))
    (fun os started H enc _ => lifted os started H enc)

/-- The statement. -/
theorem proved : Rows.FnExactReadStatesSaid := over
#print axioms proved
end Go.Proofs.Ytkojlpbjhpdakaa.lReadStates
