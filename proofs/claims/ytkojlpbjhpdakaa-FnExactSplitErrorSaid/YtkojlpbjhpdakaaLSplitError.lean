/- The law FnExactSplitError: for all arguments the program's SplitError and the reference's return the same; no condition. -/
import Derived.Test.YtkojlpbjhpdakaaFrame
import Derived.Test.YtkojlpbjhpdakaaSpl
namespace Go.Proofs.Ytkojlpbjhpdakaa.lSplitError
set_option linter.unusedVariables false
set_option linter.unusedSimpArgs false
open Go.ChangeShapes Go.WideShapes Go.ChangeAt Go.RowKit
set_option maxHeartbeats 4000000 in
theorem walk (A0 : Option Addr) (n0 c0 : Nat) (xs0 : List Int) (lc0 : n0 ≤ c0) (gc0 : c0 ≤ maxLen) (a1 : Int) (ga1 : -9223372036854775808 ≤ a1) (la1 : a1 ≤ 9223372036854775807) (w : World) (hr0 : Reads w w.heap.size 1 A0 n0 (ints xs0)) :
    Calls Try.prog 12 #[.slice A0 n0 c0, .int .i64 a1] w fun e w' => e = .returned (.bool true) ∧ Below w.heap.size w w' := by
  by_cases big0 : 1048576 < n0
  · go_enter Try.func12, Try.ntmps12
    go_wp2
    go_ret
    exact ⟨rfl, by (repeat (first | exact Below.refl _ _ | assumption | (refine Below.alloc ?_ (by first | exact Nat.le_refl _ | (simp; done) | (simp; omega)) _) | (refine below_drewN ?_ _) | (refine Below.trans ?_ (Below.mono (by assumption) (by first | exact Nat.le_refl _ | (simp; done) | (simp; omega) | omega)))))⟩
  have hn0 : n0 ≤ 1048576 := by omega
  go_enter Try.func12, Try.ntmps12
  go_wp2_with fail; ((with_reducible refine (toInt64S_any A0 n0 c0 xs0 _ hr0 hn0).mono ?_); rintro e w1 ⟨rfl, S01, hb1⟩)
  have z1 : w.heap.size ≤ w1.heap.size := hb1.size
  have B1 : Below w.heap.size w w1 := hb1
  have lo_S0 : ∀ k, Value.ownBlock (.slice (some ⟨w.heap.size, 0, none⟩) n0 n0) = some k → w.heap.size ≤ k := fun k hk => (S01.lt k hk).1
  have hi_S0 : ∀ k, Value.ownBlock (.slice (some ⟨w.heap.size, 0, none⟩) n0 n0) = some k → k < w1.heap.size := fun k hk => (S01.lt k hk).2
  go_wp2_with fail; ((with_reducible refine (specSplitError_any _ n0 n0 xs0 a1 _ (Reads.of_own S01) hn0).mono ?_); rintro e w2 ⟨rfl, hb2⟩)
  have z2 : w1.heap.size ≤ w2.heap.size := hb2.size
  have B2 : Below w.heap.size w w2 := B1.trans (hb2.mono B1.size)
  have S02 := own_below S01 hb2
  go_wp2_with fail; ((with_reducible refine (toInt64S_any A0 n0 c0 xs0 _ ((hr0.below B2).more B2.size) hn0).mono ?_); rintro e w3 ⟨rfl, X03, hb3⟩)
  have z3 : w2.heap.size ≤ w3.heap.size := hb3.size
  have B3 : Below w.heap.size w w3 := B2.trans (hb3.mono B2.size)
  have lo_X0 : ∀ k, Value.ownBlock (.slice (some ⟨w2.heap.size, 0, none⟩) n0 n0) = some k → w2.heap.size ≤ k := fun k hk => (X03.lt k hk).1
  have hi_X0 : ∀ k, Value.ownBlock (.slice (some ⟨w2.heap.size, 0, none⟩) n0 n0) = some k → k < w3.heap.size := fun k hk => (X03.lt k hk).2
  go_wp2_with fail; ((with_reducible refine (implSplitError_any _ n0 n0 xs0 a1 _ (Reads.of_own X03) hn0).mono ?_); rintro e w4 ⟨rfl, hb4⟩)
  have z4 : w3.heap.size ≤ w4.heap.size := hb4.size
  have B4 : Below w.heap.size w w4 := B3.trans (hb4.mono B3.size)
  have X04 := own_below X03 hb4
  go_wp2_with fail; ((with_reducible refine (toInt64S_any A0 n0 c0 xs0 _ ((hr0.below B4).more B4.size) hn0).mono ?_); rintro e w5 ⟨rfl, T05, hb5⟩)
  have z5 : w4.heap.size ≤ w5.heap.size := hb5.size
  have B5 : Below w.heap.size w w5 := B4.trans (hb5.mono B4.size)
  have X05 := own_below X04 hb5
  have lo_T0 : ∀ k, Value.ownBlock (.slice (some ⟨w4.heap.size, 0, none⟩) n0 n0) = some k → w4.heap.size ≤ k := fun k hk => (T05.lt k hk).1
  have hi_T0 : ∀ k, Value.ownBlock (.slice (some ⟨w4.heap.size, 0, none⟩) n0 n0) = some k → k < w5.heap.size := fun k hk => (T05.lt k hk).2
  go_wp2_with fail; ((with_reducible refine (eqInt64S_b _ _ n0 n0 n0 xs0 _ (Reads.of_own X05) (Reads.of_own T05) (by omega)).mono ?_); rintro e w6 ⟨rfl, hb6⟩)
  have z6 : w5.heap.size ≤ w6.heap.size := hb6.size
  have B6 : Below w.heap.size w w6 := B5.trans (hb6.mono B5.size)
  go_wp2
  go_ret
  exact ⟨rfl, B6⟩

set_option maxRecDepth 100000 in
theorem lifted (os : Os) (started : os.Started) (H : Type) (enc : TypeId × Value → H) :
    ReturnsInHanded {} Try.checked os 12 .any (Rows.fnExactSplitErrorSpec.pre6 enc Try.prog Try.f12 Rows.fnExactSplitErrorRow.domain false) (Rows.fnExactSplitErrorSpec.post enc Try.prog Try.f12 false true false false) := by
  refine returnsInHanded_of_change (C := Try.checked) own_ started (by kernel_rfl) Try.func12
    (ChangeSpec.witness6 (enc := enc) (C := Try.checked) false ⟨#[], #[.slice none 0 0, .int .i64 0], []⟩ 12 (by kernel_rfl) (by kernel_rfl) (by kernel_rfl) (by kernel_rfl)) ?_
  intro W base args ds gs before hval0 hW hcnd _
  have hval : ∀ (j : Nat) t v, Try.f12.params[j]? = some t → args[j]? = some v → Value.okWide Try.prog W .any base t v := hval0
  have hW' := hW
  obtain ⟨p, q, hA0, hV, rfl, hfz, hnd⟩ := hW
  have hA : DataW.TrodAll enc Try.prog W 0 (fun _ => true) true Try.f12.params.toList args.toList ds p := hA0
  rw [Try.params12] at hA hval
  obtain ⟨v0, vs0, d0, ds0, p0, q0, hargs, rfl, rfl, h0, r0⟩ := trodAll_cons hA
  obtain ⟨v1, vs1, d1, ds1, p1, q1, rfl, rfl, rfl, h1, r1⟩ := trodAll_cons r0
  obtain ⟨rfl, rfl, rfl⟩ := trodAll_nil r1
  obtain rfl : args = #[v0, v1] := by cases args; simp_all
  obtain ⟨rfl, rfl⟩ := trodVars_none hV
  obtain ⟨A0, n0, c0, xs0, rfl, lc0, gc0, hr0⟩ := op_ints Try.underlying28 Try.underlying2 (by kernel_rfl) (hval 0 28 v0 rfl rfl) h0
  obtain ⟨a1, rfl, la1, ga1⟩ := op_int Try.underlying2 (hval 1 2 v1 rfl rfl) h1
  clear hA0 hval0
  refine (walk A0 n0 c0 xs0 lc0 gc0 a1 la1 ga1 W hr0).mono fun e W' ⟨he, hb⟩ => ?_
  subst he
  exact ⟨_, rfl, law_post laidOut_ (by kernel_rfl) rfl rfl Try.underlying4 hW' rfl hb⟩

theorem over : Rows.fnExactSplitErrorRow.holds Try.pinned (OpenSpec.ofChange Rows.fnExactSplitErrorSpec) :=
  OpenClaim.holds_of_wide 12 Try.f12 rfl rfl rfl rfl rfl rfl rfl ⟨rfl, rfl, rfl, rfl, rfl⟩ rfl rfl rfl rfl rfl (by kernel_rfl) Try.func12 (by kernel_rfl)
    (of_decide_eq_true (by kernel_rfl)) (by unfold Func.isWrapper; first | (rw [if_pos (by decide +kernel)]; kernel_rfl) | (rw [if_neg (by decide +kernel)]; exact ⟨rfl, rfl⟩))
    (fun os started H enc _ => lifted os started H enc)

/-- The statement. -/
theorem proved : Rows.FnExactSplitErrorSaid := over
#print axioms proved
end Go.Proofs.Ytkojlpbjhpdakaa.lSplitError
