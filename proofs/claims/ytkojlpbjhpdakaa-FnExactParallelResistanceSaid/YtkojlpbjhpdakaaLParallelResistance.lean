/- The law FnExactParallelResistance: for every list of numbers the program's ParallelResistance and the reference's return the same; no condition. -/
import Derived.Test.YtkojlpbjhpdakaaFrame
import Derived.Test.YtkojlpbjhpdakaaPar
namespace Go.Proofs.Ytkojlpbjhpdakaa.lParallelResistance
set_option linter.unusedVariables false
set_option linter.unusedSimpArgs false
open Go.ChangeShapes Go.WideShapes Go.ChangeAt Go.RowKit
set_option maxHeartbeats 400000 in
theorem walk (A : Option Addr) (n c : Nat) (xs : List Int) (hc : n ≤ c) (hm : c ≤ maxLen) (w : World) (hr : Reads w w.heap.size 1 A n (ints xs)) :
    Calls Try.prog 10 #[.slice A n c] w fun e w' => e = .returned (.bool true) ∧ Below w.heap.size w w' := by
  by_cases h : 1048576 < n
  · go_enter Try.func10, Try.ntmps10
    go_wp2
    go_ret
    exact ⟨rfl, by (repeat (first | exact Below.refl _ _ | assumption | (refine Below.alloc ?_ (by first | exact Nat.le_refl _ | (simp; done) | (simp; omega)) _) | (refine below_drewN ?_ _) | (refine Below.trans ?_ (Below.mono (by assumption) (by first | exact Nat.le_refl _ | (simp; done) | (simp; omega) | omega)))))⟩
  · have hn : n ≤ 1048576 := by omega
    go_enter Try.func10, Try.ntmps10
    go_wp2_with fail; ((with_reducible refine (toInt64S_any A n c xs _ hr hn).mono ?_); rintro e w1 ⟨rfl, ho1, hb1⟩)
    go_wp2_with fail; ((with_reducible refine (specParallelResistance_any _ n n xs _ (Reads.of_own ho1) hn).mono ?_); rintro e w' ⟨rfl, rfl⟩)
    go_wp2_with fail; ((with_reducible refine (toInt64S_any A n c xs _ ((hr.below hb1).more hb1.size) hn).mono ?_); rintro e w2 ⟨rfl, ho2, hb2⟩)
    have hb12 := hb1.trans (hb2.mono hb1.size)
    go_wp2_with fail; ((with_reducible refine (implParallelResistance_any _ n n xs _ (Reads.of_own ho2) hn).mono ?_); rintro e w3 ⟨rfl, hb3⟩)
    have hb13 := hb12.trans (hb3.mono hb12.size)
    have ho2' := own_below ho2 hb3
    go_wp2_with fail; ((with_reducible refine (toInt64S_any A n c xs _ ((hr.below hb13).more hb13.size) hn).mono ?_); rintro e w4 ⟨rfl, ho4, hb4⟩)
    have ho2'' := own_below ho2' hb4
    go_wp2_with fail; ((with_reducible refine (eqInt64S_same _ _ n n n xs _ (Reads.of_own ho2'') (Reads.of_own ho4) (by omega)).mono ?_); rintro e w' ⟨rfl, m, rfl⟩)
    go_wp2
    go_ret
    exact ⟨rfl, below_drewN (hb13.trans (hb4.mono hb13.size)) _⟩

set_option maxRecDepth 100000 in
theorem lifted (os : Os) (started : os.Started) (H : Type) (enc : TypeId × Value → H) :
    ReturnsInHanded {} Try.checked os 10 .any (Rows.fnExactParallelResistanceSpec.pre6 enc Try.prog Try.f10 Rows.fnExactParallelResistanceRow.domain false) (Rows.fnExactParallelResistanceSpec.post enc Try.prog Try.f10 false true false false) := by
  refine returnsInHanded_of_change (C := Try.checked) own_ started (by kernel_rfl) Try.func10
    (ChangeSpec.witness6 (enc := enc) (C := Try.checked) false ⟨#[], #[.slice none 0 0], []⟩ 12 (by kernel_rfl) (by kernel_rfl) (by kernel_rfl) (by kernel_rfl)) ?_
  intro W base args ds gs before hval0 hW hcnd _
  have hval : ∀ (j : Nat) t v, Try.f10.params[j]? = some t → args[j]? = some v → Value.okWide Try.prog W .any base t v := hval0
  have hW' := hW
  obtain ⟨p, q, hA0, hV, rfl, hfz, hnd⟩ := hW
  have hA : DataW.TrodAll enc Try.prog W 0 (fun _ => true) true Try.f10.params.toList args.toList ds p := hA0
  rw [Try.params10] at hA hval
  obtain ⟨v0, vs0, d0, ds0, p0, q0, hargs, rfl, rfl, h0, r0⟩ := trodAll_cons hA
  obtain ⟨rfl, rfl, rfl⟩ := trodAll_nil r0
  obtain rfl : args = #[v0] := by cases args; simp_all
  obtain ⟨rfl, rfl⟩ := trodVars_none hV
  obtain ⟨A0, n0, c0, xs0, rfl, lc0, gc0, hr0⟩ := op_ints Try.underlying28 Try.underlying2 (by kernel_rfl) (hval 0 28 v0 rfl rfl) h0
  clear hA0 hval0
  refine (walk A0 n0 c0 xs0 lc0 gc0 W hr0).mono fun e W' ⟨he, hb⟩ => ?_
  subst he
  exact ⟨_, rfl, law_post laidOut_ (by kernel_rfl) rfl rfl Try.underlying4 hW' rfl hb⟩

theorem over : Rows.fnExactParallelResistanceRow.holds Try.pinned (OpenSpec.ofChange Rows.fnExactParallelResistanceSpec) :=
  OpenClaim.holds_of_wide 10 Try.f10 rfl rfl rfl rfl rfl rfl rfl ⟨rfl, rfl, rfl, rfl, rfl⟩ rfl rfl rfl rfl rfl (by kernel_rfl) Try.func10 (by kernel_rfl)
    (of_decide_eq_true (by kernel_rfl)) (by unfold Func.isWrapper; first | (rw [if_pos (by decide +kernel)]; kernel_rfl) | (rw [if_neg (by decide +kernel)]; exact ⟨rfl, rfl⟩))
    (fun os started H enc _ => lifted os started H enc)

/-- The statement. -/
theorem proved : Rows.FnExactParallelResistanceSaid := over
#print axioms proved
end Go.Proofs.Ytkojlpbjhpdakaa.lParallelResistance
