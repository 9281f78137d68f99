/- The law FnExactValidDoor: for every door the program's ValidDoor and the reference's return the same; no condition. -/
import Derived.Test.YtoghblpddbpimaaFrame
import Derived.Test.YtoghblpddbpimaaDoor
namespace Go.Proofs.Ytoghblpddbpimaa.lValidDoor
set_option linter.unusedVariables false
set_option linter.unusedSimpArgs false
open Go.ChangeShapes Go.WideShapes Go.ChangeAt Go.RowKit
theorem walk (s : ByteArray) (a b c : Int) (hs : s.size ≤ maxLen) (w : World) :
    Calls Try.prog 5 #[.agg #[.string s, .int .i64 a, .int .i64 b, .int .i64 c]] w fun e w' => e = .returned (.bool true) ∧ Below w.heap.size w w' := by
  by_cases h : (1048576 : Int) < s.size
  · go_enter Try.func5, Try.ntmps5
    go_wp2_with fail; ((with_reducible refine (szDoor_any s a b c _ _ hs (by omega) (by omega)).mono ?_); rintro e w1 ⟨rfl, hb1⟩); obtain ⟨hc1, hf1⟩ := bcell hb1; have z1_0 : w.heap.size < w1.heap.size := by have hz := hb1.size; (try simp at hz); omega
    go_wp2
    go_ret
    exact ⟨rfl, by (repeat (first | exact Below.refl _ _ | assumption | (refine Below.alloc ?_ (by first | exact Nat.le_refl _ | (simp; done) | (simp; omega)) _) | (refine below_drewN ?_ _) | (refine Below.trans ?_ (Below.mono (by assumption) (by first | exact Nat.le_refl _ | (simp; done) | (simp; omega) | omega)))))⟩
  · go_enter Try.func5, Try.ntmps5
    go_wp2_with fail; ((with_reducible refine (szDoor_any s a b c _ _ hs (by omega) (by omega)).mono ?_); rintro e w1 ⟨rfl, hb1⟩); obtain ⟨hc1, hf1⟩ := bcell hb1; have z1_0 : w.heap.size < w1.heap.size := by have hz := hb1.size; (try simp at hz); omega
    go_wp2_with fail; ((with_reducible refine (toDoor_any s a b c _ hs).mono ?_); rintro e w2 ⟨rfl, hb2⟩); obtain ⟨hc2, hf2⟩ := bcell hb2; have z2_0 : w.heap.size < w2.heap.size := by have hz := hb2.size; (try simp at hz); omega
    go_wp2_with fail; ((with_reducible refine (specValidDoor_any s a b c _ hs).mono ?_); rintro e w3 ⟨rfl, hb3⟩); obtain ⟨hc3, hf3⟩ := bcell hb3; have z3_0 : w.heap.size < w3.heap.size := by have hz := hb3.size; (try simp at hz); omega
    go_wp2_with fail; ((with_reducible refine (toDoor_any s a b c _ hs).mono ?_); rintro e w4 ⟨rfl, hb4⟩); obtain ⟨hc4, hf4⟩ := bcell hb4; have z4_0 : w.heap.size < w4.heap.size := by have hz := hb4.size; (try simp at hz); omega
    go_wp2_with fail; ((with_reducible refine (implValidDoor_any s a b c _ hs).mono ?_); rintro e w5 ⟨rfl, hb5⟩); obtain ⟨hc5, hf5⟩ := bcell hb5; have z5_0 : w.heap.size < w5.heap.size := by have hz := hb5.size; (try simp at hz); omega
    go_wp2
    go_ret
    exact ⟨rfl, by (repeat (first | exact Below.refl _ _ | assumption | (refine Below.alloc ?_ (by first | exact Nat.le_refl _ | (simp; done) | (simp; omega)) _) | (refine below_drewN ?_ _) | (refine Below.trans ?_ (Below.mono (by assumption) (by first | exact Nat.le_refl _ | (simp; done) | (simp; omega) | omega)))))⟩

set_option maxRecDepth 100000 in
theorem lifted (os : Os) (started : os.Started) (H : Type) (enc : TypeId × Value → H) :
    ReturnsInHanded {} Try.checked os 5 .any (Rows.fnExactValidDoorSpec.pre6 enc Try.prog Try.f5 Rows.fnExactValidDoorRow.domain false) (Rows.fnExactValidDoorSpec.post enc Try.prog Try.f5 false true false false) := by
  refine returnsInHanded_of_change (C := Try.checked) own_ started (by kernel_rfl) Try.func5
    (ChangeSpec.witness6 (enc := enc) (C := Try.checked) false ⟨#[], #[.agg #[.string ByteArray.empty, .int .i64 0, .int .i64 0, .int .i64 0]], []⟩ 12 (by kernel_rfl) (by kernel_rfl) (by kernel_rfl) (by kernel_rfl)) ?_
  intro W base args ds gs before hval0 hW hcnd _
  have hval : ∀ (j : Nat) t v, Try.f5.params[j]? = some t → args[j]? = some v → Value.okWide Try.prog W .any base t v := hval0
  have hW' := hW
  obtain ⟨p, q, hA0, hV, rfl, hfz, hnd⟩ := hW
  have hA : DataW.TrodAll enc Try.prog W 0 (fun _ => true) true Try.f5.params.toList args.toList ds p := hA0
  rw [Try.params5] at hA hval
  obtain ⟨v0, vs0, d0, ds0, p0, q0, hargs, rfl, rfl, h0, r0⟩ := trodAll_cons hA
  obtain ⟨rfl, rfl, rfl⟩ := trodAll_nil r0
  obtain rfl : args = #[v0] := by cases args; simp_all
  obtain ⟨rfl, rfl⟩ := trodVars_none hV
  obtain ⟨s0, a0, b0, c0, rfl, ls0⟩ := op_door Try.underlying31 (by kernel_rfl) (by kernel_rfl) Try.underlying9 Try.underlying2 Try.underlying2 Try.underlying2 (hval 0 31 v0 rfl rfl) h0
  clear hA0 hval0
  refine (walk s0 a0 b0 c0 ls0 W).mono fun e W' ⟨he, hb⟩ => ?_
  subst he
  exact ⟨_, rfl, law_post laidOut_ (by kernel_rfl) rfl rfl Try.underlying4 hW' rfl hb⟩

theorem over : Rows.fnExactValidDoorRow.holds Try.pinned (OpenSpec.ofChange Rows.fnExactValidDoorSpec) :=
  OpenClaim.holds_of_wide 5 Try.f5 rfl rfl rfl rfl rfl rfl rfl ⟨rfl, rfl, rfl, rfl, rfl⟩ rfl rfl rfl rfl rfl (by kernel_rfl) Try.func5 (by kernel_rfl)
    (of_decide_eq_true (by kernel_rfl)) (by unfold Func.isWrapper; first | (rw [if_pos (by decide +kernel)]; kernel_rfl) | (rw [if_neg (by decide +kernel)]; exact ⟨rfl, rfl⟩))
    (fun os started H enc _ => lifted os started H enc)

/-- The statement. -/
theorem proved : Rows.FnExactValidDoorSaid := over
#print axioms proved
end Go.Proofs.Ytoghblpddbpimaa.lValidDoor
