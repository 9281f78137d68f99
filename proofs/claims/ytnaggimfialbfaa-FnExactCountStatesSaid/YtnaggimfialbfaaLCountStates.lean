/- The law FnExactCountStates: for all arguments the program's CountStates and the reference's return the same; no condition. -/
import Derived.Test.YtnaggimfialbfaaFrame
import Derived.Test.YtnaggimfialbfaaOwn
import Derived.Test.YtnaggimfialbfaaFrN
import Derived.Test.YtnaggimfialbfaaKeep
namespace Go.Proofs.Ytnaggimfialbfaa.lCountStates
set_option linter.unusedVariables false
set_option linter.unusedSimpArgs false
open Go.ChangeShapes Go.WideShapes Go.ChangeAt Go.RowKit
set_option maxHeartbeats 4000000 in
theorem walk (a0 : Int) (la0 : -9223372036854775808 ≤ a0) (ga0 : a0 ≤ 9223372036854775807) (A1 : Option Addr) (n1 c1 : Nat) (xs1 : List Row) (lc1 : n1 ≤ c1) (gc1 : c1 ≤ maxLen) (w : World) (hr1 : RSS w w.heap.size A1 n1 xs1) (hm1 : ∀ r ∈ xs1, r.n ≤ maxLen) :
    Calls Try.prog 5 #[.int .i64 a0, .slice A1 n1 c1] w fun e w' => e = .returned (.bool true) ∧ Below w.heap.size w w' := by
  have HM1 := Lib.hid hm1
  clear hm1
  have t1 := tot_nonneg xs1
  by_cases hN0 : 1048576 < ((n1 : Int) + tot xs1)
  ·  -- too large
    go_enter Try.func5, Try.ntmps5
    have sc0 := szRows_any A1 n1 c1 xs1 (1048576) w hr1 (by omega) (by omega) (by omega) HM1.out
    rw [szI_n hN0] at sc0
    go_wp2_with fail; ((with_reducible refine sc0.mono ?_); rintro e w1 ⟨rfl, hb1⟩)
    clear sc0
    have z1 : w.heap.size ≤ w1.heap.size := hb1.size
    have B1 : Below w.heap.size w w1 := hb1
    go_wp2
    go_ret
    exact ⟨rfl, B1⟩
  have hY0 := hN0
  have hn1 : n1 ≤ 1048576 := by omega
  have hrn1 : Hid (∀ r ∈ xs1, r.n ≤ 1048576) := fun r hr => by have := tot_mem hr; omega
  have HY0 := Lib.hid hY0
  go_enter Try.func5, Try.ntmps5
  have sc0 := szRows_any A1 n1 c1 xs1 (1048576) w hr1 (by omega) (by omega) (by omega) HM1.out
  rw [szI_y hY0] at sc0
  go_wp2_with fail; ((with_reducible refine sc0.mono ?_); rintro e w1 ⟨rfl, hb1⟩)
  clear sc0
  have z1 : w.heap.size ≤ w1.heap.size := hb1.size
  have B1 : Below w.heap.size w w1 := hb1
  go_wp2_with fail; ((with_reducible refine (toInt64SS_any A1 n1 c1 xs1 _ ((hr1.below B1).more B1.size) hn1 hrn1.out).mono ?_); rintro e w2 ⟨rsS1, rfl, oS1, DS1, hb2⟩)
  have z2 : w1.heap.size ≤ w2.heap.size := hb2.size
  have B2 : Below w.heap.size w w2 := B1.trans (hb2.mono B1.size)
  have FS1_2 := oss_mk oS1
  have MS1 := Lib.hid (bound_dat hr1 FS1_2.reads DS1 hrn1.out)
  have HDS1 := Lib.hid DS1
  clear DS1
  have SS1_2 := Same.refl w1.heap.size w2.heap.size w2
  have cc3 := specCountStates_any a0 (some ⟨w1.heap.size, 0, none⟩) n1 n1 rsS1 w2 (FS1_2.same SS1_2).reads hn1 MS1.out
  rw [HDS1.out] at cc3
  go_wp2_with fail; ((with_reducible refine (cc3).mono ?_); rintro e w3 ⟨rfl, hb3⟩)
  have z3 : w2.heap.size ≤ w3.heap.size := hb3.size
  have B3 : Below w.heap.size w w3 := B2.trans (hb3.mono B2.size)
  have SS1_3 := SS1_2.below hb3 (by omega)
  clear cc3
  go_wp2_with fail; ((with_reducible refine (toInt64SS_any A1 n1 c1 xs1 _ ((hr1.below B3).more B3.size) hn1 hrn1.out).mono ?_); rintro e w4 ⟨rsX1, rfl, oX1, DX1, hb4⟩)
  have z4 : w3.heap.size ≤ w4.heap.size := hb4.size
  have B4 : Below w.heap.size w w4 := B3.trans (hb4.mono B3.size)
  have FX1_4 := oss_mk oX1
  have MX1 := Lib.hid (bound_dat hr1 FX1_4.reads DX1 hrn1.out)
  have HDX1 := Lib.hid DX1
  clear DX1
  have SX1_4 := Same.refl w3.heap.size w4.heap.size w4
  have cc5 := implCountStates_any a0 (some ⟨w3.heap.size, 0, none⟩) n1 n1 rsX1 w4 (FX1_4.same SX1_4).reads hn1 MX1.out
  rw [HDX1.out] at cc5
  go_wp2_with fail; ((with_reducible refine (cc5).mono ?_); rintro e w5 ⟨rfl, hb5⟩)
  have z5 : w4.heap.size ≤ w5.heap.size := hb5.size
  have B5 : Below w.heap.size w w5 := B4.trans (hb5.mono B4.size)
  have SX1_5 := SX1_4.below hb5 (by omega)
  clear cc5
  go_wp2_with fail; ((with_reducible refine (toInt64SS_any A1 n1 c1 xs1 _ ((hr1.below B5).more B5.size) hn1 hrn1.out).mono ?_); rintro e w6 ⟨rsT1, rfl, oT1, DT1, hb6⟩)
  have z6 : w5.heap.size ≤ w6.heap.size := hb6.size
  have B6 : Below w.heap.size w w6 := B5.trans (hb6.mono B5.size)
  have SX1_6 := SX1_5.below hb6 (by omega)
  have FT1_6 := oss_mk oT1
  have MT1 := Lib.hid (bound_dat hr1 FT1_6.reads DT1 hrn1.out)
  have HDT1 := Lib.hid DT1
  clear DT1
  have ST1_6 := Same.refl w5.heap.size w6.heap.size w6
  go_wp2_with fail; ((with_reducible refine (eqInt64SS_b _ _ n1 n1 n1 rsX1 rsT1 _ (FX1_4.same SX1_6).reads (FT1_6.same ST1_6).reads (HDX1.out.trans HDT1.out.symm) (by omega) (fun r hr => Nat.le_trans (MX1.out r hr) (by omega))).mono ?_); rintro e w7 ⟨rfl, hb7⟩)
  have z7 : w6.heap.size ≤ w7.heap.size := hb7.size
  have B7 : Below w.heap.size w w7 := B6.trans (hb7.mono B6.size)
  have SX1_7 := SX1_6.below hb7 (by omega)
  have ST1_7 := ST1_6.below hb7 (by omega)
  go_wp2
  go_ret
  exact ⟨rfl, B7⟩

set_option maxRecDepth 100000 in
theorem lifted (os : Os) (started : os.Started) (H : Type) (enc : TypeId × Value → H) :
    ReturnsInHanded {} Try.checked os 5 .any (Rows.fnExactCountStatesSpec.pre6 enc Try.prog Try.f5 Rows.fnExactCountStatesRow.domain false) (Rows.fnExactCountStatesSpec.post enc Try.prog Try.f5 false true false false) := by
  refine returnsInHanded_of_change (C := Try.checked) own_ started (by kernel_rfl) Try.func5
    (ChangeSpec.witness6 (enc := enc) (C := Try.checked) false ⟨#[], #[.int .i64 0, .slice none 0 0], []⟩ 12 (by kernel_rfl) (by kernel_rfl) (by kernel_rfl) (by kernel_rfl)) ?_
  intro W base args ds gs before hval0 hW hcnd _
  have hval : ∀ (j : Nat) t v, Try.f5.params[j]? = some t → args[j]? = some v → Value.okWide Try.prog W .any base t v := hval0
  have hW' := hW
  obtain ⟨p, q, hA0, hV, rfl, hfz, hnd⟩ := hW
  have hA : DataW.TrodAll enc Try.prog W 0 (fun _ => true) true Try.f5.params.toList args.toList ds p := hA0
  rw [Try.params5] at hA hval
  obtain ⟨v0, vs0, d0, ds0, p0, q0, hargs, rfl, rfl, h0, r0⟩ := trodAll_cons hA
  obtain ⟨v1, vs1, d1, ds1, p1, q1, rfl, rfl, rfl, h1, r1⟩ := trodAll_cons r0
  obtain ⟨rfl, rfl, rfl⟩ := trodAll_nil r1
  obtain rfl : args = #[v0, v1] := by cases args; simp_all
  obtain ⟨rfl, rfl⟩ := trodVars_none hV
  obtain ⟨a0, rfl, la0, ga0⟩ := op_int Try.underlying2 (hval 0 2 v0 rfl rfl) h0
  obtain ⟨A1, n1, c1, rs1, rfl, lc1, gc1, hr1, hm1⟩ := op_rows Try.underlying22 Try.underlying41 Try.underlying2 (by kernel_rfl) (by kernel_rfl) (hval 1 22 v1 rfl rfl) h1
  clear hA0 hval0
  refine (walk a0 la0 ga0 A1 n1 c1 rs1 lc1 gc1 W hr1 hm1).mono fun e W' ⟨he, hb⟩ => ?_
  subst he
  exact ⟨_, rfl, law_post laidOut_ (by kernel_rfl) rfl rfl Try.underlying4 hW' rfl hb⟩

theorem over : Rows.fnExactCountStatesRow.holds Try.pinned (OpenSpec.ofChange Rows.fnExactCountStatesSpec) :=
  OpenClaim.holds_of_wide 5 Try.f5 rfl rfl rfl rfl rfl rfl rfl ⟨rfl, rfl, rfl, rfl, rfl⟩ rfl rfl rfl rfl rfl (by kernel_rfl) Try.func5 (by kernel_rfl)
    (of_decide_eq_true (by kernel_rfl)) (by unfold Func.isWrapper; first | (rw [if_pos (by decide +kernel)]; kernel_rfl) | (rw [if_neg (by decide +kernel)]; exact ⟨rfl, rfl⟩))
    (fun os started H enc _ => lifted os started H enc)

/-- The statement. -/
theorem proved : Rows.FnExactCountStatesSaid := over
#print axioms proved
end Go.Proofs.Ytnaggimfialbfaa.lCountStates
