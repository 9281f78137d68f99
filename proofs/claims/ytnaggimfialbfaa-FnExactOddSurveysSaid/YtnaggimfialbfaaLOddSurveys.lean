/- The law FnExactOddSurveys: for all arguments the program's OddSurveys and the reference's return the same, and the result shares no memory with an argument or with the result of another call; no condition. -/
import Derived.Test.YtnaggimfialbfaaFrame
import Derived.Test.YtnaggimfialbfaaOwn
import Derived.Test.YtnaggimfialbfaaFrR
import Derived.Test.YtnaggimfialbfaaSvO
namespace Go.Proofs.Ytnaggimfialbfaa.lOddSurveys
set_option linter.unusedVariables false
set_option linter.unusedSimpArgs false
open Go.ChangeShapes Go.WideShapes Go.ChangeAt Go.RowKit
set_option maxHeartbeats 4000000 in
theorem walk (A0 : Option Addr) (n0 c0 : Nat) (xs0 : List Svy) (lc0 : n0 ≤ c0) (gc0 : c0 ≤ maxLen) (w : World) (hr0 : Reads w w.heap.size 5 A0 n0 (Svy.recs xs0)) (hm0 : ∀ x ∈ xs0, x.s.size ≤ maxLen) :
    Calls Try.prog 8 #[.slice A0 n0 c0] w fun e w' => e = .returned (.bool true) ∧ Below w.heap.size w w' := by
  have HM0 := Lib.hid hm0
  clear hm0
  have t0 := sumN_nonneg Svy.len xs0
  by_cases hN0 : 1048576 < ((n0 : Int) + sumN Svy.len xs0)
  ·  -- too large
    go_enter Try.func8, Try.ntmps8
    have sc0 := szSvyS_any A0 n0 c0 xs0 (1048576) w hr0 (by omega) (by omega) (by omega) HM0.out
    rw [szI_n hN0] at sc0
    go_wp2_with fail; ((with_reducible refine sc0.mono ?_); rintro e w1 ⟨rfl, hb1⟩)
    clear sc0
    have z1 : w.heap.size ≤ w1.heap.size := hb1.size
    have B1 : Below w.heap.size w w1 := hb1
    go_wp2
    go_ret
    exact ⟨rfl, B1⟩
  have hY0 := hN0
  have hn0 : n0 ≤ 1048576 := by omega
  have HY0 := Lib.hid hY0
  go_enter Try.func8, Try.ntmps8
  have sc0 := szSvyS_any A0 n0 c0 xs0 (1048576) w hr0 (by omega) (by omega) (by omega) HM0.out
  rw [szI_y hY0] at sc0
  go_wp2_with fail; ((with_reducible refine sc0.mono ?_); rintro e w1 ⟨rfl, hb1⟩)
  clear sc0
  have z1 : w.heap.size ≤ w1.heap.size := hb1.size
  have B1 : Below w.heap.size w w1 := hb1
  go_wp2_with fail; ((with_reducible refine (toSvyS_any A0 n0 c0 xs0 _ ((hr0.below B1).more B1.size) hn0 HM0.out).mono ?_); rintro e w2 ⟨rfl, oS0, hb2⟩)
  have z2 : w1.heap.size ≤ w2.heap.size := hb2.size
  have B2 : Below w.heap.size w w2 := B1.trans (hb2.mono B1.size)
  have FS0_2 := own_mk oS0
  have SS0_2 := Same.refl w1.heap.size w2.heap.size w2
  have cc3 := specOddSurveys_any (some ⟨w1.heap.size, 0, none⟩) n0 n0 xs0 w2 (FS0_2.same SS0_2).reads hn0 HM0.out
  go_wp2_with fail; ((with_reducible refine (cc3).mono ?_); rintro e w3 ⟨AW, nW, cW, rfl, oW, hnW, hb3⟩)
  have z3 : w2.heap.size ≤ w3.heap.size := hb3.size
  have B3 : Below w.heap.size w w3 := B2.trans (hb3.mono B2.size)
  have SS0_3 := SS0_2.below hb3 (by omega)
  have FW_3 := own_mk oW
  have SW_3 := Same.refl w2.heap.size w3.heap.size w3
  clear cc3
  go_wp2_with fail; ((with_reducible refine (toSvyS_any A0 n0 c0 xs0 _ ((hr0.below B3).more B3.size) hn0 HM0.out).mono ?_); rintro e w4 ⟨rfl, oX0, hb4⟩)
  have z4 : w3.heap.size ≤ w4.heap.size := hb4.size
  have B4 : Below w.heap.size w w4 := B3.trans (hb4.mono B3.size)
  have SW_4 := SW_3.below hb4 (by omega)
  have FX0_4 := own_mk oX0
  have SX0_4 := Same.refl w3.heap.size w4.heap.size w4
  have cc5 := implOddSurveys_any (some ⟨w3.heap.size, 0, none⟩) n0 n0 xs0 w4 (FX0_4.same SX0_4).reads hn0 HM0.out
  go_wp2_with fail; ((with_reducible refine (cc5).mono ?_); rintro e w5 ⟨AG, nG, cG, rfl, oG, hnG, hb5⟩)
  have z5 : w4.heap.size ≤ w5.heap.size := hb5.size
  have B5 : Below w.heap.size w w5 := B4.trans (hb5.mono B4.size)
  have SW_5 := SW_4.below hb5 (by omega)
  have SX0_5 := SX0_4.below hb5 (by omega)
  have FG_5 := own_mk oG
  have SG_5 := Same.refl w4.heap.size w5.heap.size w5
  clear cc5
  obtain rfl : nG = nW := by have h1 := FG_5.own.1; have h2 := FW_3.own.1; omega
  go_wp2_with fail; ((with_reducible refine (eqInt64S_b _ _ nG cG cW _ _ (FG_5.same SG_5).reads (FW_3.same SW_5).reads (by omega)).mono ?_); rintro e w6 ⟨rfl, hb6⟩)
  have z6 : w5.heap.size ≤ w6.heap.size := hb6.size
  have B6 : Below w.heap.size w w6 := B5.trans (hb6.mono B5.size)
  have SW_6 := SW_5.below hb6 (by omega)
  have SX0_6 := SX0_5.below hb6 (by omega)
  have SG_6 := SG_5.below hb6 (by omega)
  go_wp2_with fail; ((with_reducible refine (toSvyS_any A0 n0 c0 xs0 _ ((hr0.below B6).more B6.size) hn0 HM0.out).mono ?_); rintro e w7 ⟨rfl, oT0, hb7⟩)
  have z7 : w6.heap.size ≤ w7.heap.size := hb7.size
  have B7 : Below w.heap.size w w7 := B6.trans (hb7.mono B6.size)
  have SW_7 := SW_6.below hb7 (by omega)
  have SX0_7 := SX0_6.below hb7 (by omega)
  have SG_7 := SG_6.below hb7 (by omega)
  have FT0_7 := own_mk oT0
  have ST0_7 := Same.refl w6.heap.size w7.heap.size w7
  go_wp2_with fail; ((with_reducible refine (eqSvyS_b _ _ n0 n0 n0 xs0 _ (FX0_4.same SX0_7).reads (FT0_7.same ST0_7).reads (by omega)).mono ?_); rintro e w8 ⟨rfl, hb8⟩)
  have z8 : w7.heap.size ≤ w8.heap.size := hb8.size
  have B8 : Below w.heap.size w w8 := B7.trans (hb8.mono B7.size)
  have SW_8 := SW_7.below hb8 (by omega)
  have SX0_8 := SX0_7.below hb8 (by omega)
  have SG_8 := SG_7.below hb8 (by omega)
  have ST0_8 := ST0_7.below hb8 (by omega)
  go_wp2_with fail; ((with_reducible refine (markSvyS_any (some ⟨w3.heap.size, 0, none⟩) n0 n0 _ (1) _ w8 (FX0_4.same SX0_8).own (by omega) (by omega) (by omega)).mono ?_); rintro e w9 ⟨rfl, hb9⟩)
  have hc9 := Chg.of_grown hb9 (FX0_4.range)
  have z9 : w8.heap.size ≤ w9.heap.size := hc9.size
  have B9 : Below w.heap.size w w9 := below_chg B8 hc9 B3.size B8.size
  have SW_9 := SW_8.chg hc9 (by omega) (Or.inl (by omega))
  have SG_9 := SG_8.chg hc9 (by omega) (Or.inr (by omega))
  go_wp2_with fail; ((with_reducible refine (eqInt64S_b _ _ nG cG cW _ _ (FG_5.same SG_9).reads (FW_3.same SW_9).reads (by omega)).mono ?_); rintro e w10 ⟨rfl, hb10⟩)
  have z10 : w9.heap.size ≤ w10.heap.size := hb10.size
  have B10 : Below w.heap.size w w10 := B9.trans (hb10.mono B9.size)
  have SW_10 := SW_9.below hb10 (by omega)
  have SG_10 := SG_9.below hb10 (by omega)
  go_wp2_with fail; ((with_reducible refine (markInt64S_any AG nG cG _ (1) _ w10 (FG_5.same SG_10).own (by omega) (by omega) (by omega)).mono ?_); rintro e w11 ⟨rfl, oG11, hb11⟩)
  have hc11 := Chg.of_grown hb11 (FG_5.range)
  have z11 : w10.heap.size ≤ w11.heap.size := hc11.size
  have B11 : Below w.heap.size w w11 := below_chg B10 hc11 B4.size B10.size
  have SW_11 := SW_10.chg hc11 (by omega) (Or.inl (by omega))
  have FG_11 : Own w11 w4.heap.size w5.heap.size _ _ _ _ _ _ := ⟨oG11, FG_5.top⟩
  have SG_11 := Same.refl w4.heap.size w5.heap.size w11
  go_wp2_with fail; ((with_reducible refine (heldInt64S_any _ nG cG 1 w11 (FG_11.same SG_11).reads (by omega) (by omega) (by omega)).mono ?_); rintro e w' ⟨rfl, rfl⟩)
  go_wp2_with fail; ((with_reducible refine (toSvyS_any A0 n0 c0 xs0 _ ((hr0.below B11).more B11.size) hn0 HM0.out).mono ?_); rintro e w12 ⟨rfl, oU0, hb12⟩)
  have z12 : w11.heap.size ≤ w12.heap.size := hb12.size
  have B12 : Below w.heap.size w w12 := B11.trans (hb12.mono B11.size)
  have SW_12 := SW_11.below hb12 (by omega)
  have SG_12 := SG_11.below hb12 (by omega)
  have FU0_12 := own_mk oU0
  have SU0_12 := Same.refl w11.heap.size w12.heap.size w12
  have cc13 := implOddSurveys_any (some ⟨w11.heap.size, 0, none⟩) n0 n0 xs0 w12 (FU0_12.same SU0_12).reads hn0 HM0.out
  go_wp2_with fail; ((with_reducible refine (cc13).mono ?_); rintro e w13 ⟨AH, nH, cH, rfl, oH, hnH, hb13⟩)
  have z13 : w12.heap.size ≤ w13.heap.size := hb13.size
  have B13 : Below w.heap.size w w13 := B12.trans (hb13.mono B12.size)
  have SW_13 := SW_12.below hb13 (by omega)
  have SG_13 := SG_12.below hb13 (by omega)
  have SU0_13 := SU0_12.below hb13 (by omega)
  have FH_13 := own_mk oH
  have SH_13 := Same.refl w12.heap.size w13.heap.size w13
  clear cc13
  obtain rfl : nH = nG := by have h1 := FH_13.own.1; have h2 := FW_3.own.1; omega
  go_wp2_with fail; ((with_reducible refine (eqInt64S_b _ _ nH cH cW _ _ (FH_13.same SH_13).reads (FW_3.same SW_13).reads (by omega)).mono ?_); rintro e w14 ⟨rfl, hb14⟩)
  have z14 : w13.heap.size ≤ w14.heap.size := hb14.size
  have B14 : Below w.heap.size w w14 := B13.trans (hb14.mono B13.size)
  have SW_14 := SW_13.below hb14 (by omega)
  have SG_14 := SG_13.below hb14 (by omega)
  have SH_14 := SH_13.below hb14 (by omega)
  go_wp2_with fail; ((with_reducible refine (heldInt64S_any _ nH cG 1 w14 (FG_11.same SG_14).reads (by omega) (by omega) (by omega)).mono ?_); rintro e w' ⟨rfl, rfl⟩)
  go_wp2
  go_ret
  exact ⟨rfl, B14⟩

set_option maxRecDepth 100000 in
theorem lifted (os : Os) (started : os.Started) (H : Type) (enc : TypeId × Value → H) :
    ReturnsInHanded {} Try.checked os 8 .any (Rows.fnExactOddSurveysSpec.pre6 enc Try.prog Try.f8 Rows.fnExactOddSurveysRow.domain false) (Rows.fnExactOddSurveysSpec.post enc Try.prog Try.f8 false true false false) := by
  refine returnsInHanded_of_change (C := Try.checked) own_ started (by kernel_rfl) Try.func8
    (ChangeSpec.witness6 (enc := enc) (C := Try.checked) false ⟨#[], #[.slice none 0 0], []⟩ 12 (by kernel_rfl) (by kernel_rfl) (by kernel_rfl) (by kernel_rfl)) ?_
  intro W base args ds gs before hval0 hW hcnd _
  have hval : ∀ (j : Nat) t v, Try.f8.params[j]? = some t → args[j]? = some v → Value.okWide Try.prog W .any base t v := hval0
  have hW' := hW
  obtain ⟨p, q, hA0, hV, rfl, hfz, hnd⟩ := hW
  have hA : DataW.TrodAll enc Try.prog W 0 (fun _ => true) true Try.f8.params.toList args.toList ds p := hA0
  rw [Try.params8] at hA hval
  obtain ⟨v0, vs0, d0, ds0, p0, q0, hargs, rfl, rfl, h0, r0⟩ := trodAll_cons hA
  obtain ⟨rfl, rfl, rfl⟩ := trodAll_nil r0
  obtain rfl : args = #[v0] := by cases args; simp_all
  obtain ⟨rfl, rfl⟩ := trodVars_none hV
  obtain ⟨A0, n0, c0, xs0, rfl, lc0, gc0, hr0, hm0⟩ := op_svysS Try.underlying33 Try.underlying74 (by kernel_rfl) (by kernel_rfl) Try.underlying9 Try.underlying2 Try.underlying2 Try.underlying2 Try.underlying2 (hval 0 33 v0 rfl rfl) h0
  clear hA0 hval0
  refine (walk A0 n0 c0 xs0 lc0 gc0 W hr0 hm0).mono fun e W' ⟨he, hb⟩ => ?_
  subst he
  exact ⟨_, rfl, law_post laidOut_ (by kernel_rfl) rfl rfl Try.underlying4 hW' rfl hb⟩

theorem over : Rows.fnExactOddSurveysRow.holds Try.pinned (OpenSpec.ofChange Rows.fnExactOddSurveysSpec) :=
  OpenClaim.holds_of_wide 8 Try.f8 rfl rfl rfl rfl rfl rfl rfl ⟨rfl, rfl, rfl, rfl, rfl⟩ rfl rfl rfl rfl rfl (by kernel_rfl) Try.func8 (by kernel_rfl)
    (of_decide_eq_true (by kernel_rfl)) (by unfold Func.isWrapper; first | (rw [if_pos (by decide +kernel)]; kernel_rfl) | (rw [if_neg (by decide +kernel)]; exact ⟨rfl, rfl⟩))
    (fun os started H enc _ => lifted os started H enc)

/-- The statement. -/
theorem proved : Rows.FnExactOddSurveysSaid := over
#print axioms proved
end Go.Proofs.Ytnaggimfialbfaa.lOddSurveys
