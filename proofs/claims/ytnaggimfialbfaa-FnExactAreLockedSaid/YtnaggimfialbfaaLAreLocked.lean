/- The law FnExactAreLocked: for all arguments the program's AreLocked and the reference's return the same; no condition. -/
import Derived.Test.YtnaggimfialbfaaFrame
import Derived.Test.YtnaggimfialbfaaOwn
import Derived.Test.YtnaggimfialbfaaFrN
import Derived.Test.YtnaggimfialbfaaKeep
namespace Go.Proofs.Ytnaggimfialbfaa.lAreLocked
set_option linter.unusedVariables false
set_option linter.unusedSimpArgs false
open Go.ChangeShapes Go.WideShapes Go.ChangeAt Go.RowKit
set_option maxHeartbeats 4000000 in
theorem walk (A0 : Option Addr) (n0 c0 : Nat) (xs0 : List Bool) (lc0 : n0 ≤ c0) (gc0 : c0 ≤ maxLen) (A1 : Option Addr) (n1 c1 : Nat) (xs1 : List Row) (lc1 : n1 ≤ c1) (gc1 : c1 ≤ maxLen) (w : World) (hr0 : Reads w w.heap.size 1 A0 n0 (bools xs0)) (hr1 : RSS w w.heap.size A1 n1 xs1) (hm1 : ∀ r ∈ xs1, r.n ≤ maxLen) :
    Calls Try.prog 4 #[.slice A0 n0 c0, .slice A1 n1 c1] w fun e w' => e = .returned (.bool true) ∧ Below w.heap.size w w' := by
  have HM1 := Lib.hid hm1
  clear hm1
  by_cases big0 : 1048576 < n0
  · go_enter Try.func4, Try.ntmps4
    go_wp2
    go_ret
    exact ⟨rfl, by (repeat (first | exact Below.refl _ _ | assumption | (refine Below.alloc ?_ (by first | exact Nat.le_refl _ | (simp; done) | (simp; omega)) _) | (refine below_drewN ?_ _) | (refine Below.trans ?_ (Below.mono (by assumption) (by first | exact Nat.le_refl _ | (simp; done) | (simp; omega) | omega)))))⟩
  have hn0 : n0 ≤ 1048576 := by omega
  have t1 := tot_nonneg xs1
  by_cases hN0 : 1048576 < ((n1 : Int) + tot xs1)
  ·  -- too large
    go_enter Try.func4, Try.ntmps4
    have sc0 := szRows_any A1 n1 c1 xs1 (1048576) w hr1 (by omega) (by omega) (by omega) HM1.out
    rw [szI_n hN0] at sc0
    go_wp2_with fail; ((with_reducible refine sc0.mono ?_); rintro e w1 ⟨rfl, hb1⟩)
    clear sc0
    have z1 : w.heap.size ≤ w1.heap.size := hb1.size
    have B1 : Below w.heap.size w w1 := hb1
    go_wp2
    go_ret
    exact ⟨rfl, B1⟩
  have hY0 := hN0
  have hn1 : n1 ≤ 1048576 := by omega
  have hrn1 : Hid (∀ r ∈ xs1, r.n ≤ 1048576) := fun r hr => by have := tot_mem hr; omega
  have HY0 := Lib.hid hY0
  go_enter Try.func4, Try.ntmps4
  have sc0 := szRows_any A1 n1 c1 xs1 (1048576) w hr1 (by omega) (by omega) (by omega) HM1.out
  rw [szI_y hY0] at sc0
  go_wp2_with fail; ((with_reducible refine sc0.mono ?_); rintro e w1 ⟨rfl, hb1⟩)
  clear sc0
  have z1 : w.heap.size ≤ w1.heap.size := hb1.size
  have B1 : Below w.heap.size w w1 := hb1
  go_wp2_with fail; ((with_reducible refine (toBoolS_any A0 n0 c0 xs0 _ ((hr0.below B1).more B1.size) hn0).mono ?_); rintro e w2 ⟨rfl, oS0, hb2⟩)
  have z2 : w1.heap.size ≤ w2.heap.size := hb2.size
  have B2 : Below w.heap.size w w2 := B1.trans (hb2.mono B1.size)
  have FS0_2 := own_mk oS0
  have SS0_2 := Same.refl w1.heap.size w2.heap.size w2
  go_wp2_with fail; ((with_reducible refine (toInt64SS_any A1 n1 c1 xs1 _ ((hr1.below B2).more B2.size) hn1 hrn1.out).mono ?_); rintro e w3 ⟨rsS1, rfl, oS1, DS1, hb3⟩)
  have z3 : w2.heap.size ≤ w3.heap.size := hb3.size
  have B3 : Below w.heap.size w w3 := B2.trans (hb3.mono B2.size)
  have SS0_3 := SS0_2.below hb3 (by omega)
  have FS1_3 := oss_mk oS1
  have MS1 := Lib.hid (bound_dat hr1 FS1_3.reads DS1 hrn1.out)
  have HDS1 := Lib.hid DS1
  clear DS1
  have SS1_3 := Same.refl w2.heap.size w3.heap.size w3
  have cc4 := specAreLocked_any (some ⟨w1.heap.size, 0, none⟩) n0 n0 xs0 (some ⟨w2.heap.size, 0, none⟩) n1 n1 rsS1 w3 (FS0_2.same SS0_3).reads hn0 (FS1_3.same SS1_3).reads hn1 MS1.out
  rw [HDS1.out] at cc4
  go_wp2_with fail; ((with_reducible refine (cc4).mono ?_); rintro e w4 ⟨rfl, hb4⟩)
  have z4 : w3.heap.size ≤ w4.heap.size := hb4.size
  have B4 : Below w.heap.size w w4 := B3.trans (hb4.mono B3.size)
  have SS0_4 := SS0_3.below hb4 (by omega)
  have SS1_4 := SS1_3.below hb4 (by omega)
  clear cc4
  go_wp2_with fail; ((with_reducible refine (toBoolS_any A0 n0 c0 xs0 _ ((hr0.below B4).more B4.size) hn0).mono ?_); rintro e w5 ⟨rfl, oX0, hb5⟩)
  have z5 : w4.heap.size ≤ w5.heap.size := hb5.size
  have B5 : Below w.heap.size w w5 := B4.trans (hb5.mono B4.size)
  have FX0_5 := own_mk oX0
  have SX0_5 := Same.refl w4.heap.size w5.heap.size w5
  go_wp2_with fail; ((with_reducible refine (toInt64SS_any A1 n1 c1 xs1 _ ((hr1.below B5).more B5.size) hn1 hrn1.out).mono ?_); rintro e w6 ⟨rsX1, rfl, oX1, DX1, hb6⟩)
  have z6 : w5.heap.size ≤ w6.heap.size := hb6.size
  have B6 : Below w.heap.size w w6 := B5.trans (hb6.mono B5.size)
  have SX0_6 := SX0_5.below hb6 (by omega)
  have FX1_6 := oss_mk oX1
  have MX1 := Lib.hid (bound_dat hr1 FX1_6.reads DX1 hrn1.out)
  have HDX1 := Lib.hid DX1
  clear DX1
  have SX1_6 := Same.refl w5.heap.size w6.heap.size w6
  have cc7 := implAreLocked_any (some ⟨w4.heap.size, 0, none⟩) n0 n0 xs0 (some ⟨w5.heap.size, 0, none⟩) n1 n1 rsX1 w6 (FX0_5.same SX0_6).reads hn0 (FX1_6.same SX1_6).reads hn1 MX1.out
  rw [HDX1.out] at cc7
  go_wp2_with fail; ((with_reducible refine (cc7).mono ?_); rintro e w7 ⟨rfl, hb7⟩)
  have z7 : w6.heap.size ≤ w7.heap.size := hb7.size
  have B7 : Below w.heap.size w w7 := B6.trans (hb7.mono B6.size)
  have SX0_7 := SX0_6.below hb7 (by omega)
  have SX1_7 := SX1_6.below hb7 (by omega)
  clear cc7
  go_wp2_with fail; ((with_reducible refine (toBoolS_any A0 n0 c0 xs0 _ ((hr0.below B7).more B7.size) hn0).mono ?_); rintro e w8 ⟨rfl, oT0, hb8⟩)
  have z8 : w7.heap.size ≤ w8.heap.size := hb8.size
  have B8 : Below w.heap.size w w8 := B7.trans (hb8.mono B7.size)
  have SX0_8 := SX0_7.below hb8 (by omega)
  have SX1_8 := SX1_7.below hb8 (by omega)
  have FT0_8 := own_mk oT0
  have ST0_8 := Same.refl w7.heap.size w8.heap.size w8
  go_wp2_with fail; ((with_reducible refine (eqBoolS_b _ _ n0 n0 n0 xs0 _ (FX0_5.same SX0_8).reads (FT0_8.same ST0_8).reads (by omega)).mono ?_); rintro e w9 ⟨rfl, hb9⟩)
  have z9 : w8.heap.size ≤ w9.heap.size := hb9.size
  have B9 : Below w.heap.size w w9 := B8.trans (hb9.mono B8.size)
  have SX0_9 := SX0_8.below hb9 (by omega)
  have SX1_9 := SX1_8.below hb9 (by omega)
  have ST0_9 := ST0_8.below hb9 (by omega)
  go_wp2_with fail; ((with_reducible refine (toInt64SS_any A1 n1 c1 xs1 _ ((hr1.below B9).more B9.size) hn1 hrn1.out).mono ?_); rintro e w10 ⟨rsT1, rfl, oT1, DT1, hb10⟩)
  have z10 : w9.heap.size ≤ w10.heap.size := hb10.size
  have B10 : Below w.heap.size w w10 := B9.trans (hb10.mono B9.size)
  have SX1_10 := SX1_9.below hb10 (by omega)
  have FT1_10 := oss_mk oT1
  have MT1 := Lib.hid (bound_dat hr1 FT1_10.reads DT1 hrn1.out)
  have HDT1 := Lib.hid DT1
  clear DT1
  have ST1_10 := Same.refl w9.heap.size w10.heap.size w10
  go_wp2_with fail; ((with_reducible refine (eqInt64SS_b _ _ n1 n1 n1 rsX1 rsT1 _ (FX1_6.same SX1_10).reads (FT1_10.same ST1_10).reads (HDX1.out.trans HDT1.out.symm) (by omega) (fun r hr => Nat.le_trans (MX1.out r hr) (by omega))).mono ?_); rintro e w11 ⟨rfl, hb11⟩)
  have z11 : w10.heap.size ≤ w11.heap.size := hb11.size
  have B11 : Below w.heap.size w w11 := B10.trans (hb11.mono B10.size)
  have SX1_11 := SX1_10.below hb11 (by omega)
  have ST1_11 := ST1_10.below hb11 (by omega)
  go_wp2
  go_ret
  exact ⟨rfl, B11⟩

set_option maxRecDepth 100000 in
theorem lifted (os : Os) (started : os.Started) (H : Type) (enc : TypeId × Value → H) :
    ReturnsInHanded {} Try.checked os 4 .any (Rows.fnExactAreLockedSpec.pre6 enc Try.prog Try.f4 Rows.fnExactAreLockedRow.domain false) (Rows.fnExactAreLockedSpec.post enc Try.prog Try.f4 false true false false) := by
  refine returnsInHanded_of_change (C := Try.checked) own_ started (by kernel_rfl) Try.func4
    (ChangeSpec.witness6 (enc := enc) (C := Try.checked) false ⟨#[], #[.slice none 0 0, .slice none 0 0], []⟩ 12 (by kernel_rfl) (by kernel_rfl) (by kernel_rfl) (by kernel_rfl)) ?_
  intro W base args ds gs before hval0 hW hcnd _
  have hval : ∀ (j : Nat) t v, Try.f4.params[j]? = some t → args[j]? = some v → Value.okWide Try.prog W .any base t v := hval0
  have hW' := hW
  obtain ⟨p, q, hA0, hV, rfl, hfz, hnd⟩ := hW
  have hA : DataW.TrodAll enc Try.prog W 0 (fun _ => true) true Try.f4.params.toList args.toList ds p := hA0
  rw [Try.params4] at hA hval
  obtain ⟨v0, vs0, d0, ds0, p0, q0, hargs, rfl, rfl, h0, r0⟩ := trodAll_cons hA
  obtain ⟨v1, vs1, d1, ds1, p1, q1, rfl, rfl, rfl, h1, r1⟩ := trodAll_cons r0
  obtain ⟨rfl, rfl, rfl⟩ := trodAll_nil r1
  obtain rfl : args = #[v0, v1] := by cases args; simp_all
  obtain ⟨rfl, rfl⟩ := trodVars_none hV
  obtain ⟨A0, n0, c0, xs0, rfl, lc0, gc0, hr0⟩ := op_bools Try.underlying27 Try.underlying4 (by kernel_rfl) (hval 0 27 v0 rfl rfl) h0
  obtain ⟨A1, n1, c1, rs1, rfl, lc1, gc1, hr1, hm1⟩ := op_rows Try.underlying22 Try.underlying41 Try.underlying2 (by kernel_rfl) (by kernel_rfl) (hval 1 22 v1 rfl rfl) h1
  clear hA0 hval0
  refine (walk A0 n0 c0 xs0 lc0 gc0 A1 n1 c1 rs1 lc1 gc1 W hr0 hr1 hm1).mono fun e W' ⟨he, hb⟩ => ?_
  subst he
  exact ⟨_, rfl, law_post laidOut_ (by kernel_rfl) rfl rfl Try.underlying4 hW' rfl hb⟩

theorem over : Rows.fnExactAreLockedRow.holds Try.pinned (OpenSpec.ofChange Rows.fnExactAreLockedSpec) :=
  OpenClaim.holds_of_wide 4 Try.f4 rfl rfl rfl rfl rfl rfl rfl ⟨rfl, rfl, rfl, rfl, rfl⟩ rfl rfl rfl rfl rfl (by kernel_rfl) Try.func4 (by kernel_rfl)
    (of_decide_eq_true (by kernel_rfl)) (by unfold Func.isWrapper; first | (rw [if_pos (by decide +kernel)]; kernel_rfl) | (rw [if_neg (by decide +kernel)]; exact ⟨rfl, rfl⟩))
    (fun os started H enc _ => lifted os started H enc)

/-- The statement. -/
theorem proved : Rows.FnExactAreLockedSaid := over
#print axioms proved
end Go.Proofs.Ytnaggimfialbfaa.lAreLocked
