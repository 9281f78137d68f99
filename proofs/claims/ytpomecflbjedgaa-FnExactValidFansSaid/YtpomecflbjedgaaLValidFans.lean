/- The law FnExactValidFans: for all arguments the program's ValidFans and the reference's return the same; no condition. -/
import Derived.Test.YtpomecflbjedgaaFrame
import Derived.Test.YtpomecflbjedgaaOwn
import Derived.Test.YtpomecflbjedgaaFrF
import Derived.Test.YtpomecflbjedgaaFanL
namespace Go.Proofs.Ytpomecflbjedgaa.lValidFans
set_option linter.unusedVariables false
set_option linter.unusedSimpArgs false
open Go.ChangeShapes Go.WideShapes Go.ChangeAt Go.RowKit
set_option maxHeartbeats 4000000 in
theorem walk (A0 : Option Addr) (n0 c0 : Nat) (xs0 : List Fan) (lc0 : n0 ≤ c0) (gc0 : c0 ≤ maxLen) (w : World) (hr0 : FSS w w.heap.size A0 n0 xs0) (hm0 : ∀ x ∈ xs0, Fan.ok0 x) :
    Calls Try.prog 3 #[.slice A0 n0 c0] w fun e w' => e = .returned (.bool true) ∧ Below w.heap.size w w' := by
  have HM0 := Lib.hid hm0
  clear hm0
  have t0 := fansLen_nonneg xs0
  by_cases hN0 : 1048576 < ((n0 : Int) + fansLen xs0)
  ·  -- too large
    have HN0 := Lib.hid hN0
    go_enter Try.func3, Try.ntmps3
    have sc0 := szFanS_any A0 n0 c0 xs0 (1048576) w hr0 (by omega) (by omega) (by omega) HM0.out
    rw [szI_n (l := 1048576) (s := ((n0 : Int) + fansLen xs0)) (by omega)] at sc0
    go_wp2_with fail; ((with_reducible refine sc0.mono ?_); rintro e w1 ⟨rfl, hb1⟩)
    clear sc0
    have z1 : w.heap.size ≤ w1.heap.size := hb1.size
    have B1 : Below w.heap.size w w1 := hb1
    go_wp2
    go_ret
    exact ⟨rfl, B1⟩
  have HY0 := Lib.hid hN0
  have hn0 : n0 ≤ 1048576 := by omega
  have hok0 : Hid (∀ x ∈ xs0, Fan.ok x) := fans_ok (by omega)
  go_enter Try.func3, Try.ntmps3
  have sc0 := szFanS_any A0 n0 c0 xs0 (1048576) w hr0 (by omega) (by omega) (by omega) HM0.out
  rw [szI_y (l := 1048576) (s := ((n0 : Int) + fansLen xs0)) (by omega)] at sc0
  go_wp2_with fail; ((with_reducible refine sc0.mono ?_); rintro e w1 ⟨rfl, hb1⟩)
  clear sc0
  have z1 : w.heap.size ≤ w1.heap.size := hb1.size
  have B1 : Below w.heap.size w w1 := hb1
  go_wp2_with fail; ((with_reducible refine (toFanS_any A0 n0 c0 xs0 _ ((hr0.below B1).more B1.size) hn0 hok0.out).mono ?_); rintro e w2 ⟨rsS0, rfl, oS0, DS0, MS0', hb2⟩)
  have z2 : w1.heap.size ≤ w2.heap.size := hb2.size
  have B2 : Below w.heap.size w w2 := B1.trans (hb2.mono B1.size)
  have FS0_2 := oS0
  have MS0 := Lib.hid MS0'
  clear MS0'
  have HDS0 := Lib.hid DS0
  clear DS0
  have SS0_2 := Same.refl w1.heap.size w2.heap.size w2
  have cc3 := specValidFans_any (some ⟨w1.heap.size, 0, none⟩) n0 n0 rsS0 w2 (FS0_2.same SS0_2).reads hn0 MS0.out
  rw [HDS0.out] at cc3
  go_wp2_with fail; ((with_reducible refine (cc3).mono ?_); rintro e w3 ⟨rfl, hb3⟩)
  have z3 : w2.heap.size ≤ w3.heap.size := hb3.size
  have B3 : Below w.heap.size w w3 := B2.trans (hb3.mono B2.size)
  have SS0_3 := SS0_2.below hb3 (by omega)
  clear cc3
  go_wp2_with fail; ((with_reducible refine (toFanS_any A0 n0 c0 xs0 _ ((hr0.below B3).more B3.size) hn0 hok0.out).mono ?_); rintro e w4 ⟨rsX0, rfl, oX0, DX0, MX0', hb4⟩)
  have z4 : w3.heap.size ≤ w4.heap.size := hb4.size
  have B4 : Below w.heap.size w w4 := B3.trans (hb4.mono B3.size)
  have FX0_4 := oX0
  have MX0 := Lib.hid MX0'
  clear MX0'
  have HDX0 := Lib.hid DX0
  clear DX0
  have SX0_4 := Same.refl w3.heap.size w4.heap.size w4
  have cc5 := implValidFans_any (some ⟨w3.heap.size, 0, none⟩) n0 n0 rsX0 w4 (FX0_4.same SX0_4).reads hn0 MX0.out
  rw [HDX0.out] at cc5
  go_wp2_with fail; ((with_reducible refine (cc5).mono ?_); rintro e w5 ⟨rfl, hb5⟩)
  have z5 : w4.heap.size ≤ w5.heap.size := hb5.size
  have B5 : Below w.heap.size w w5 := B4.trans (hb5.mono B4.size)
  have SX0_5 := SX0_4.below hb5 (by omega)
  clear cc5
  go_wp2_with fail; ((with_reducible refine (toFanS_any A0 n0 c0 xs0 _ ((hr0.below B5).more B5.size) hn0 hok0.out).mono ?_); rintro e w6 ⟨rsT0, rfl, oT0, DT0, MT0', hb6⟩)
  have z6 : w5.heap.size ≤ w6.heap.size := hb6.size
  have B6 : Below w.heap.size w w6 := B5.trans (hb6.mono B5.size)
  have SX0_6 := SX0_5.below hb6 (by omega)
  have FT0_6 := oT0
  have MT0 := Lib.hid MT0'
  clear MT0'
  have HDT0 := Lib.hid DT0
  clear DT0
  have ST0_6 := Same.refl w5.heap.size w6.heap.size w6
  go_wp2_with fail; ((with_reducible refine (eqFanS_b _ _ n0 n0 n0 rsX0 rsT0 _ (FX0_4.same SX0_6).reads (FT0_6.same ST0_6).reads (HDX0.out.trans HDT0.out.symm) (by omega) MX0.out).mono ?_); rintro e w7 ⟨rfl, hb7⟩)
  have z7 : w6.heap.size ≤ w7.heap.size := hb7.size
  have B7 : Below w.heap.size w w7 := B6.trans (hb7.mono B6.size)
  have SX0_7 := SX0_6.below hb7 (by omega)
  have ST0_7 := ST0_6.below hb7 (by omega)
  go_wp2
  go_ret
  exact ⟨rfl, B7⟩

set_option maxRecDepth 100000 in
theorem lifted (os : Os) (started : os.Started) (H : Type) (enc : TypeId × Value → H) :
    ReturnsInHanded {} Try.checked os 3 .any (Rows.fnExactValidFansSpec.pre6 enc Try.prog Try.f3 Rows.fnExactValidFansRow.domain false) (Rows.fnExactValidFansSpec.post enc Try.prog Try.f3 false true false false) := by
  refine returnsInHanded_of_change (C := Try.checked) own_ started (by kernel_rfl) Try.func3
    (ChangeSpec.witness6 (enc := enc) (C := Try.checked) false ⟨#[], #[.slice none 0 0], []⟩ 12 (by kernel_rfl) (by kernel_rfl) (by kernel_rfl) (by kernel_rfl)) ?_
  intro W base args ds gs before hval0 hW hcnd _
  have hval : ∀ (j : Nat) t v, Try.f3.params[j]? = some t → args[j]? = some v → Value.okWide Try.prog W .any base t v := hval0
  have hW' := hW
  obtain ⟨p, q, hA0, hV, rfl, hfz, hnd⟩ := hW
  have hA : DataW.TrodAll enc Try.prog W 0 (fun _ => true) true Try.f3.params.toList args.toList ds p := hA0
  rw [Try.params3] at hA hval
  obtain ⟨v0, vs0, d0, ds0, p0, q0, hargs, rfl, rfl, h0, r0⟩ := trodAll_cons hA
  obtain ⟨rfl, rfl, rfl⟩ := trodAll_nil r0
  obtain rfl : args = #[v0] := by cases args; simp_all
  obtain ⟨rfl, rfl⟩ := trodVars_none hV
  obtain ⟨A0, n0, c0, xs0, rfl, lc0, gc0, hr0, hm0⟩ := op_fansS Try.underlying22 Try.underlying32 (by kernel_rfl) (by kernel_rfl) Try.underlying9 Try.underlying2 Try.underlying30 Try.underlying43 Try.underlying2 (by kernel_rfl) (by kernel_rfl) (hval 0 22 v0 rfl rfl) h0
  clear hA0 hval0
  refine (walk A0 n0 c0 xs0 lc0 gc0 W hr0 hm0).mono fun e W' ⟨he, hb⟩ => ?_
  subst he
  exact ⟨_, rfl, law_post laidOut_ (by kernel_rfl) rfl rfl Try.underlying4 hW' rfl hb⟩

theorem over : Rows.fnExactValidFansRow.holds Try.pinned (OpenSpec.ofChange Rows.fnExactValidFansSpec) :=
  OpenClaim.holds_of_wide 3 Try.f3 rfl rfl rfl rfl rfl rfl rfl ⟨rfl, rfl, rfl, rfl, rfl⟩ rfl rfl rfl rfl rfl (by kernel_rfl) Try.func3 (by kernel_rfl)
    (of_decide_eq_true (by kernel_rfl)) (by unfold Func.isWrapper; first | (rw [if_pos (by decide +kernel)]; kernel_rfl) | (rw [if_neg (by decide +kernel)]; exact ⟨rfl, rfl⟩))
    (fun os started H enc _ => lifted os started H enc)

/-- The statement. -/
theorem proved : Rows.FnExactValidFansSaid := over
#print axioms proved
end Go.Proofs.Ytpomecflbjedgaa.lValidFans
