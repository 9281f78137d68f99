/- The law FnExactCloseLoop: for all arguments the program's CloseLoop and the reference's return the same, and the result shares no memory with an argument or with the result of another call; no condition. -/
import Derived.Test.YtkojlpbjhpdakaaFrame
import Derived.Test.YtkojlpbjhpdakaaClo
namespace Go.Proofs.Ytkojlpbjhpdakaa.lCloseLoop
set_option linter.unusedVariables false
set_option linter.unusedSimpArgs false
open Go.ChangeShapes Go.WideShapes Go.ChangeAt Go.RowKit
set_option maxHeartbeats 4000000 in
theorem walk (A0 : Option Addr) (n0 c0 : Nat) (xs0 : List Int) (lc0 : n0 ≤ c0) (gc0 : c0 ≤ maxLen) (w : World) (hr0 : Reads w w.heap.size 1 A0 n0 (ints xs0)) :
    Calls Try.prog 7 #[.slice A0 n0 c0] w fun e w' => e = .returned (.bool true) ∧ Below w.heap.size w w' := by
  by_cases big0 : 1048576 < n0
  · go_enter Try.func7, Try.ntmps7
    go_wp2
    go_ret
    exact ⟨rfl, by (repeat (first | exact Below.refl _ _ | assumption | (refine Below.alloc ?_ (by first | exact Nat.le_refl _ | (simp; done) | (simp; omega)) _) | (refine below_drewN ?_ _) | (refine Below.trans ?_ (Below.mono (by assumption) (by first | exact Nat.le_refl _ | (simp; done) | (simp; omega) | omega)))))⟩
  have hn0 : n0 ≤ 1048576 := by omega
  go_enter Try.func7, Try.ntmps7
  go_wp2_with fail; ((with_reducible refine (toInt64S_any A0 n0 c0 xs0 _ hr0 hn0).mono ?_); rintro e w1 ⟨rfl, S01, hb1⟩)
  have z1 : w.heap.size ≤ w1.heap.size := hb1.size
  have B1 : Below w.heap.size w w1 := hb1
  have lo_S0 : ∀ k, Value.ownBlock (.slice (some ⟨w.heap.size, 0, none⟩) n0 n0) = some k → w.heap.size ≤ k := fun k hk => (S01.lt k hk).1
  have hi_S0 : ∀ k, Value.ownBlock (.slice (some ⟨w.heap.size, 0, none⟩) n0 n0) = some k → k < w1.heap.size := fun k hk => (S01.lt k hk).2
  go_wp2_with fail; ((with_reducible refine (specCloseLoop_any _ n0 n0 xs0 _ (Reads.of_own S01) hn0).mono ?_); rintro e w2 ⟨AW, nW, cW, rfl, W2, hnW, hb2⟩)
  have z2 : w1.heap.size ≤ w2.heap.size := hb2.size
  have B2 : Below w.heap.size w w2 := B1.trans (hb2.mono B1.size)
  have S02 := own_below S01 hb2
  have lo_W : ∀ k, Value.ownBlock (.slice AW nW cW) = some k → w1.heap.size ≤ k := fun k hk => (W2.lt k hk).1
  have hi_W : ∀ k, Value.ownBlock (.slice AW nW cW) = some k → k < w2.heap.size := fun k hk => (W2.lt k hk).2
  go_wp2_with fail; ((with_reducible refine (toInt64S_any A0 n0 c0 xs0 _ ((hr0.below B2).more B2.size) hn0).mono ?_); rintro e w3 ⟨rfl, X03, hb3⟩)
  have z3 : w2.heap.size ≤ w3.heap.size := hb3.size
  have B3 : Below w.heap.size w w3 := B2.trans (hb3.mono B2.size)
  have W3 := own_below W2 hb3
  have lo_X0 : ∀ k, Value.ownBlock (.slice (some ⟨w2.heap.size, 0, none⟩) n0 n0) = some k → w2.heap.size ≤ k := fun k hk => (X03.lt k hk).1
  have hi_X0 : ∀ k, Value.ownBlock (.slice (some ⟨w2.heap.size, 0, none⟩) n0 n0) = some k → k < w3.heap.size := fun k hk => (X03.lt k hk).2
  go_wp2_with fail; ((with_reducible refine (implCloseLoop_any _ n0 n0 xs0 _ (Reads.of_own X03) hn0).mono ?_); rintro e w4 ⟨AG, nG, cG, rfl, G4, hnG, hb4⟩)
  have z4 : w3.heap.size ≤ w4.heap.size := hb4.size
  have B4 : Below w.heap.size w w4 := B3.trans (hb4.mono B3.size)
  have W4 := own_below W3 hb4
  have X04 := own_below X03 hb4
  have lo_G : ∀ k, Value.ownBlock (.slice AG nG cG) = some k → w3.heap.size ≤ k := fun k hk => (G4.lt k hk).1
  have hi_G : ∀ k, Value.ownBlock (.slice AG nG cG) = some k → k < w4.heap.size := fun k hk => (G4.lt k hk).2
  obtain rfl : nG = nW := by have h1 := G4.1; have h2 := W4.1; omega
  go_wp2_with fail; ((with_reducible refine (eqInt64S_b _ _ nG cG cW _ _ (Reads.of_own G4) (Reads.of_own W4) (by omega)).mono ?_); rintro e w5 ⟨rfl, hb5⟩)
  have z5 : w4.heap.size ≤ w5.heap.size := hb5.size
  have B5 : Below w.heap.size w w5 := B4.trans (hb5.mono B4.size)
  have W5 := own_below W4 hb5
  have X05 := own_below X04 hb5
  have G5 := own_below G4 hb5
  go_wp2_with fail; ((with_reducible refine (toInt64S_any A0 n0 c0 xs0 _ ((hr0.below B5).more B5.size) hn0).mono ?_); rintro e w6 ⟨rfl, T06, hb6⟩)
  have z6 : w5.heap.size ≤ w6.heap.size := hb6.size
  have B6 : Below w.heap.size w w6 := B5.trans (hb6.mono B5.size)
  have W6 := own_below W5 hb6
  have X06 := own_below X05 hb6
  have G6 := own_below G5 hb6
  have lo_T0 : ∀ k, Value.ownBlock (.slice (some ⟨w5.heap.size, 0, none⟩) n0 n0) = some k → w5.heap.size ≤ k := fun k hk => (T06.lt k hk).1
  have hi_T0 : ∀ k, Value.ownBlock (.slice (some ⟨w5.heap.size, 0, none⟩) n0 n0) = some k → k < w6.heap.size := fun k hk => (T06.lt k hk).2
  go_wp2_with fail; ((with_reducible refine (eqInt64S_b _ _ n0 n0 n0 xs0 _ (Reads.of_own X06) (Reads.of_own T06) (by omega)).mono ?_); rintro e w7 ⟨rfl, hb7⟩)
  have z7 : w6.heap.size ≤ w7.heap.size := hb7.size
  have B7 : Below w.heap.size w w7 := B6.trans (hb7.mono B6.size)
  have W7 := own_below W6 hb7
  have X07 := own_below X06 hb7
  have G7 := own_below G6 hb7
  go_wp2_with fail; ((with_reducible refine (markInt64S_any _ n0 n0 _ (1) w2.heap.size w7 X07 (by omega) (by omega) (by omega)).mono ?_); rintro e w8 ⟨rfl, X08, hb8⟩)
  have z8 : w7.heap.size ≤ w8.heap.size := hb8.size
  have B8 : Below w.heap.size w w8 := B7.grown hb8 B7.size (fun k hk => by have h1 := lo_X0 k hk; have h2 := B2.size; omega)
  have W8 := own_keep W7 hb8 (fun k hk hr => by have h1 := hi_W k hk; have h2 := lo_X0 k hr; omega)
  have G8 := own_keep G7 hb8 (fun k hk hr => by have h1 := lo_G k hk; have h2 := hi_X0 k hr; omega)
  go_wp2_with fail; ((with_reducible refine (eqInt64S_b _ _ nG cG cW _ _ (Reads.of_own G8) (Reads.of_own W8) (by omega)).mono ?_); rintro e w9 ⟨rfl, hb9⟩)
  have z9 : w8.heap.size ≤ w9.heap.size := hb9.size
  have B9 : Below w.heap.size w w9 := B8.trans (hb9.mono B8.size)
  have W9 := own_below W8 hb9
  have G9 := own_below G8 hb9
  go_wp2_with fail; ((with_reducible refine (markInt64S_any _ nG cG _ 1 w3.heap.size w9 G9 (by omega) (by omega) (by omega)).mono ?_); rintro e w10 ⟨rfl, G10, hb10⟩)
  have z10 : w9.heap.size ≤ w10.heap.size := hb10.size
  have B10 : Below w.heap.size w w10 := B9.grown hb10 B9.size (fun k hk => by have h1 := lo_G k hk; have h2 := B3.size; omega)
  have W10 := own_keep W9 hb10 (fun k hk hr => by have h1 := hi_W k hk; have h2 := lo_G k hr; omega)
  go_wp2_with fail; ((with_reducible refine (heldInt64S_any _ nG cG 1 w10 (Reads.of_own G10) (by omega) (by omega) (by omega)).mono ?_); rintro e w' ⟨rfl, rfl⟩)
  go_wp2_with fail; ((with_reducible refine (toInt64S_any A0 n0 c0 xs0 _ ((hr0.below B10).more B10.size) hn0).mono ?_); rintro e w11 ⟨rfl, U011, hb11⟩)
  have z11 : w10.heap.size ≤ w11.heap.size := hb11.size
  have B11 : Below w.heap.size w w11 := B10.trans (hb11.mono B10.size)
  have W11 := own_below W10 hb11
  have G11 := own_below G10 hb11
  have lo_U0 : ∀ k, Value.ownBlock (.slice (some ⟨w10.heap.size, 0, none⟩) n0 n0) = some k → w10.heap.size ≤ k := fun k hk => (U011.lt k hk).1
  have hi_U0 : ∀ k, Value.ownBlock (.slice (some ⟨w10.heap.size, 0, none⟩) n0 n0) = some k → k < w11.heap.size := fun k hk => (U011.lt k hk).2
  go_wp2_with fail; ((with_reducible refine (implCloseLoop_any _ n0 n0 xs0 _ (Reads.of_own U011) hn0).mono ?_); rintro e w12 ⟨AH, nH, cH, rfl, H12, hnH, hb12⟩)
  have z12 : w11.heap.size ≤ w12.heap.size := hb12.size
  have B12 : Below w.heap.size w w12 := B11.trans (hb12.mono B11.size)
  have W12 := own_below W11 hb12
  have G12 := own_below G11 hb12
  have U012 := own_below U011 hb12
  have lo_H : ∀ k, Value.ownBlock (.slice AH nH cH) = some k → w11.heap.size ≤ k := fun k hk => (H12.lt k hk).1
  have hi_H : ∀ k, Value.ownBlock (.slice AH nH cH) = some k → k < w12.heap.size := fun k hk => (H12.lt k hk).2
  obtain rfl : nH = nG := by have h1 := H12.1; have h2 := W12.1; omega
  go_wp2_with fail; ((with_reducible refine (eqInt64S_b _ _ nH cH cW _ _ (Reads.of_own H12) (Reads.of_own W12) (by omega)).mono ?_); rintro e w13 ⟨rfl, hb13⟩)
  have z13 : w12.heap.size ≤ w13.heap.size := hb13.size
  have B13 : Below w.heap.size w w13 := B12.trans (hb13.mono B12.size)
  have W13 := own_below W12 hb13
  have G13 := own_below G12 hb13
  have H13 := own_below H12 hb13
  go_wp2_with fail; ((with_reducible refine (heldInt64S_any _ nH cG 1 w13 (Reads.of_own G13) (by omega) (by omega) (by omega)).mono ?_); rintro e w' ⟨rfl, rfl⟩)
  go_wp2
  go_ret
  exact ⟨rfl, B13⟩

set_option maxRecDepth 100000 in
theorem lifted (os : Os) (started : os.Started) (H : Type) (enc : TypeId × Value → H) :
    ReturnsInHanded {} Try.checked os 7 .any (Rows.fnExactCloseLoopSpec.pre6 enc Try.prog Try.f7 Rows.fnExactCloseLoopRow.domain false) (Rows.fnExactCloseLoopSpec.post enc Try.prog Try.f7 false true false false) := by
  refine returnsInHanded_of_change (C := Try.checked) own_ started (by kernel_rfl) Try.func7
    (ChangeSpec.witness6 (enc := enc) (C := Try.checked) false ⟨#[], #[.slice none 0 0], []⟩ 12 (by kernel_rfl) (by kernel_rfl) (by kernel_rfl) (by kernel_rfl)) ?_
  intro W base args ds gs before hval0 hW hcnd _
  have hval : ∀ (j : Nat) t v, Try.f7.params[j]? = some t → args[j]? = some v → Value.okWide Try.prog W .any base t v := hval0
  have hW' := hW
  obtain ⟨p, q, hA0, hV, rfl, hfz, hnd⟩ := hW
  have hA : DataW.TrodAll enc Try.prog W 0 (fun _ => true) true Try.f7.params.toList args.toList ds p := hA0
  rw [Try.params7] at hA hval
  obtain ⟨v0, vs0, d0, ds0, p0, q0, hargs, rfl, rfl, h0, r0⟩ := trodAll_cons hA
  obtain ⟨rfl, rfl, rfl⟩ := trodAll_nil r0
  obtain rfl : args = #[v0] := by cases args; simp_all
  obtain ⟨rfl, rfl⟩ := trodVars_none hV
  obtain ⟨A0, n0, c0, xs0, rfl, lc0, gc0, hr0⟩ := op_ints Try.underlying28 Try.underlying2 (by kernel_rfl) (hval 0 28 v0 rfl rfl) h0
  clear hA0 hval0
  refine (walk A0 n0 c0 xs0 lc0 gc0 W hr0).mono fun e W' ⟨he, hb⟩ => ?_
  subst he
  exact ⟨_, rfl, law_post laidOut_ (by kernel_rfl) rfl rfl Try.underlying4 hW' rfl hb⟩

theorem over : Rows.fnExactCloseLoopRow.holds Try.pinned (OpenSpec.ofChange Rows.fnExactCloseLoopSpec) :=
  OpenClaim.holds_of_wide 7 Try.f7 rfl rfl rfl rfl rfl rfl rfl ⟨rfl, rfl, rfl, rfl, rfl⟩ rfl rfl rfl rfl rfl (by kernel_rfl) Try.func7 (by kernel_rfl)
    (of_decide_eq_true (by kernel_rfl)) (by unfold Func.isWrapper; first | (rw [if_pos (by decide +kernel)]; kernel_rfl) | (rw [if_neg (by decide +kernel)]; exact ⟨rfl, rfl⟩))
    (fun os started H enc _ => lifted os started H enc)

/-- The statement. -/
theorem proved : Rows.FnExactCloseLoopSaid := over
#print axioms proved
end Go.Proofs.Ytkojlpbjhpdakaa.lCloseLoop
