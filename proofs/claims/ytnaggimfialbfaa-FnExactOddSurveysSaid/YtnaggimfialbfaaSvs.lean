/- Contracts of a survey and of lists of surveys: validity, bounds, the indices of an airway, common bounds. -/
import Derived.Test.YtnaggimfialbfaaRSvy
import Derived.Test.YtnaggimfialbfaaName
import Derived.Test.YtnaggimfialbfaaLst
import Derived.Test.YtnaggimfialbfaaLock
namespace Go.Proofs.Ytnaggimfialbfaa
set_option linter.unusedVariables false
set_option linter.unusedSimpArgs false
open Go.RowKit
theorem quietA {P : Program} {f : FuncId} {args : Array Value} {w : World} {a n : Nat} {v : Value}
    (h : Calls P f args (w.drewN (a + n)) fun e w' => e = .returned v ∧ w.drewN (a + n) = w') :
    Calls P f args (w.drewN (a + n)) fun e w'' => e = .returned v ∧ ∃ m, w'' = w.drewN (a + m) :=
  h.mono fun _ _ ⟨he, hm⟩ => ⟨he, n, hm.symm⟩
def svyOk (x : Svy) : Bool := isName x.s && inB x.d 0 10000 && inB x.e 0 10000 && inB x.f 1 100000 && inB x.g 0 (x.f - 1)
theorem svyOk_t {x : Svy} (h : svyOk x = true) : 0 ≤ x.d ∧ x.d ≤ 10000 ∧ 0 ≤ x.e ∧ x.e ≤ 10000 ∧ 1 ≤ x.f ∧ x.f ≤ 100000 ∧ 0 ≤ x.g ∧ x.g ≤ x.f - 1 ∧ x.s.size ≤ 10 := by
  unfold svyOk at h
  simp only [Bool.and_eq_true] at h
  have h1 := inB_t h.1.1.1.2
  have h2 := inB_t h.1.1.2
  have h3 := inB_t h.1.2
  have h4 := inB_t h.2
  have h5 := isName_size h.1.1.1.1
  omega
def asR (n : Int) : Int := min (max n 1) 1000000
theorem asR_bnd (n : Int) : 1 ≤ asR n ∧ asR n ≤ 1000000 := by unfold asR; omega
def lowOf (x : Svy) : Int := asR (max (x.d - x.e) 0 * 10000000000 / ((x.f + x.g) * (x.f + x.g)))
def highOf (x : Svy) : Int := asR (((x.d + x.e) * 10000000000 + (x.f - x.g) * (x.f - x.g) - 1) / ((x.f - x.g) * (x.f - x.g)))
theorem sq_bnd {m M : Int} (h1 : 1 ≤ m) (h2 : m ≤ M) : 1 ≤ m * m ∧ m * m ≤ M * M := by
  have a : 1 * 1 ≤ m * m := Int.mul_le_mul h1 h1 (by omega) (by omega)
  have b : m * m ≤ M * M := Int.mul_le_mul h2 h2 (by omega) (by omega)
  omega
set_option maxHeartbeats 1600000 in
theorem l05One_any (x : Svy) (p : Addr) (w : World) (hs : x.s.size ≤ maxLen) (hc : Cells w p x.cells) :
    Calls Try.prog 82 #[.pointer (some p)] w fun e w' => e = .returned (.bool (svyOk x)) ∧ ∃ n, w' = w.drewN n := by
  obtain ⟨h0, h1, h2, h3, h4⟩ := Svy.open_ hc
  clear hc
  rcases Bool.eq_false_or_eq_true (isName x.s) with k0 | k0
  · rcases Bool.eq_false_or_eq_true (inB x.d 0 10000) with k1 | k1
    · rcases Bool.eq_false_or_eq_true (inB x.e 0 10000) with k2 | k2
      · rcases Bool.eq_false_or_eq_true (inB x.f 1 100000) with k3 | k3
        · rcases Bool.eq_false_or_eq_true (inB x.g 0 (x.f - 1)) with k4 | k4
          · have hw : IntKind.i64.wrap (x.f - 1) = x.f - 1 := by have := inB_t k3; exact IntWalk.i64_in _ (by omega)
            go_enter Try.func82, Try.ntmps82
            go_wp2
            go_quiet ((first | (go_at_call 95; exact quietB' (l01Name_any _ _ hs) k0) | (go_at_call 56; first | exact quietB' (l00In_any _ _ _ _) k1 | exact quietB' (l00In_any _ _ _ _) k2 | exact quietB' (l00In_any _ _ _ _) k3 | exact quietB' (l00In_any _ _ _ _) k4)))
            go_wp2
            go_ret
            exact ⟨ret_bool (by simp [svyOk, k0, k1, k2, k3, k4]), _, rfl⟩
          · have hw : IntKind.i64.wrap (x.f - 1) = x.f - 1 := by have := inB_t k3; exact IntWalk.i64_in _ (by omega)
            go_enter Try.func82, Try.ntmps82
            go_wp2
            go_quiet ((first | (go_at_call 95; exact quietB' (l01Name_any _ _ hs) k0) | (go_at_call 56; first | exact quietB' (l00In_any _ _ _ _) k1 | exact quietB' (l00In_any _ _ _ _) k2 | exact quietB' (l00In_any _ _ _ _) k3 | exact quietB' (l00In_any _ _ _ _) k4)))
            go_wp2
            go_ret
            exact ⟨ret_bool (by simp [svyOk, k0, k1, k2, k3, k4]), _, rfl⟩
        · go_enter Try.func82, Try.ntmps82
          go_wp2
          go_quiet ((first | (go_at_call 95; exact quietB' (l01Name_any _ _ hs) k0) | (go_at_call 56; first | exact quietB' (l00In_any _ _ _ _) k1 | exact quietB' (l00In_any _ _ _ _) k2 | exact quietB' (l00In_any _ _ _ _) k3)))
          go_wp2
          go_ret
          exact ⟨ret_bool (by simp [svyOk, k0, k1, k2, k3]), _, rfl⟩
      · go_enter Try.func82, Try.ntmps82
        go_wp2
        go_quiet ((first | (go_at_call 95; exact quietB' (l01Name_any _ _ hs) k0) | (go_at_call 56; first | exact quietB' (l00In_any _ _ _ _) k1 | exact quietB' (l00In_any _ _ _ _) k2)))
        go_wp2
        go_ret
        exact ⟨ret_bool (by simp [svyOk, k0, k1, k2]), _, rfl⟩
    · go_enter Try.func82, Try.ntmps82
      go_wp2
      go_quiet ((first | (go_at_call 95; exact quietB' (l01Name_any _ _ hs) k0) | (go_at_call 56; first | exact quietB' (l00In_any _ _ _ _) k1)))
      go_wp2
      go_ret
      exact ⟨ret_bool (by simp [svyOk, k0, k1]), _, rfl⟩
  · go_enter Try.func82, Try.ntmps82
    go_wp2
    go_quiet ((first | (go_at_call 95; exact quietB' (l01Name_any _ _ hs) k0) | (go_at_call 56; first | fail)))
    go_wp2
    go_ret
    exact ⟨ret_bool (by simp [svyOk, k0]), _, rfl⟩
set_option maxHeartbeats 800000 in
theorem ValidSurvey_any (x : Svy) (w : World) (hs : x.s.size ≤ maxLen) :
    Calls Try.prog 88 #[.agg #[.string x.s, .int .i64 x.d, .int .i64 x.e, .int .i64 x.f, .int .i64 x.g]] w fun e w' => e = .returned (.bool (svyOk x)) ∧ Below w.heap.size w w' := by
  rcases Bool.eq_false_or_eq_true (isName x.s) with k0 | k0
  · rcases Bool.eq_false_or_eq_true (inB x.d 0 10000) with k1 | k1
    · rcases Bool.eq_false_or_eq_true (inB x.e 0 10000) with k2 | k2
      · rcases Bool.eq_false_or_eq_true (inB x.f 1 100000) with k3 | k3
        · rcases Bool.eq_false_or_eq_true (inB x.g 0 (x.f - 1)) with k4 | k4
          · have hf : inB x.f 1 100000 = true → 1 ≤ x.f ∧ x.f ≤ 100000 := inB_t
            have HK := Lib.hid hf
            clear hf
            have hf := HK.out k3
            go_enter Try.func88, Try.ntmps88
            go_wp2_with (first | (go_at_call 77; refine (isName_any _ _ hs).mono ?_; rintro e w' ⟨rfl, rfl⟩) | (go_at_call 51; refine (within_any _ _ _ _).mono ?_; rintro e w' ⟨rfl, rfl⟩))
            go_ret
            exact ⟨ret_bool (by simp [svyOk, k0, k1, k2, k3, k4]), by (repeat (first | exact Below.refl _ _ | assumption | (refine Below.alloc ?_ (by first | exact Nat.le_refl _ | (simp; done) | (simp; omega)) _) | (refine below_drewN ?_ _) | (refine Below.trans ?_ (Below.mono (by assumption) (by first | exact Nat.le_refl _ | (simp; done) | (simp; omega) | omega)))))⟩
          · have hf : inB x.f 1 100000 = true → 1 ≤ x.f ∧ x.f ≤ 100000 := inB_t
            have HK := Lib.hid hf
            clear hf
            have hf := HK.out k3
            go_enter Try.func88, Try.ntmps88
            go_wp2_with (first | (go_at_call 77; refine (isName_any _ _ hs).mono ?_; rintro e w' ⟨rfl, rfl⟩) | (go_at_call 51; refine (within_any _ _ _ _).mono ?_; rintro e w' ⟨rfl, rfl⟩))
            go_ret
            exact ⟨ret_bool (by simp [svyOk, k0, k1, k2, k3, k4]), by (repeat (first | exact Below.refl _ _ | assumption | (refine Below.alloc ?_ (by first | exact Nat.le_refl _ | (simp; done) | (simp; omega)) _) | (refine below_drewN ?_ _) | (refine Below.trans ?_ (Below.mono (by assumption) (by first | exact Nat.le_refl _ | (simp; done) | (simp; omega) | omega)))))⟩
        · have hf : inB x.f 1 100000 = true → 1 ≤ x.f ∧ x.f ≤ 100000 := inB_t
          have HK := Lib.hid hf
          clear hf
          go_enter Try.func88, Try.ntmps88
          go_wp2_with (first | (go_at_call 77; refine (isName_any _ _ hs).mono ?_; rintro e w' ⟨rfl, rfl⟩) | (go_at_call 51; refine (within_any _ _ _ _).mono ?_; rintro e w' ⟨rfl, rfl⟩))
          go_ret
          exact ⟨ret_bool (by simp [svyOk, k0, k1, k2, k3]), by (repeat (first | exact Below.refl _ _ | assumption | (refine Below.alloc ?_ (by first | exact Nat.le_refl _ | (simp; done) | (simp; omega)) _) | (refine below_drewN ?_ _) | (refine Below.trans ?_ (Below.mono (by assumption) (by first | exact Nat.le_refl _ | (simp; done) | (simp; omega) | omega)))))⟩
      · go_enter Try.func88, Try.ntmps88
        go_wp2_with (first | (go_at_call 77; refine (isName_any _ _ hs).mono ?_; rintro e w' ⟨rfl, rfl⟩) | (go_at_call 51; refine (within_any _ _ _ _).mono ?_; rintro e w' ⟨rfl, rfl⟩))
        go_ret
        exact ⟨ret_bool (by simp [svyOk, k0, k1, k2]), by (repeat (first | exact Below.refl _ _ | assumption | (refine Below.alloc ?_ (by first | exact Nat.le_refl _ | (simp; done) | (simp; omega)) _) | (refine below_drewN ?_ _) | (refine Below.trans ?_ (Below.mono (by assumption) (by first | exact Nat.le_refl _ | (simp; done) | (simp; omega) | omega)))))⟩
    · go_enter Try.func88, Try.ntmps88
      go_wp2_with (first | (go_at_call 77; refine (isName_any _ _ hs).mono ?_; rintro e w' ⟨rfl, rfl⟩) | (go_at_call 51; refine (within_any _ _ _ _).mono ?_; rintro e w' ⟨rfl, rfl⟩))
      go_ret
      exact ⟨ret_bool (by simp [svyOk, k0, k1]), by (repeat (first | exact Below.refl _ _ | assumption | (refine Below.alloc ?_ (by first | exact Nat.le_refl _ | (simp; done) | (simp; omega)) _) | (refine below_drewN ?_ _) | (refine Below.trans ?_ (Below.mono (by assumption) (by first | exact Nat.le_refl _ | (simp; done) | (simp; omega) | omega)))))⟩
  · go_enter Try.func88, Try.ntmps88
    go_wp2_with (first | (go_at_call 77; refine (isName_any _ _ hs).mono ?_; rintro e w' ⟨rfl, rfl⟩) | (go_at_call 51; refine (within_any _ _ _ _).mono ?_; rintro e w' ⟨rfl, rfl⟩))
    go_ret
    exact ⟨ret_bool (by simp [svyOk, k0]), by (repeat (first | exact Below.refl _ _ | assumption | (refine Below.alloc ?_ (by first | exact Nat.le_refl _ | (simp; done) | (simp; omega)) _) | (refine below_drewN ?_ _) | (refine Below.trans ?_ (Below.mono (by assumption) (by first | exact Nat.le_refl _ | (simp; done) | (simp; omega) | omega)))))⟩
set_option maxHeartbeats 1600000 in
theorem l05Bounds_any (x : Svy) (p : Addr) (w : World) (hok : svyOk x = true) (hc : Cells w p x.cells) :
    Calls Try.prog 83 #[.pointer (some p)] w fun e w' => e = .returned (.tuple #[.int .i64 (lowOf x), .int .i64 (highOf x)]) ∧ ∃ n, w' = w.drewN n := by
  obtain ⟨h0, h1, h2, h3, h4⟩ := Svy.open_ hc
  obtain ⟨b1, b2, b3, b4, b5, b6, b7, b8, b9⟩ := svyOk_t hok
  obtain ⟨sl, HS⟩ : ∃ sl : Int, Hid (sl = x.f - x.g) := ⟨_, rfl⟩
  obtain ⟨wd, HW⟩ : ∃ wd : Int, Hid (wd = x.f + x.g) := ⟨_, rfl⟩
  have s1 : 1 ≤ sl ∧ sl ≤ 100000 := by have := HS.out; omega
  have s2 : 1 ≤ wd ∧ wd ≤ 200000 := by have := HW.out; omega
  obtain ⟨q1, q2⟩ := sq_bnd s1.1 s1.2
  obtain ⟨q3, q4⟩ := sq_bnd s2.1 s2.2
  obtain ⟨s3, s4⟩ := s1
  obtain ⟨s5, s6⟩ := s2
  have v0 : IntKind.i64.wrap (x.d - x.e) = x.d - x.e := IntWalk.i64_in _ (by omega)
  have v1 : IntKind.i64.wrap (x.f - x.g) = sl := by rw [HS.out]; exact IntWalk.i64_in _ (by omega)
  have v2 : IntKind.i64.wrap (x.f + x.g) = wd := by rw [HW.out]; exact IntWalk.i64_in _ (by omega)
  have v3 : IntKind.i64.wrap (x.d + x.e) = x.d + x.e := IntWalk.i64_in _ (by omega)
  have v4 : IntKind.i64.wrap ((x.d + x.e) * 10000000000) = (x.d + x.e) * 10000000000 := IntWalk.i64_in _ (by omega)
  have v5 : IntKind.i64.wrap (sl * sl) = sl * sl := IntWalk.i64_in _ (by omega)
  have v6 : IntKind.i64.wrap ((x.d + x.e) * 10000000000 + sl * sl) = (x.d + x.e) * 10000000000 + sl * sl := IntWalk.i64_in _ (by omega)
  have v7 : IntKind.i64.wrap ((x.d + x.e) * 10000000000 + sl * sl - 1) = (x.d + x.e) * 10000000000 + sl * sl - 1 := IntWalk.i64_in _ (by omega)
  have v8 : sl * sl ≠ 0 := by omega
  clear hc hok
  go_enter Try.func83, Try.ntmps83
  go_wp2
  go_quiet ((go_at_call 84; exact quietS (l00Max_any _ _ _)))
  go_wp2
  go_quiet (fail)
  go_wp2
  go_quiet (fail)
  go_wp2
  go_quiet (fail)
  go_wp2_with (first | (go_at_call 84; refine (l00Max_any _ _ _).mono ?_; rintro e w' ⟨rfl, rfl⟩) | (go_at_call 85; refine (l00Min_any _ _ _).mono ?_; rintro e w' ⟨rfl, rfl⟩))
  go_ret2
  refine ⟨ret_int2 ?_ ?_, _, rfl⟩
  · unfold lowOf asR
    rw [← HW.out, show max 0 (x.d - x.e) = max (x.d - x.e) 0 by omega]
    generalize max (x.d - x.e) 0 * 10000000000 / (wd * wd) = A
    omega
  · unfold highOf asR
    rw [← HS.out]
    generalize ((x.d + x.e) * 10000000000 + sl * sl - 1) / (sl * sl) = A
    omega
theorem asResistance_any (n : Int) (w : World) :
    Calls Try.prog 89 #[.int .i64 n] w fun e w' => e = .returned (.int .i64 (asR n)) ∧ w = w' := by
  go_enter Try.func89, Try.ntmps89
  go_wp2
  all_goals
    go_ret
    exact ⟨ret_int (by unfold asR; omega), rfl⟩
theorem divUp_any (a b : Int) (w : World) (h1 : 0 ≤ a) (h2 : a ≤ 4611686018427387000) (h3 : 1 ≤ b) (h4 : b ≤ 4611686018427387000) :
    Calls Try.prog 90 #[.int .i64 a, .int .i64 b] w fun e w' => e = .returned (.int .i64 ((a + b - 1) / b)) ∧ w = w' := by
  have hq := ediv_bounds (a := a + b - 1) (b := b) (m := 9223372036854775807) (by omega) (by omega) (by omega)
  go_enter Try.func90, Try.ntmps90
  go_wp2
  go_ret
  exact ⟨rfl, rfl⟩
set_option maxHeartbeats 1600000 in
theorem bounds_any (x : Svy) (w : World) (hok : svyOk x = true) :
    Calls Try.prog 66 #[.agg #[.string x.s, .int .i64 x.d, .int .i64 x.e, .int .i64 x.f, .int .i64 x.g]] w fun e w' => e = .returned (.tuple #[.int .i64 (lowOf x), .int .i64 (highOf x)]) ∧ Below w.heap.size w w' := by
  obtain ⟨b1, b2, b3, b4, b5, b6, b7, b8, b9⟩ := svyOk_t hok
  obtain ⟨sl, HS⟩ : ∃ sl : Int, Hid (sl = x.f - x.g) := ⟨_, rfl⟩
  obtain ⟨wd, HW⟩ : ∃ wd : Int, Hid (wd = x.f + x.g) := ⟨_, rfl⟩
  have s1 : 1 ≤ sl ∧ sl ≤ 100000 := by have := HS.out; omega
  have s2 : 1 ≤ wd ∧ wd ≤ 200000 := by have := HW.out; omega
  obtain ⟨q1, q2⟩ := sq_bnd s1.1 s1.2
  obtain ⟨q3, q4⟩ := sq_bnd s2.1 s2.2
  obtain ⟨s3, s4⟩ := s1
  obtain ⟨s5, s6⟩ := s2
  have v1 : IntKind.i64.wrap (x.f - x.g) = sl := by rw [HS.out]; exact IntWalk.i64_in _ (by omega)
  have v2 : IntKind.i64.wrap (x.f + x.g) = wd := by rw [HW.out]; exact IntWalk.i64_in _ (by omega)
  have v3 : IntKind.i64.wrap (x.d + x.e) = x.d + x.e := IntWalk.i64_in _ (by omega)
  have v4 : IntKind.i64.wrap ((x.d + x.e) * 10000000000) = (x.d + x.e) * 10000000000 := IntWalk.i64_in _ (by omega)
  have v5 : IntKind.i64.wrap (sl * sl) = sl * sl := IntWalk.i64_in _ (by omega)
  have v8 : sl * sl ≠ 0 := by omega
  have v9 : wd * wd ≠ 0 := by omega
  clear hok
  go_enter Try.func66, Try.ntmps66
  go_wp2
  go_quiet (fail)
  go_wp2
  all_goals
    go_quiet ((first | (go_at_call 89; first | exact quietS (asResistance_any _ _) | exact quietA (asResistance_any _ _)) | (go_at_call 90; first | exact quietS (divUp_any _ _ _ (by omega) (by omega) (by omega) (by omega)) | exact quietA (divUp_any _ _ _ (by omega) (by omega) (by omega) (by omega)))))
    go_wp2
    go_ret2
    refine ⟨ret_int2 ?_ ?_, by (repeat (first | exact Below.refl _ _ | assumption | (refine Below.alloc ?_ (by first | exact Nat.le_refl _ | (simp; done) | (simp; omega)) _) | (refine below_drewN ?_ _) | (refine Below.trans ?_ (Below.mono (by assumption) (by first | exact Nat.le_refl _ | (simp; done) | (simp; omega) | omega)))))⟩
    · unfold lowOf
      rw [← HW.out]
      first | (rw [show max (x.d - x.e) 0 = 0 by omega, Int.zero_mul, Int.zero_ediv]) | (rw [show max (x.d - x.e) 0 = x.d - x.e by omega])
    · unfold highOf
      rw [← HS.out]
end Go.Proofs.Ytnaggimfialbfaa
