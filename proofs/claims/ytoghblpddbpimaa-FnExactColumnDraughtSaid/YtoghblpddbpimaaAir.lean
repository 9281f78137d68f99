/- Contracts of the functions on the density of air and the draught of a column. -/
import Derived.Test.YtoghblpddbpimaaNum
namespace Go.Proofs.Ytoghblpddbpimaa
set_option linter.unusedVariables false
set_option linter.unusedSimpArgs false
open Go.RowKit
def warmT (t : Int) : Int := dr 3531183 (2731 + t)
def warmR (t : Int) : Int × Int := if inB t (-300) 600 = true then (warmT t, 0) else (0, 2)
theorem l09Temp_any (t : Int) (w : World) :
    Calls Try.prog 25 #[.int .i64 t] w fun e w' => e = .returned (.bool (inB t (-300) 600)) ∧ w = w' := by
  go_enter Try.func25, Try.ntmps25
  go_wp2_with (go_at_call 43; refine (l00In_any _ _ _ _).mono ?_; rintro e w' ⟨rfl, rfl⟩)
  go_ret
  exact ⟨rfl, rfl⟩
theorem columnOk_any (t : Int) (w : World) :
    Calls Try.prog 27 #[.int .i64 t] w fun e w' => e = .returned (.bool (inB t (-300) 600)) ∧ w = w' := by
  go_enter Try.func27, Try.ntmps27
  go_wp2_with (go_at_call 32; refine (within_any _ _ _ _).mono ?_; rintro e w' ⟨rfl, rfl⟩)
  go_ret
  exact ⟨rfl, rfl⟩
theorem l09Density_any (t : Int) (w : World) (h : inB t (-300) 600 = true) :
    Calls Try.prog 26 #[.int .i64 t] w fun e w' => e = .returned (.int .i64 (warmT t)) ∧ w = w' := by
  obtain ⟨h1, h2⟩ := inB_t h
  clear h
  go_enter Try.func26, Try.ntmps26
  go_wp2_with (go_at_call 44; refine (l01Div_any _ _ _ (by omega) (by omega) (by omega) (by omega)).mono ?_; rintro e w' ⟨rfl, rfl⟩)
  go_ret
  exact ⟨rfl, rfl⟩
theorem warmDensity_any (t : Int) (w : World) (h : inB t (-300) 600 = true) :
    Calls Try.prog 28 #[.int .i64 t] w fun e w' => e = .returned (.int .i64 (warmT t)) ∧ ∃ n, w' = w.drewN n := by
  obtain ⟨h1, h2⟩ := inB_t h
  clear h
  go_enter Try.func28, Try.ntmps28
  go_wp2_with (go_at_call 45; refine (divRound_any _ _ _ (by omega) (by omega) (by omega) (by omega)).mono ?_; rintro e w' ⟨rfl, n, rfl⟩)
  go_ret
  exact ⟨rfl, _, rfl⟩
theorem specWarmDensity_any (t : Int) (w : World) :
    Calls Try.prog 9 #[.int .i64 t] w fun e w' => e = .returned (.tuple #[.int .i64 (warmR t).1, .int .i64 (warmR t).2]) ∧ w = w' := by
  rcases Bool.eq_false_or_eq_true (inB t (-300) 600) with h | h
  · go_enter Try.func9, Try.ntmps9
    go_wp2_with (first | (go_at_call 25; refine (l09Temp_any _ _).mono ?_; rintro e w' ⟨rfl, rfl⟩) | (go_at_call 26; refine (l09Density_any _ _ h).mono ?_; rintro e w' ⟨rfl, rfl⟩))
    go_ret2
    exact ⟨by simp [warmR, h], rfl⟩
  · go_enter Try.func9, Try.ntmps9
    go_wp2_with (go_at_call 25; refine (l09Temp_any _ _).mono ?_; rintro e w' ⟨rfl, rfl⟩)
    go_ret2
    exact ⟨by simp [warmR, h], rfl⟩
theorem implWarmDensity_any (t : Int) (w : World) :
    Calls Try.prog 10 #[.int .i64 t] w fun e w' => e = .returned (.tuple #[.int .i64 (warmR t).1, .int .i64 (warmR t).2]) ∧ ∃ n, w' = w.drewN n := by
  rcases Bool.eq_false_or_eq_true (inB t (-300) 600) with h | h
  · go_enter Try.func10, Try.ntmps10
    go_wp2_with (first | (go_at_call 27; refine (columnOk_any _ _).mono ?_; rintro e w' ⟨rfl, rfl⟩) | (go_at_call 28; refine (warmDensity_any _ _ h).mono ?_; rintro e w' ⟨rfl, n, rfl⟩))
    go_ret2
    exact ⟨by simp [warmR, h], _, rfl⟩
  · go_enter Try.func10, Try.ntmps10
    go_wp2_with (go_at_call 27; refine (columnOk_any _ _).mono ?_; rintro e w' ⟨rfl, rfl⟩)
    go_ret2
    exact ⟨by simp [warmR, h], 0, rfl⟩
theorem warmT_bnd (t : Int) (h : inB t (-300) 600 = true) : 0 ≤ warmT t ∧ warmT t ≤ 3531183 := by
  have := inB_t h
  exact ⟨dr_nonneg (by omega) (by omega), (dr_bnd (m := 3531183) (by omega) (by omega) (by omega)).2⟩
def columnT (r t : Int) : Int := dr (981 * (1200 - warmT t) * r) 100000
def columnR (r t : Int) : Int × Int := if inB r (-6000) 6000 = true ∧ inB t (-300) 600 = true then (columnT r t, 0) else (0, 2)
theorem column_bnd (r t : Int) (hr : inB r (-6000) 6000 = true) (ht : inB t (-300) 600 = true) :
    -100000000000000 ≤ 981 * (1200 - warmT t) * r ∧ 981 * (1200 - warmT t) * r ≤ 100000000000000 := by
  have := warmT_bnd t ht
  have := inB_t hr
  exact mul_bnd (X := 3464090523) (Y := 6000) (by omega) (by omega) (by omega) (by omega) (by omega)
theorem l09Rise_any (t : Int) (w : World) :
    Calls Try.prog 34 #[.int .i64 t] w fun e w' => e = .returned (.bool (inB t (-6000) 6000)) ∧ w = w' := by
  go_enter Try.func34, Try.ntmps34
  go_wp2_with (go_at_call 43; refine (l00In_any _ _ _ _).mono ?_; rintro e w' ⟨rfl, rfl⟩)
  go_ret
  exact ⟨rfl, rfl⟩
theorem riseOk_any (t : Int) (w : World) :
    Calls Try.prog 36 #[.int .i64 t] w fun e w' => e = .returned (.bool (inB t (-6000) 6000)) ∧ w = w' := by
  go_enter Try.func36, Try.ntmps36
  go_wp2_with (go_at_call 32; refine (within_any _ _ _ _).mono ?_; rintro e w' ⟨rfl, rfl⟩)
  go_ret
  exact ⟨rfl, rfl⟩
theorem l09Column_any (r t : Int) (w : World) (hr : inB r (-6000) 6000 = true) (ht : inB t (-300) 600 = true) :
    Calls Try.prog 35 #[.int .i64 r, .int .i64 t] w fun e w' => e = .returned (.int .i64 (columnT r t)) ∧ w = w' := by
  obtain ⟨h1, h2⟩ := column_bnd r t hr ht
  obtain ⟨h3, h4⟩ := warmT_bnd t ht
  go_enter Try.func35, Try.ntmps35
  go_wp2_with (first | (go_at_call 26; refine (l09Density_any _ _ ht).mono ?_; rintro e w' ⟨rfl, rfl⟩) | (go_at_call 44; refine (l01Div_any _ _ _ (by omega) (by omega) (by omega) (by omega)).mono ?_; rintro e w' ⟨rfl, rfl⟩))
  go_ret
  exact ⟨rfl, rfl⟩
theorem columnDraught_any (r t : Int) (w : World) (hr : inB r (-6000) 6000 = true) (ht : inB t (-300) 600 = true) :
    Calls Try.prog 37 #[.int .i64 r, .int .i64 t] w fun e w' => e = .returned (.int .i64 (columnT r t)) ∧ ∃ n, w' = w.drewN n := by
  obtain ⟨h1, h2⟩ := column_bnd r t hr ht
  obtain ⟨h3, h4⟩ := warmT_bnd t ht
  go_enter Try.func37, Try.ntmps37
  go_wp2_with (first | (go_at_call 28; refine (warmDensity_any _ _ ht).mono ?_; rintro e w' ⟨rfl, n1, rfl⟩) | (go_at_call 45; refine (divRound_any _ _ _ (by omega) (by omega) (by omega) (by omega)).mono ?_; rintro e w' ⟨rfl, n2, rfl⟩))
  go_ret
  exact ⟨rfl, _, rfl⟩
theorem specColumnDraught_any (r t : Int) (w : World) :
    Calls Try.prog 19 #[.int .i64 r, .int .i64 t] w fun e w' => e = .returned (.tuple #[.int .i64 (columnR r t).1, .int .i64 (columnR r t).2]) ∧ w = w' := by
  rcases Bool.eq_false_or_eq_true (inB r (-6000) 6000) with h | h <;> rcases Bool.eq_false_or_eq_true (inB t (-300) 600) with k | k
  all_goals
    go_enter Try.func19, Try.ntmps19
    go_wp2_with (first | (go_at_call 34; refine (l09Rise_any _ _).mono ?_; rintro e w' ⟨rfl, rfl⟩) | (go_at_call 25; refine (l09Temp_any _ _).mono ?_; rintro e w' ⟨rfl, rfl⟩) | (go_at_call 35; refine (l09Column_any _ _ _ h k).mono ?_; rintro e w' ⟨rfl, rfl⟩))
    go_ret2
    exact ⟨by simp [columnR, h, k], rfl⟩
theorem implColumnDraught_any (r t : Int) (w : World) :
    Calls Try.prog 20 #[.int .i64 r, .int .i64 t] w fun e w' => e = .returned (.tuple #[.int .i64 (columnR r t).1, .int .i64 (columnR r t).2]) ∧ ∃ n, w' = w.drewN n := by
  rcases Bool.eq_false_or_eq_true (inB r (-6000) 6000) with h | h <;> rcases Bool.eq_false_or_eq_true (inB t (-300) 600) with k | k
  all_goals
    go_enter Try.func20, Try.ntmps20
    go_wp2_with (first | (go_at_call 36; refine (riseOk_any _ _).mono ?_; rintro e w' ⟨rfl, rfl⟩) | (go_at_call 27; refine (columnOk_any _ _).mono ?_; rintro e w' ⟨rfl, rfl⟩) | (go_at_call 37; refine (columnDraught_any _ _ _ h k).mono ?_; rintro e w' ⟨rfl, n, rfl⟩))
    go_ret2
    exact ⟨by simp [columnR, h, k], by first | exact ⟨_, rfl⟩ | exact ⟨0, rfl⟩⟩
end Go.Proofs.Ytoghblpddbpimaa
