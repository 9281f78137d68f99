/- Contracts of the functions on the density of air and the draught of a column. -/
import Derived.Test.YtgbmpadlfcbcaaaNum
namespace Go.Proofs.Ytgbmpadlfcbcaaa
set_option linter.unusedVariables false
set_option linter.unusedSimpArgs false
open Go.RowKit
def warmT (t : Int) : Int := dr 3531183 (2731 + t)
def warmR (t : Int) : Int × Int := if inB t (-300) 600 = true then (warmT t, 0) else (0, 2)
theorem l09Temp_any (t : Int) (w : World) :
    Calls Try.prog 114 #[.int .i64 t] w fun e w' => e = .returned (.bool (inB t (-300) 600)) ∧ w = w' := by
  go_enter Try.func114, Try.ntmps114
  go_wp2_with (go_at_call 84; refine (l00In_any _ _ _ _).mono ?_; rintro e w' ⟨rfl, rfl⟩)
  go_ret
  exact ⟨rfl, rfl⟩
theorem l09Density_any (t : Int) (w : World) (h : inB t (-300) 600 = true) :
    Calls Try.prog 129 #[.int .i64 t] w fun e w' => e = .returned (.int .i64 (warmT t)) ∧ w = w' := by
  obtain ⟨h1, h2⟩ := inB_t h
  clear h
  go_enter Try.func129, Try.ntmps129
  go_wp2_with (go_at_call 77; refine (l01Div_any _ _ _ (by omega) (by omega) (by omega) (by omega)).mono ?_; rintro e w' ⟨rfl, rfl⟩)
  go_ret
  exact ⟨rfl, rfl⟩
theorem warmDensity_any (t : Int) (w : World) (h : inB t (-300) 600 = true) :
    Calls Try.prog 130 #[.int .i64 t] w fun e w' => e = .returned (.int .i64 (warmT t)) ∧ ∃ n, w' = w.drewN n := by
  obtain ⟨h1, h2⟩ := inB_t h
  clear h
  go_enter Try.func130, Try.ntmps130
  go_wp2_with (go_at_call 112; refine (divRound_any _ _ _ (by omega) (by omega) (by omega) (by omega)).mono ?_; rintro e w' ⟨rfl, n, rfl⟩)
  go_ret
  exact ⟨rfl, _, rfl⟩
theorem warmT_bnd (t : Int) (h : inB t (-300) 600 = true) : 0 ≤ warmT t ∧ warmT t ≤ 3531183 := by
  have := inB_t h
  exact ⟨dr_nonneg (by omega) (by omega), (dr_bnd (m := 3531183) (by omega) (by omega) (by omega)).2⟩
def columnT (r t : Int) : Int := dr (981 * (1200 - warmT t) * r) 100000
def columnR (r t : Int) : Int × Int := if inB r (-6000) 6000 = true ∧ inB t (-300) 600 = true then (columnT r t, 0) else (0, 2)
theorem column_bnd (r t : Int) (hr : inB r (-6000) 6000 = true) (ht : inB t (-300) 600 = true) :
    -100000000000000 ≤ 981 * (1200 - warmT t) * r ∧ 981 * (1200 - warmT t) * r ≤ 100000000000000 := by
  have := warmT_bnd t ht
  have := inB_t hr
  exact mul_bnd (X := 3464090523) (Y := 6000) (by omega) (by omega) (by omega) (by omega) (by omega)
theorem l09Column_any (r t : Int) (w : World) (hr : inB r (-6000) 6000 = true) (ht : inB t (-300) 600 = true) :
    Calls Try.prog 120 #[.int .i64 r, .int .i64 t] w fun e w' => e = .returned (.int .i64 (columnT r t)) ∧ w = w' := by
  obtain ⟨h1, h2⟩ := column_bnd r t hr ht
  obtain ⟨h3, h4⟩ := warmT_bnd t ht
  go_enter Try.func120, Try.ntmps120
  go_wp2_with (first | (go_at_call 129; refine (l09Density_any _ _ ht).mono ?_; rintro e w' ⟨rfl, rfl⟩) | (go_at_call 77; refine (l01Div_any _ _ _ (by omega) (by omega) (by omega) (by omega)).mono ?_; rintro e w' ⟨rfl, rfl⟩))
  go_ret
  exact ⟨rfl, rfl⟩
theorem columnDraught_any (r t : Int) (w : World) (hr : inB r (-6000) 6000 = true) (ht : inB t (-300) 600 = true) :
    Calls Try.prog 121 #[.int .i64 r, .int .i64 t] w fun e w' => e = .returned (.int .i64 (columnT r t)) ∧ ∃ n, w' = w.drewN n := by
  obtain ⟨h1, h2⟩ := column_bnd r t hr ht
  obtain ⟨h3, h4⟩ := warmT_bnd t ht
  go_enter Try.func121, Try.ntmps121
  go_wp2_with (first | (go_at_call 130; refine (warmDensity_any _ _ ht).mono ?_; rintro e w' ⟨rfl, n1, rfl⟩) | (go_at_call 112; refine (divRound_any _ _ _ (by omega) (by omega) (by omega) (by omega)).mono ?_; rintro e w' ⟨rfl, n2, rfl⟩))
  go_ret
  exact ⟨rfl, _, rfl⟩
end Go.Proofs.Ytgbmpadlfcbcaaa
