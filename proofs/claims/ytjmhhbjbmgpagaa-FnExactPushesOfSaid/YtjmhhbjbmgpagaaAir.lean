/- Contracts of the functions on the density of air and the draught of a column. -/
import Derived.Test.YtjmhhbjbmgpagaaNum
namespace Go.Proofs.Ytjmhhbjbmgpagaa
set_option linter.unusedVariables false
set_option linter.unusedSimpArgs false
open Go.RowKit
def warmT (t : Int) : Int := dr 3531183 (2731 + t)
def warmR (t : Int) : Int × Int := if inB t (-300) 600 = true then (warmT t, 0) else (0, 2)
theorem l09Temp_any (t : Int) (w : World) :
    Calls Try.prog 142 #[.int .i64 t] w fun e w' => e = .returned (.bool (inB t (-300) 600)) ∧ w = w' := by
  go_enter Try.func142, Try.ntmps142
  go_wp2_with (go_at_call 77; refine (l00In_any _ _ _ _).mono ?_; rintro e w' ⟨rfl, rfl⟩)
  go_ret
  exact ⟨rfl, rfl⟩
theorem l09Density_any (t : Int) (w : World) (h : inB t (-300) 600 = true) :
    Calls Try.prog 143 #[.int .i64 t] w fun e w' => e = .returned (.int .i64 (warmT t)) ∧ w = w' := by
  obtain ⟨h1, h2⟩ := inB_t h
  clear h
  go_enter Try.func143, Try.ntmps143
  go_wp2_with (go_at_call 127; refine (l01Div_any _ _ _ (by omega) (by omega) (by omega) (by omega)).mono ?_; rintro e w' ⟨rfl, rfl⟩)
  go_ret
  exact ⟨rfl, rfl⟩
theorem warmDensity_any (t : Int) (w : World) (h : inB t (-300) 600 = true) :
    Calls Try.prog 144 #[.int .i64 t] w fun e w' => e = .returned (.int .i64 (warmT t)) ∧ ∃ n, w' = w.drewN n := by
  obtain ⟨h1, h2⟩ := inB_t h
  clear h
  go_enter Try.func144, Try.ntmps144
  go_wp2_with (go_at_call 130; refine (divRound_any _ _ _ (by omega) (by omega) (by omega) (by omega)).mono ?_; rintro e w' ⟨rfl, n, rfl⟩)
  go_ret
  exact ⟨rfl, _, rfl⟩
theorem warmT_bnd (t : Int) (h : inB t (-300) 600 = true) : 0 ≤ warmT t ∧ warmT t ≤ 3531183 := by
  have := inB_t h
  exact ⟨dr_nonneg (by omega) (by omega), (dr_bnd (m := 3531183) (by omega) (by omega) (by omega)).2⟩
def columnT (r t : Int) : Int := dr (981 * (1200 - warmT t) * r) 100000
def columnR (r t : Int) : Int × Int := if inB r (-6000) 6000 = true ∧ inB t (-300) 600 = true then (columnT r t, 0) else (0, 2)
theorem column_bnd (r t : Int) (hr : inB r (-6000) 6000 = true) (ht : inB t (-300) 600 = true) :
    -100000000000000 ≤ 981 * (1200 - warmT t) * r ∧ 981 * (1200 - warmT t) * r ≤ 100000000000000 := by
  have := warmT_bnd t ht
  have := inB_t hr
  exact mul_bnd (X := 3464090523) (Y := 6000) (by omega) (by omega) (by omega) (by omega) (by omega)
theorem l09Column_any (r t : Int) (w : World) (hr : inB r (-6000) 6000 = true) (ht : inB t (-300) 600 = true) :
    Calls Try.prog 94 #[.int .i64 r, .int .i64 t] w fun e w' => e = .returned (.int .i64 (columnT r t)) ∧ w = w' := by
  obtain ⟨h1, h2⟩ := column_bnd r t hr ht
  obtain ⟨h3, h4⟩ := warmT_bnd t ht
  go_enter Try.func94, Try.ntmps94
  go_wp2_with (first | (go_at_call 143; refine (l09Density_any _ _ ht).mono ?_; rintro e w' ⟨rfl, rfl⟩) | (go_at_call 127; refine (l01Div_any _ _ _ (by omega) (by omega) (by omega) (by omega)).mono ?_; rintro e w' ⟨rfl, rfl⟩))
  go_ret
  exact ⟨rfl, rfl⟩
theorem columnDraught_any (r t : Int) (w : World) (hr : inB r (-6000) 6000 = true) (ht : inB t (-300) 600 = true) :
    Calls Try.prog 100 #[.int .i64 r, .int .i64 t] w fun e w' => e = .returned (.int .i64 (columnT r t)) ∧ ∃ n, w' = w.drewN n := by
  obtain ⟨h1, h2⟩ := column_bnd r t hr ht
  obtain ⟨h3, h4⟩ := warmT_bnd t ht
  go_enter Try.func100, Try.ntmps100
  go_wp2_with (first | (go_at_call 144; refine (warmDensity_any _ _ ht).mono ?_; rintro e w' ⟨rfl, n1, rfl⟩) | (go_at_call 130; refine (divRound_any _ _ _ (by omega) (by omega) (by omega) (by omega)).mono ?_; rintro e w' ⟨rfl, n2, rfl⟩))
  go_ret
  exact ⟨rfl, _, rfl⟩
end Go.Proofs.Ytjmhhbjbmgpagaa
