/- Contracts of resistances and conductances. -/
import Derived.Test.YtnfallanjndbcaaRootC
namespace Go.Proofs.Ytnfallanjndbcaa
set_option linter.unusedVariables false
set_option linter.unusedSimpArgs false
open Go.RowKit
def isRes (r : Int) : Bool := inB r 1 1000000
theorem isRes_t {r : Int} (h : isRes r = true) : 1 ≤ r ∧ r ≤ 1000000 := inB_t h
def cond (r : Int) : Int := rootI (10000000000000000 / r)
def condR (r : Int) : Int × Int := if isRes r = true then (cond r, 0) else (0, 2)
def orifR (r : Int) : Int × Int := if isRes r = true then (rootI (14161000000 / r), 0) else (0, 2)
theorem quo_bnd {a r : Int} (ha : 0 ≤ a) (h : isRes r = true) : 0 ≤ a / r ∧ a / r ≤ a := ediv_bounds ha (by have := isRes_t h; omega) (Int.le_refl _)
theorem cond_bnd {r : Int} (h : isRes r = true) : 100000 ≤ cond r ∧ cond r ≤ 100000000 := by
  have h1 := isRes_t h
  have h2 := quo_bnd (a := 10000000000000000) (by omega) h
  refine ⟨?_, (rootI_bnd (n := 10000000000000000 / r) (M := 100000000) (m := 0) (by omega) (by omega)).2⟩
  refine (rootI_le (by omega)).2 (.inr ?_)
  have h3 : 10000000000 ≤ 10000000000000000 / r := by
    apply Int.le_ediv_of_mul_le (by omega)
    omega
  omega
theorem l03Res_any (r : Int) (w : World) :
    Calls Try.prog 28 #[.int .i64 r] w fun e w' => e = .returned (.bool (isRes r)) ∧ w = w' := by
  go_enter Try.func28, Try.ntmps28
  go_wp2_with (go_at_call 26; refine (l00In_any _ _ _ _).mono ?_; rintro e w' ⟨rfl, rfl⟩)
  go_ret
  exact ⟨rfl, rfl⟩
theorem l08Conductance_any (r : Int) (w : World) (h : isRes r = true) :
    Calls Try.prog 45 #[.int .i64 r] w fun e w' => e = .returned (.int .i64 (cond r)) ∧ w = w' := by
  obtain ⟨h1, h2⟩ := isRes_t h
  obtain ⟨h3, h4⟩ := quo_bnd (a := 10000000000000000) (by omega) h
  have h5 : r ≠ 0 := by omega
  clear h
  go_enter Try.func45, Try.ntmps45
  go_wp2_with (go_at_call 56; refine (l01Root_any _ _ (by omega) (by omega)).mono ?_; rintro e w' ⟨rfl, rfl⟩)
  go_ret
  exact ⟨rfl, rfl⟩
theorem conductance_any (r : Int) (w : World) (h : isRes r = true) :
    Calls Try.prog 52 #[.int .i64 r] w fun e w' => e = .returned (.int .i64 (cond r)) ∧ Below w.heap.size w w' := by
  obtain ⟨h1, h2⟩ := isRes_t h
  obtain ⟨h3, h4⟩ := quo_bnd (a := 10000000000000000) (by omega) h
  have h5 : r ≠ 0 := by omega
  clear h
  go_enter Try.func52, Try.ntmps52
  go_wp2_with (go_at_call 59; refine (rootOf_any _ _ (by omega)).mono ?_; rintro e w' ⟨rfl, hb⟩)
  go_ret
  exact ⟨rfl, hb⟩
end Go.Proofs.Ytnfallanjndbcaa
