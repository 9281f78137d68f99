/- Contracts of resistances and conductances. -/
import Derived.Test.YtapophggndlhaaaRootC
namespace Go.Proofs.Ytapophggndlhaaa
set_option linter.unusedVariables false
set_option linter.unusedSimpArgs false
open Go.RowKit
def isRes (r : Int) : Bool := inB r 1 1000000
theorem isRes_t {r : Int} (h : isRes r = true) : 1 ≤ r ∧ r ≤ 1000000 := inB_t h
def cond (r : Int) : Int := rootI (10000000000000000 / r)
def condR (r : Int) : Int × Int := if isRes r = true then (cond r, 0) else (0, 2)
def orifR (r : Int) : Int × Int := if isRes r = true then (rootI (14161000000 / r), 0) else (0, 2)
theorem quo_bnd {a r : Int} (ha : 0 ≤ a) (h : isRes r = true) : 0 ≤ a / r ∧ a / r ≤ a := ediv_bounds ha (by have := isRes_t h; omega) (Int.le_refl _)
theorem cond_bnd {r : Int} (h : isRes r = true) : 100000 ≤ cond r ∧ cond r ≤ 100000000 := by
  have h1 := isRes_t h
  have h2 := quo_bnd (a := 10000000000000000) (by omega) h
  refine ⟨?_, (rootI_bnd (n := 10000000000000000 / r) (M := 100000000) (m := 0) (by omega) (by omega)).2⟩
  refine (rootI_le (by omega)).2 (.inr ?_)
  have h3 : 10000000000 ≤ 10000000000000000 / r := by
    apply Int.le_ediv_of_mul_le (by omega)
    omega
  omega
theorem l03Res_any (r : Int) (w : World) :
    Calls Try.prog 53 #[.int .i64 r] w fun e w' => e = .returned (.bool (isRes r)) ∧ w = w' := by
  go_enter Try.func53, Try.ntmps53
  go_wp2_with (go_at_call 37; refine (l00In_any _ _ _ _).mono ?_; rintro e w' ⟨rfl, rfl⟩)
  go_ret
  exact ⟨rfl, rfl⟩
theorem resistanceOk_any (r : Int) (w : World) :
    Calls Try.prog 55 #[.int .i64 r] w fun e w' => e = .returned (.bool (isRes r)) ∧ w = w' := by
  go_enter Try.func55, Try.ntmps55
  go_wp2_with (go_at_call 41; refine (within_any _ _ _ _).mono ?_; rintro e w' ⟨rfl, rfl⟩)
  go_ret
  exact ⟨rfl, rfl⟩
end Go.Proofs.Ytapophggndlhaaa
