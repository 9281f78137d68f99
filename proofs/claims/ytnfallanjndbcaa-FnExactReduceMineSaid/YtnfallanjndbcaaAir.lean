/- Contracts of the functions on the density of air and the draught of a column. -/
import Derived.Test.YtnfallanjndbcaaNum
namespace Go.Proofs.Ytnfallanjndbcaa
set_option linter.unusedVariables false
set_option linter.unusedSimpArgs false
open Go.RowKit
def warmT (t : Int) : Int := dr 3531183 (2731 + t)
def warmR (t : Int) : Int × Int := if inB t (-300) 600 = true then (warmT t, 0) else (0, 2)
theorem warmT_bnd (t : Int) (h : inB t (-300) 600 = true) : 0 ≤ warmT t ∧ warmT t ≤ 3531183 := by
  have := inB_t h
  exact ⟨dr_nonneg (by omega) (by omega), (dr_bnd (m := 3531183) (by omega) (by omega) (by omega)).2⟩
def columnT (r t : Int) : Int := dr (981 * (1200 - warmT t) * r) 100000
def columnR (r t : Int) : Int × Int := if inB r (-6000) 6000 = true ∧ inB t (-300) 600 = true then (columnT r t, 0) else (0, 2)
theorem column_bnd (r t : Int) (hr : inB r (-6000) 6000 = true) (ht : inB t (-300) 600 = true) :
    -100000000000000 ≤ 981 * (1200 - warmT t) * r ∧ 981 * (1200 - warmT t) * r ≤ 100000000000000 := by
  have := warmT_bnd t ht
  have := inB_t hr
  exact mul_bnd (X := 3464090523) (Y := 6000) (by omega) (by omega) (by omega) (by omega) (by omega)
end Go.Proofs.Ytnfallanjndbcaa
