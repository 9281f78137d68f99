/- Contracts of the searches for a first number, of shares, regulators, and resistances side by side. -/
import Derived.Test.YtnfallanjndbcaaLst
namespace Go.Proofs.Ytnfallanjndbcaa
set_option linter.unusedVariables false
set_option linter.unusedSimpArgs false
open Go.RowKit
/-- The first number from lo on, of n, at which p holds; lo + n if there is none. -/
def firstP (p : Int → Bool) (lo : Int) : Nat → Int
  | 0 => lo
  | n + 1 => if p lo = true then lo else firstP p (lo + 1) n
theorem firstP_eq {p : Int → Bool} : ∀ {n : Nat} {lo v : Int}, lo ≤ v → v ≤ lo + n → (∀ x, lo ≤ x → x < v → p x = false) → (v < lo + n → p v = true) → firstP p lo n = v
  | 0, lo, v, h1, h2, _, _ => by simp only [firstP]; omega
  | n + 1, lo, v, h1, h2, h3, h4 => by
    simp only [firstP]
    by_cases hv : v = lo
    · subst hv
      rw [if_pos (h4 (by omega))]
    · rw [if_neg (by rw [h3 lo (by omega) (by omega)]; exact Bool.false_ne_true)]
      exact firstP_eq (by omega) (by omega) (fun x hx1 hx2 => h3 x (by omega) hx2) (fun hlt => h4 (by omega))
def orNF (v : Int) (ok : Bool) : Int × Int := if ok = true then (v, 0) else (0, 3)
def share (a b : Int) : Int := dr (1000 * rootI (1000000 * b)) (rootI (1000000 * a) + rootI (1000000 * b))
def shareR (a b : Int) : Int × Int := if isRes a = true ∧ isRes b = true then (share a b, 0) else (0, 2)
theorem mroot_bnd {a : Int} (h : isRes a = true) : 1000 ≤ rootI (1000000 * a) ∧ rootI (1000000 * a) ≤ 1000000 := by
  have h1 := isRes_t h
  exact ⟨(rootI_le (by omega)).2 (.inr (by omega)), (rootI_bnd (n := 1000000 * a) (M := 1000000) (m := 0) (by omega) (by omega)).2⟩
theorem share_bnd {a b : Int} (ha : isRes a = true) (hb : isRes b = true) : 0 ≤ share a b ∧ share a b ≤ 1000000000 := by
  have h1 := mroot_bnd ha
  have h2 := mroot_bnd hb
  exact ⟨dr_nonneg (by omega) (by omega), (dr_bnd (m := 1000000000) (by omega) (by omega) (by omega)).2⟩
end Go.Proofs.Ytnfallanjndbcaa
