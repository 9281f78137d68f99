/- The pressure of a fan: plain laws. -/
import Derived.Test.YtapophggndlhaaaLst
namespace Go.Proofs.Ytapophggndlhaaa
set_option linter.unusedVariables false
set_option linter.unusedSimpArgs false
/-- A number on a line through two points, or that of the nearer end. -/
def lineT (x0 y0 x1 y1 x : Int) : Int := if x ≤ x0 ∨ x1 ≤ x0 then y0 else if x1 ≤ x then y1 else y0 + dr ((y1 - y0) * (x - x0)) (x1 - x0)
theorem lineT_0 {x0 y0 x1 y1 x : Int} (h : x ≤ x0) : lineT x0 y0 x1 y1 x = y0 := by unfold lineT; rw [if_pos (.inl h)]
theorem lineT_1 {x0 y0 x1 y1 x : Int} (h0 : x0 < x1) (h : x1 ≤ x) : lineT x0 y0 x1 y1 x = y1 := by unfold lineT; rw [if_neg (by omega), if_pos h]
theorem lineT_m {x0 y0 x1 y1 x : Int} (h0 : x0 < x) (h : x < x1) : lineT x0 y0 x1 y1 x = y0 + dr ((y1 - y0) * (x - x0)) (x1 - x0) := by unfold lineT; rw [if_neg (by omega), if_neg (by omega)]
theorem dr_mul {a c : Int} (hc : 0 < c) : dr (a * c) c = a := by
  have h1 := dr_scale (a := a * c) (b := c) (m := a) hc
  unfold dr
  by_cases ha : a * c < 0
  · rw [if_pos ha]
    have e : c - 2 * (a * c) = c + (-a) * (2 * c) := by
      rw [Int.neg_mul, Int.mul_left_comm]; omega
    rw [e, Int.add_mul_ediv_right _ _ (by omega), Int.ediv_eq_zero_of_lt (by omega) (by omega)]
    omega
  · rw [if_neg ha]
    have e : 2 * (a * c) + c = c + a * (2 * c) := by rw [Int.mul_left_comm]; omega
    rw [e, Int.add_mul_ediv_right _ _ (by omega), Int.ediv_eq_zero_of_lt (by omega) (by omega)]
    omega
theorem dr_zero {c : Int} (hc : 0 < c) : dr 0 c = 0 := by have := dr_mul (a := 0) hc; rwa [Int.zero_mul] at this
theorem lineT_bnd {x0 y0 x1 y1 x : Int} (h0 : x0 < x1) (hy : y1 ≤ y0) : y1 ≤ lineT x0 y0 x1 y1 x ∧ lineT x0 y0 x1 y1 x ≤ y0 := by
  rcases Int.lt_or_le x0 x with h1 | h1
  · rcases Int.lt_or_le x x1 with h2 | h2
    · rw [lineT_m h1 h2]
      have e1 : (y1 - y0) * (x1 - x0) ≤ (y1 - y0) * (x - x0) := Int.mul_le_mul_of_nonpos_left (by omega) (by omega)
      have e2 : (y1 - y0) * (x - x0) ≤ 0 := Int.mul_nonpos_of_nonpos_of_nonneg (by omega) (by omega)
      have e3 := dr_mono (c := x1 - x0) (by omega) e1
      have e4 := dr_mono (c := x1 - x0) (by omega) e2
      rw [dr_mul (by omega)] at e3
      rw [dr_zero (by omega)] at e4
      omega
    · rw [lineT_1 h0 h2]; omega
  · rw [lineT_0 h1]; omega
theorem lineT_mono {x0 y0 x1 y1 x x' : Int} (h0 : x0 < x1) (hy : y1 ≤ y0) (h : x ≤ x') : lineT x0 y0 x1 y1 x' ≤ lineT x0 y0 x1 y1 x := by
  rcases Int.lt_or_le x0 x with h1 | h1
  · rcases Int.lt_or_le x' x1 with h2 | h2
    · rw [lineT_m h1 (by omega), lineT_m (by omega) h2]
      have e1 : (y1 - y0) * (x' - x0) ≤ (y1 - y0) * (x - x0) := Int.mul_le_mul_of_nonpos_left (by omega) (by omega)
      have e3 := dr_mono (c := x1 - x0) (by omega) e1
      omega
    · rw [lineT_1 h0 h2]; exact (lineT_bnd h0 hy).1
  · rw [lineT_0 h1]; exact (lineT_bnd h0 hy).2
end Go.Proofs.Ytapophggndlhaaa
