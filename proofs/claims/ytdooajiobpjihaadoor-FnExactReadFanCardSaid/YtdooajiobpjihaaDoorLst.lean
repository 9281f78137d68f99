/- Contracts on lists of numbers: sums, bounds, series, drops. -/
import Derived.Test.YtdooajiobpjihaaDoorSlc
import Derived.Test.YtdooajiobpjihaaDoorRes
namespace Go.Proofs.YtdooajiobpjihaaDoor
set_option linter.unusedVariables false
set_option linter.unusedSimpArgs false
open Go.RowKit
def isFlow (q : Int) : Bool := inB q (-100000) 100000
theorem isFlow_t {q : Int} (h : isFlow q = true) : -100000 ≤ q ∧ q ≤ 100000 := inB_t h
def drop (r q : Int) : Int := dr (r * q * absI q) 10000000000
theorem drop_in {r q : Int} (hr : isRes r = true) (hq : isFlow q = true) : -100000000000 ≤ r * q ∧ r * q ≤ 100000000000 ∧ -10000000000000000 ≤ r * q * absI q ∧ r * q * absI q ≤ 10000000000000000 := by
  obtain ⟨h1, h2⟩ := isRes_t hr
  obtain ⟨h3, h4⟩ := isFlow_t hq
  obtain ⟨h5, h6⟩ := mul_bnd (x := r) (y := q) (X := 1000000) (Y := 100000) (M := 100000000000) (by omega) (by omega) (by omega) (by omega) (by omega)
  have h7 := absI_nonneg q
  have h8 := absI_le (n := q) (b := 100000) (by omega) (by omega)
  obtain ⟨h9, h10⟩ := mul_bnd (x := r * q) (y := absI q) (X := 100000000000) (Y := 100000) (M := 10000000000000000) (by omega) (by omega) (by omega) (by omega) (by omega)
  exact ⟨h5, h6, h9, h10⟩
theorem drop_bnd {r q : Int} (hr : isRes r = true) (hq : isFlow q = true) : -1000000 ≤ drop r q ∧ drop r q ≤ 1000000 := by
  obtain ⟨_, _, h1, h2⟩ := drop_in hr hq
  exact dr_scale (by omega) (by omega) (by omega)
theorem dr_mono {a b c : Int} (hc : 0 < c) (h : a ≤ b) : dr a c ≤ dr b c := by
  have key : ∀ x : Int, dr x c = if x < 0 then -((2 * (-x) + c) / (2 * c)) else (2 * x + c) / (2 * c) := by
    intro x; unfold dr
    by_cases hx : x < 0
    · rw [if_pos hx, if_pos hx]
      have e : c - 2 * x = 2 * (-x) + c := by omega
      rw [e]
    · rw [if_neg hx, if_neg hx]
  rw [key, key]
  have n1 : ∀ x : Int, 0 ≤ x → 0 ≤ (2 * x + c) / (2 * c) := fun x hx => Int.ediv_nonneg (by omega) (by omega)
  by_cases ha : a < 0 <;> by_cases hb : b < 0
  · rw [if_pos ha, if_pos hb]
    have := Int.ediv_le_ediv (c := 2 * c) (by omega) (show 2 * (-b) + c ≤ 2 * (-a) + c by omega)
    omega
  · rw [if_pos ha, if_neg hb]
    have h1 := n1 (-a) (by omega)
    have h2 := n1 b (by omega)
    omega
  · omega
  · rw [if_neg ha, if_neg hb]
    exact Int.ediv_le_ediv (by omega) (by omega)
def resList (xs : List Int) : Bool := decide (1 ≤ xs.length ∧ xs.length ≤ 24) && allIn 1 1000000 xs
theorem resList_t {xs : List Int} (h : resList xs = true) : (1 ≤ xs.length ∧ xs.length ≤ 24) ∧ allIn 1 1000000 xs = true := by
  unfold resList at h
  rw [Bool.and_eq_true, decide_eq_true_eq] at h
  exact h
def dropList (xs : List Int) : Bool := decide (xs.length ≤ 64) && allIn (-10000) 10000 xs
theorem dropList_t {xs : List Int} (h : dropList xs = true) : xs.length ≤ 64 ∧ allIn (-10000) 10000 xs = true := by
  unfold dropList at h
  rw [Bool.and_eq_true, decide_eq_true_eq] at h
  exact h
def serR (xs : List Int) : Int × Int := if resList xs = true then (if 1000000 < sumI xs then (0, 6) else (sumI xs, 0)) else (0, 2)
theorem serR_ok {xs : List Int} (h : resList xs = true) (hs : ¬ 1000000 < sumI xs) : serR xs = (sumI xs, 0) := by unfold serR; rw [if_pos h, if_neg hs]
theorem serR_big {xs : List Int} (h : resList xs = true) (hs : 1000000 < sumI xs) : serR xs = (0, 6) := by unfold serR; rw [if_pos h, if_pos hs]
theorem res_range {xs : List Int} (h : resList xs = true) : ∀ x ∈ xs, -1000000 ≤ x ∧ x ≤ 1000000 := fun x hx => by
  have := allIn_mem (resList_t h).2 hx; omega
end Go.Proofs.YtdooajiobpjihaaDoor
