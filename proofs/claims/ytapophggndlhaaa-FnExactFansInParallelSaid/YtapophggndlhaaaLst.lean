/- Contracts on lists of numbers: sums, bounds, series, drops. -/
import Derived.Test.YtapophggndlhaaaSlc
import Derived.Test.YtapophggndlhaaaRes
namespace Go.Proofs.Ytapophggndlhaaa
set_option linter.unusedVariables false
set_option linter.unusedSimpArgs false
open Go.RowKit
theorem l00Min_any (a b : Int) (w : World) :
    Calls Try.prog 64 #[.int .i64 a, .int .i64 b] w fun e w' => e = .returned (.int .i64 (min a b)) ∧ w = w' := by
  go_enter Try.func64, Try.ntmps64
  go_wp2
  all_goals
    go_ret
    exact ⟨ret_int (by omega), rfl⟩
theorem l00Max_any (a b : Int) (w : World) :
    Calls Try.prog 63 #[.int .i64 a, .int .i64 b] w fun e w' => e = .returned (.int .i64 (max a b)) ∧ w = w' := by
  go_enter Try.func63, Try.ntmps63
  go_wp2
  all_goals
    go_ret
    exact ⟨ret_int (by omega), rfl⟩
theorem l03Abs_any (a : Int) (w : World) (h1 : -9223372036854775807 ≤ a) (h2 : a ≤ 9223372036854775807) :
    Calls Try.prog 77 #[.int .i64 a] w fun e w' => e = .returned (.int .i64 (absI a)) ∧ w = w' := by
  go_enter Try.func77, Try.ntmps77
  go_wp2_with fail; ((with_reducible refine (l00Max_any _ _ _).mono ?_); rintro e w' ⟨rfl, rfl⟩)
  go_wp2
  go_ret
  exact ⟨ret_int (by unfold absI; omega), rfl⟩
def isFlow (q : Int) : Bool := inB q (-100000) 100000
theorem isFlow_t {q : Int} (h : isFlow q = true) : -100000 ≤ q ∧ q ≤ 100000 := inB_t h
theorem l03Flow_any (r : Int) (w : World) :
    Calls Try.prog 45 #[.int .i64 r] w fun e w' => e = .returned (.bool (isFlow r)) ∧ w = w' := by
  go_enter Try.func45, Try.ntmps45
  go_wp2_with fail; ((with_reducible refine (l00In_any _ _ _ _).mono ?_); rintro e w' ⟨rfl, rfl⟩)
  go_wp2
  go_ret
  exact ⟨rfl, rfl⟩
theorem flowOk_any (r : Int) (w : World) :
    Calls Try.prog 47 #[.int .i64 r] w fun e w' => e = .returned (.bool (isFlow r)) ∧ w = w' := by
  go_enter Try.func47, Try.ntmps47
  go_wp2_with fail; ((with_reducible refine (within_any _ _ _ _).mono ?_); rintro e w' ⟨rfl, rfl⟩)
  go_wp2
  go_ret
  exact ⟨rfl, rfl⟩
def drop (r q : Int) : Int := dr (r * q * absI q) 10000000000
theorem drop_in {r q : Int} (hr : isRes r = true) (hq : isFlow q = true) : -100000000000 ≤ r * q ∧ r * q ≤ 100000000000 ∧ -10000000000000000 ≤ r * q * absI q ∧ r * q * absI q ≤ 10000000000000000 := by
  obtain ⟨h1, h2⟩ := isRes_t hr
  obtain ⟨h3, h4⟩ := isFlow_t hq
  obtain ⟨h5, h6⟩ := mul_bnd (x := r) (y := q) (X := 1000000) (Y := 100000) (M := 100000000000) (by omega) (by omega) (by omega) (by omega) (by omega)
  have h7 := absI_nonneg q
  have h8 := absI_le (n := q) (b := 100000) (by omega) (by omega)
  obtain ⟨h9, h10⟩ := mul_bnd (x := r * q) (y := absI q) (X := 100000000000) (Y := 100000) (M := 10000000000000000) (by omega) (by omega) (by omega) (by omega) (by omega)
  exact ⟨h5, h6, h9, h10⟩
theorem drop_bnd {r q : Int} (hr : isRes r = true) (hq : isFlow q = true) : -1000000 ≤ drop r q ∧ drop r q ≤ 1000000 := by
  obtain ⟨_, _, h1, h2⟩ := drop_in hr hq
  exact dr_scale (by omega) (by omega) (by omega)
theorem dr_mono {a b c : Int} (hc : 0 < c) (h : a ≤ b) : dr a c ≤ dr b c := by
  have key : ∀ x : Int, dr x c = if x < 0 then -((2 * (-x) + c) / (2 * c)) else (2 * x + c) / (2 * c) := by
    intro x; unfold dr
    by_cases hx : x < 0
    · rw [if_pos hx, if_pos hx]
      have e : c - 2 * x = 2 * (-x) + c := by omega
      rw [e]
    · rw [if_neg hx, if_neg hx]
  rw [key, key]
  have n1 : ∀ x : Int, 0 ≤ x → 0 ≤ (2 * x + c) / (2 * c) := fun x hx => Int.ediv_nonneg (by omega) (by omega)
  by_cases ha : a < 0 <;> by_cases hb : b < 0
  · rw [if_pos ha, if_pos hb]
    have := Int.ediv_le_ediv (c := 2 * c) (by omega) (show 2 * (-b) + c ≤ 2 * (-a) + c by omega)
    omega
  · rw [if_pos ha, if_neg hb]
    have h1 := n1 (-a) (by omega)
    have h2 := n1 b (by omega)
    omega
  · omega
  · rw [if_neg ha, if_neg hb]
    exact Int.ediv_le_ediv (by omega) (by omega)
theorem l03Drop_any (r q : Int) (w : World) (hr : isRes r = true) (hq : isFlow q = true) :
    Calls Try.prog 82 #[.int .i64 r, .int .i64 q] w fun e w' => e = .returned (.int .i64 (drop r q)) ∧ w = w' := by
  obtain ⟨h1, h2, h3, h4⟩ := drop_in hr hq
  obtain ⟨h5, h6⟩ := isFlow_t hq
  clear hr hq
  go_enter Try.func82, Try.ntmps82
  go_wp2_with fail; ((with_reducible refine (l03Abs_any _ _ (by omega) (by omega)).mono ?_); rintro e w' ⟨rfl, rfl⟩)
  go_wp2_with fail; ((with_reducible refine (l01Div_any _ _ _ (by omega) (by omega) (by omega) (by omega)).mono ?_); rintro e w' ⟨rfl, rfl⟩)
  go_wp2
  go_ret
  exact ⟨rfl, rfl⟩
theorem dropOf_any (r q : Int) (w : World) (hr : isRes r = true) (hq : isFlow q = true) :
    Calls Try.prog 84 #[.int .i64 r, .int .i64 q] w fun e w' => e = .returned (.int .i64 (drop r q)) ∧ ∃ n, w' = w.drewN n := by
  obtain ⟨h1, h2, h3, h4⟩ := drop_in hr hq
  obtain ⟨h5, h6⟩ := isFlow_t hq
  clear hr hq
  go_enter Try.func84, Try.ntmps84
  go_wp2_with fail; ((with_reducible refine (abs_any _ _ (by omega) (by omega)).mono ?_); rintro e w' ⟨rfl, rfl⟩)
  go_wp2_with fail; ((with_reducible refine (divRound_any _ _ _ (by omega) (by omega) (by omega) (by omega)).mono ?_); rintro e w' ⟨rfl, n1, rfl⟩)
  go_wp2
  go_ret
  exact ⟨rfl, _, rfl⟩
def resList (xs : List Int) : Bool := decide (1 ≤ xs.length ∧ xs.length ≤ 24) && allIn 1 1000000 xs
theorem resList_t {xs : List Int} (h : resList xs = true) : (1 ≤ xs.length ∧ xs.length ≤ 24) ∧ allIn 1 1000000 xs = true := by
  unfold resList at h
  rw [Bool.and_eq_true, decide_eq_true_eq] at h
  exact h
def dropList (xs : List Int) : Bool := decide (xs.length ≤ 64) && allIn (-10000) 10000 xs
theorem dropList_t {xs : List Int} (h : dropList xs = true) : xs.length ≤ 64 ∧ allIn (-10000) 10000 xs = true := by
  unfold dropList at h
  rw [Bool.and_eq_true, decide_eq_true_eq] at h
  exact h
def serR (xs : List Int) : Int × Int := if resList xs = true then (if 1000000 < sumI xs then (0, 6) else (sumI xs, 0)) else (0, 2)
theorem serR_ok {xs : List Int} (h : resList xs = true) (hs : ¬ 1000000 < sumI xs) : serR xs = (sumI xs, 0) := by unfold serR; rw [if_pos h, if_neg hs]
theorem serR_big {xs : List Int} (h : resList xs = true) (hs : 1000000 < sumI xs) : serR xs = (0, 6) := by unfold serR; rw [if_pos h, if_pos hs]
theorem res_range {xs : List Int} (h : resList xs = true) : ∀ x ∈ xs, -1000000 ≤ x ∧ x ≤ 1000000 := fun x hx => by
  have := allIn_mem (resList_t h).2 hx; omega
end Go.Proofs.Ytapophggndlhaaa
