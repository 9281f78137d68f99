/- Contracts on lists of numbers: sums, bounds, series, drops. -/
import Derived.Test.YtnfallanjndbcaaSlc
import Derived.Test.YtnfallanjndbcaaRes
namespace Go.Proofs.Ytnfallanjndbcaa
set_option linter.unusedVariables false
set_option linter.unusedSimpArgs false
open Go.RowKit
theorem l00Max_any (a b : Int) (w : World) :
    Calls Try.prog 46 #[.int .i64 a, .int .i64 b] w fun e w' => e = .returned (.int .i64 (max a b)) ∧ w = w' := by
  go_enter Try.func46, Try.ntmps46
  go_wp2
  all_goals
    go_ret
    exact ⟨ret_int (by omega), rfl⟩
def isFlow (q : Int) : Bool := inB q (-100000) 100000
theorem isFlow_t {q : Int} (h : isFlow q = true) : -100000 ≤ q ∧ q ≤ 100000 := inB_t h
def drop (r q : Int) : Int := dr (r * q * absI q) 10000000000
theorem drop_in {r q : Int} (hr : isRes r = true) (hq : isFlow q = true) : -100000000000 ≤ r * q ∧ r * q ≤ 100000000000 ∧ -10000000000000000 ≤ r * q * absI q ∧ r * q * absI q ≤ 10000000000000000 := by
  obtain ⟨h1, h2⟩ := isRes_t hr
  obtain ⟨h3, h4⟩ := isFlow_t hq
  obtain ⟨h5, h6⟩ := mul_bnd (x := r) (y := q) (X := 1000000) (Y := 100000) (M := 100000000000) (by omega) (by omega) (by omega) (by omega) (by omega)
  have h7 := absI_nonneg q
  have h8 := absI_le (n := q) (b := 100000) (by omega) (by omega)
  obtain ⟨h9, h10⟩ := mul_bnd (x := r * q) (y := absI q) (X := 100000000000) (Y := 100000) (M := 10000000000000000) (by omega) (by omega) (by omega) (by omega) (by omega)
  exact ⟨h5, h6, h9, h10⟩
theorem drop_bnd {r q : Int} (hr : isRes r = true) (hq : isFlow q = true) : -1000000 ≤ drop r q ∧ drop r q ≤ 1000000 := by
  obtain ⟨_, _, h1, h2⟩ := drop_in hr hq
  exact dr_scale (by omega) (by omega) (by omega)
theorem dr_mono {a b c : Int} (hc : 0 < c) (h : a ≤ b) : dr a c ≤ dr b c := by
  have key : ∀ x : Int, dr x c = if x < 0 then -((2 * (-x) + c) / (2 * c)) else (2 * x + c) / (2 * c) := by
    intro x; unfold dr
    by_cases hx : x < 0
    · rw [if_pos hx, if_pos hx]
      have e : c - 2 * x = 2 * (-x) + c := by omega
      rw [e]
    · rw [if_neg hx, if_neg hx]
  rw [key, key]
  have n1 : ∀ x : Int, 0 ≤ x → 0 ≤ (2 * x + c) / (2 * c) := fun x hx => Int.ediv_nonneg (by omega) (by omega)
  by_cases ha : a < 0 <;> by_cases hb : b < 0
  · rw [if_pos ha, if_pos hb]
    have := Int.ediv_le_ediv (c := 2 * c) (by omega) (show 2 * (-b) + c ≤ 2 * (-a) + c by omega)
    omega
  · rw [if_pos ha, if_neg hb]
    have h1 := n1 (-a) (by omega)
    have h2 := n1 b (by omega)
    omega
  · omega
  · rw [if_neg ha, if_neg hb]
    exact Int.ediv_le_ediv (by omega) (by omega)
def resList (xs : List Int) : Bool := decide (1 ≤ xs.length ∧ xs.length ≤ 24) && allIn 1 1000000 xs
theorem resList_t {xs : List Int} (h : resList xs = true) : (1 ≤ xs.length ∧ xs.length ≤ 24) ∧ allIn 1 1000000 xs = true := by
  unfold resList at h
  rw [Bool.and_eq_true, decide_eq_true_eq] at h
  exact h
def dropList (xs : List Int) : Bool := decide (xs.length ≤ 64) && allIn (-10000) 10000 xs
theorem dropList_t {xs : List Int} (h : dropList xs = true) : xs.length ≤ 64 ∧ allIn (-10000) 10000 xs = true := by
  unfold dropList at h
  rw [Bool.and_eq_true, decide_eq_true_eq] at h
  exact h
set_option maxHeartbeats 800000 in
theorem l08List_any (A : Option Addr) (n c : Nat) (xs : List Int) (w : World) (hr : Reads w w.heap.size 1 A n (ints xs)) (hn : n ≤ 1048576) :
    Calls Try.prog 13 #[.slice A n c] w fun e w' => e = .returned (.bool (resList xs)) ∧ w = w' := by
  have HL := Lib.hid (ints_len hr)
  go_enter Try.func13, Try.ntmps13
  go_wp2
  go_loop [3] (fun i => ∃ k : Nat, k ≤ n ∧ i = .int .i64 k ∧ Hid ((xs.take k).all (fun x => inB x 1 1000000) = true)) (fun i => n - (intOf i).toNat)
  case atStart => exact ⟨0, by omega, rfl, rfl⟩
  case round =>
    obtain ⟨k, hk, rfl, HK⟩ := hrel
    by_cases hlt : k < n
    · obtain ⟨ad, u, rfl, had, hx, hc⟩ := hr.at_ hlt
      obtain ⟨b, hb, rfl⟩ := ints_at hx
      have HX := Lib.hid hb
      clear hb hx
      cases hp : isRes b
      · have HP : Hid (isRes b = false) := hp
        go_wp2_with (go_at_call 28; refine (l03Res_any _ _).mono ?_; rintro e w' ⟨rfl, rfl⟩)
        go_ret
        exact ⟨ret_bool (by unfold resList allIn; rw [all_false (p := fun x => inB x 1 1000000) HX.out HP.out, Bool.and_false]), rfl⟩
      · have HP : Hid (isRes b = true) := hp
        go_wp2_with (go_at_call 28; refine (l03Res_any _ _).mono ?_; rintro e w' ⟨rfl, rfl⟩)
        go_round
        case rel => exact ⟨k + 1, by omega, by go_num, all_take HX.out HK.out HP.out⟩
        case measure => simp [intOf]; omega
    · have e : k = n := by omega
      subst e
      have HA : Hid (allIn 1 1000000 xs = true) := all_whole HL.out HK.out
      by_cases h1 : 1 ≤ k <;> by_cases h24 : k ≤ 24
      all_goals
        first
        | (exfalso; omega)
        | (have HR : Hid (resList xs = decide (1 ≤ k ∧ k ≤ 24)) := by show resList xs = _; unfold resList; rw [HA.out, HL.out, Bool.and_true]
           go_wp2
           go_ret
           refine ⟨ret_bool ?_, rfl⟩
           rw [HR.out]
           first
           | exact Bool.eq_iff_iff.2 (by simp only [decide_eq_true_eq]; omega)
           | exact (decide_eq_false (by omega)).symm
           | exact (decide_eq_true (by omega)).symm)
def serR (xs : List Int) : Int × Int := if resList xs = true then (if 1000000 < sumI xs then (0, 6) else (sumI xs, 0)) else (0, 2)
theorem serR_ok {xs : List Int} (h : resList xs = true) (hs : ¬ 1000000 < sumI xs) : serR xs = (sumI xs, 0) := by unfold serR; rw [if_pos h, if_neg hs]
theorem serR_big {xs : List Int} (h : resList xs = true) (hs : 1000000 < sumI xs) : serR xs = (0, 6) := by unfold serR; rw [if_pos h, if_pos hs]
theorem res_range {xs : List Int} (h : resList xs = true) : ∀ x ∈ xs, -1000000 ≤ x ∧ x ≤ 1000000 := fun x hx => by
  have := allIn_mem (resList_t h).2 hx; omega
end Go.Proofs.Ytnfallanjndbcaa
