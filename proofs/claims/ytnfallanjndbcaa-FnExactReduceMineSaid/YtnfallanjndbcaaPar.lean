/- Contracts of resistances side by side and of divided flows. -/
import Derived.Test.YtnfallanjndbcaaRgl
namespace Go.Proofs.Ytnfallanjndbcaa
set_option linter.unusedVariables false
set_option linter.unusedSimpArgs false
open Go.RowKit
def condSum (xs : List Int) : Int := sumI (xs.map cond)
theorem condSum_snoc {xs : List Int} {k : Nat} {x : Int} (h : xs[k]? = some x) : condSum (xs.take (k + 1)) = condSum (xs.take k) + cond x := by
  unfold condSum
  rw [take_snoc h, List.map_append, sumI_append]; simp [sumI]
theorem condSum_bnd : ∀ {xs : List Int}, (∀ x ∈ xs, isRes x = true) → 100000 * xs.length ≤ condSum xs ∧ condSum xs ≤ 100000000 * xs.length
  | [], _ => by simp [condSum, sumI]
  | x :: t, h => by
    have h1 := cond_bnd (h x (by simp))
    have h2 := condSum_bnd (xs := t) fun y hy => h y (by simp [hy])
    have e : condSum (x :: t) = cond x + condSum t := by simp [condSum, sumI]
    rw [e, List.length_cons]
    omega
theorem condSum_take {xs : List Int} {k : Nat} (hl : xs.length ≤ 24) (h : ∀ x ∈ xs, isRes x = true) : 0 ≤ condSum (xs.take k) ∧ condSum (xs.take k) ≤ 2400000000 := by
  have h1 := condSum_bnd (xs := xs.take k) fun x hx => h x (List.mem_of_mem_take hx)
  have h2 : (xs.take k).length ≤ 24 := by simp; omega
  omega
def par (xs : List Int) : Int := max (dr 10000000000000000 (condSum xs * condSum xs)) 1
theorem res_all {xs : List Int} (h : resList xs = true) : ∀ x ∈ xs, isRes x = true := fun x hx => all_mem (p := fun x => inB x 1 1000000) (resList_t h).2 hx
theorem sq_bnd {s : Int} (h1 : 1 ≤ s) (h2 : s ≤ 2400000000) : 1 ≤ s * s ∧ s * s ≤ 5760000000000000000 := by
  have h3 := Int.mul_le_mul h2 h2 (by omega) (by omega)
  have h4 := Int.mul_le_mul h1 h1 (by omega) (by omega)
  omega
theorem par_bnd {xs : List Int} (h1 : 1 ≤ condSum xs) (h2 : condSum xs ≤ 2400000000) : 1 ≤ par xs ∧ par xs ≤ 10000000000000000 := by
  have h3 := sq_bnd h1 h2
  have h4 := dr_bnd (a := 10000000000000000) (b := condSum xs * condSum xs) (m := 10000000000000000) (by omega) (by omega) (by omega)
  unfold par; omega
theorem dr_big {b : Int} (h : 4611686018427387000 ≤ b) : dr 10000000000000000 b = 0 := by
  unfold dr; rw [if_neg (by omega)]
  exact Int.ediv_eq_zero_of_lt (by omega) (by omega)
theorem wrap_big {b : Int} (h1 : 4611686018427387904 ≤ b) (h2 : b ≤ 5760000000000000000) : IntKind.i64.wrap (2 * b) = 2 * b - 18446744073709551616 := by
  rw [IntKind.wrap_i64]; omega
theorem tdiv_small {a d : Int} (h0 : 0 ≤ a) (h : a < -d) : a.tdiv d = 0 := by
  have hd : d = -(-d) := by omega
  rw [hd, Int.tdiv_neg, Int.tdiv_eq_zero_of_lt h0 h]; rfl
/-- Where twice the divisor is too great for 64 bits: the quotient is 0 all the same. -/
theorem l01Div_big (b : Int) (w : World) (h3 : 4611686018427387000 ≤ b) (h4 : b ≤ 5760000000000000000) :
    Calls Try.prog 47 #[.int .i64 10000000000000000, .int .i64 b] w fun e w' => e = .returned (.int .i64 (dr 10000000000000000 b)) ∧ w = w' := by
  rw [dr_big h3]
  by_cases hb : b ≤ 4611686018427387903
  · have h5 : 2 * b ≠ 0 := by omega
    have h6 : 1 ≤ 2 * b := by omega
    have h7 : (20000000000000000 + b) / (2 * b) = 0 := Int.ediv_eq_zero_of_lt (by omega) (by omega)
    go_enter Try.func47, Try.ntmps47
    go_wp2
    go_ret
    exact ⟨ret_int (by omega), rfl⟩
  · obtain ⟨d, hd, hd1, hd2⟩ : ∃ d : Int, IntKind.i64.wrap (2 * b) = d ∧ -9223372036854775808 ≤ d ∧ d ≤ -6900000000000000000 := ⟨_, wrap_big (by omega) h4, by omega, by omega⟩
    have h5 : d ≠ 0 := by omega
    have h7 : (20000000000000000 + b).tdiv d = 0 := tdiv_small (by omega) (by omega)
    go_enter Try.func47, Try.ntmps47
    go_wp2
    go_ret
    exact ⟨ret_int (by omega), rfl⟩
theorem l01Div_par (b : Int) (w : World) (h3 : 0 < b) (h4 : b ≤ 5760000000000000000) :
    Calls Try.prog 47 #[.int .i64 10000000000000000, .int .i64 b] w fun e w' => e = .returned (.int .i64 (dr 10000000000000000 b)) ∧ w = w' := by
  by_cases h : b ≤ 4611686018427387000
  · exact l01Div_any _ _ _ (by omega) (by omega) h3 h
  · exact l01Div_big _ _ (by omega) h4
set_option maxHeartbeats 400000 in
theorem l08Parallel_any (A : Option Addr) (n c : Nat) (xs : List Int) (w : World) (hr : Reads w w.heap.size 1 A n (ints xs)) (hn1 : 1 ≤ n) (hn : n ≤ 24) (hx : ∀ x ∈ xs, isRes x = true) :
    Calls Try.prog 31 #[.slice A n c] w fun e w' => e = .returned (.int .i64 (par xs)) ∧ w = w' := by
  have HL := Lib.hid (ints_len hr)
  have HXX := Lib.hid hx
  clear hx
  go_enter Try.func31, Try.ntmps31
  go_wp2
  go_loop [3, 4] (fun s i => ∃ k : Nat, k ≤ n ∧ i = .int .i64 k ∧ s = .int .i64 (condSum (xs.take k))) (fun _ i => n - (intOf i).toNat)
  case atStart => exact ⟨0, by omega, rfl, rfl⟩
  case round =>
    obtain ⟨k, hk, rfl, rfl⟩ := hrel
    obtain ⟨s1, s2⟩ := condSum_take (xs := xs) (k := k) (by rw [HL.out]; exact hn) HXX.out
    by_cases hlt : k < n
    · obtain ⟨ad, u, rfl, had, hx, hc⟩ := hr.at_ hlt
      obtain ⟨b, hb, rfl⟩ := ints_at hx
      have HX := Lib.hid (condSum_snoc hb)
      have hres := HXX.out b (mem_of_at hb)
      obtain ⟨s3, s4⟩ := cond_bnd hres
      have HR := Lib.hid hres
      clear hb hx hres
      go_wp2_with (go_at_call 45; refine (l08Conductance_any _ _ HR.out).mono ?_; rintro e w' ⟨rfl, rfl⟩)
      go_round
      case rel => exact ⟨k + 1, by omega, by go_num, by rw [HX.out]⟩
      case measure => simp [intOf]; omega
    · have e : k = n := by omega
      have HT : Hid (xs.take k = xs) := List.take_of_length_le (by rw [HL.out]; omega)
      rw [HT.out] at s1 s2
      rw [HT.out]
      have h1 := (condSum_bnd HXX.out).1
      rw [HL.out] at h1
      have hpos : 1 ≤ condSum xs := by omega
      obtain ⟨q1, q2⟩ := sq_bnd hpos s2
      go_wp2_with (first | (go_at_call 47; refine (l01Div_par _ _ (by omega) (by omega)).mono ?_; rintro e w' ⟨rfl, rfl⟩) | (go_at_call 46; refine (l00Max_any _ _ _).mono ?_; rintro e w' ⟨rfl, rfl⟩))
      go_ret
      exact ⟨ret_int (by unfold par; rw [Int.max_comm]), rfl⟩
set_option maxHeartbeats 400000 in
theorem parallel_any (A : Option Addr) (n c : Nat) (xs : List Int) (w : World) (hr : Reads w w.heap.size 1 A n (ints xs)) (hn1 : 1 ≤ n) (hn : n ≤ 24) (hx : ∀ x ∈ xs, isRes x = true) :
    Calls Try.prog 41 #[.slice A n c] w fun e w' => e = .returned (.int .i64 (par xs)) ∧ Below w.heap.size w w' := by
  have HL := Lib.hid (ints_len hr)
  have HXX := Lib.hid hx
  clear hx
  go_enter Try.func41, Try.ntmps41
  go_wp2
  go_loopw [3, 8] (fun s i wr => ∃ k : Nat, k ≤ n ∧ i = .int .i64 k ∧ s = .int .i64 (condSum (xs.take k)) ∧ Below w.heap.size w wr) (fun _ i _ => n - (intOf i).toNat)
  case atStart => exact ⟨0, by omega, rfl, rfl, Below.refl _ _⟩
  case round =>
    obtain ⟨k, hk, rfl, rfl, hbw⟩ := hrel
    obtain ⟨s1, s2⟩ := condSum_take (xs := xs) (k := k) (by rw [HL.out]; exact hn) HXX.out
    by_cases hlt : k < n
    · obtain ⟨ad, u, rfl, had, hx, hc⟩ := (hr.below hbw).at_ hlt
      obtain ⟨b, hb, rfl⟩ := ints_at hx
      have HX := Lib.hid (condSum_snoc hb)
      have hres := HXX.out b (mem_of_at hb)
      obtain ⟨s3, s4⟩ := cond_bnd hres
      have HR := Lib.hid hres
      clear hb hx hres
      go_wp2_with (go_at_call 52; refine (conductance_any _ _ HR.out).mono ?_; rintro e w1 ⟨rfl, hb1⟩)
      go_roundw
      case rel => exact ⟨k + 1, by omega, by go_num, by rw [HX.out], hbw.trans (hb1.mono hbw.size)⟩
      case measure => simp [intOf]; omega
    · have e : k = n := by omega
      have HT : Hid (xs.take k = xs) := List.take_of_length_le (by rw [HL.out]; omega)
      rw [HT.out] at s1 s2
      rw [HT.out]
      have h1 := (condSum_bnd HXX.out).1
      rw [HL.out] at h1
      have hpos : 1 ≤ condSum xs := by omega
      obtain ⟨q1, q2⟩ := sq_bnd hpos s2
      go_wp2_with (go_at_call 53; refine (divRound_any _ _ _ (by omega) (by omega) (by omega) (by omega)).mono ?_; rintro e w' ⟨rfl, m, rfl⟩)
      all_goals
        go_ret
        exact ⟨ret_int (by unfold par; omega), below_drewN hbw _⟩
def parR (xs : List Int) : Int × Int := if resList xs = true then (par xs, 0) else (0, 2)
theorem parR_y {xs : List Int} (h : resList xs = true) : parR xs = (par xs, 0) := by unfold parR; rw [if_pos h]
theorem parR_n {xs : List Int} (h : resList xs = false) : parR xs = (0, 2) := by unfold parR; rw [h]; rfl
end Go.Proofs.Ytnfallanjndbcaa
