/- The square root, rounded down: plain lemmas. -/
import Derived.Test.YtnfallanjndbcaaPl
namespace Go.Proofs.Ytnfallanjndbcaa
set_option linter.unusedVariables false
set_option linter.unusedSimpArgs false
def rootN : Nat → Nat
  | 0 => 0
  | n + 1 => if (rootN n + 1) * (rootN n + 1) ≤ n + 1 then rootN n + 1 else rootN n
theorem rootN_spec (n : Nat) : rootN n * rootN n ≤ n ∧ n < (rootN n + 1) * (rootN n + 1) := by
  induction n with
  | zero => simp [rootN]
  | succ n ih =>
    unfold rootN
    by_cases h : (rootN n + 1) * (rootN n + 1) ≤ n + 1
    · rw [if_pos h]
      refine ⟨h, ?_⟩
      have e : (rootN n + 1 + 1) * (rootN n + 1 + 1) = (rootN n + 1) * (rootN n + 1) + 2 * (rootN n + 1) + 1 := by
        generalize rootN n + 1 = r
        rw [Nat.add_mul, Nat.mul_add]; omega
      omega
    · rw [if_neg h]; omega
def rootI (n : Int) : Int := (rootN n.toNat : Nat)
theorem rootI_nonneg (n : Int) : 0 ≤ rootI n := by unfold rootI; omega
theorem rootI_le {n m : Int} (hm : 0 ≤ m) : m ≤ rootI n ↔ (m = 0 ∨ m * m ≤ n) := by
  obtain ⟨k, rfl⟩ := Int.eq_ofNat_of_zero_le hm
  obtain ⟨h1, h2⟩ := rootN_spec n.toNat
  unfold rootI
  constructor
  · intro h
    by_cases h0 : k = 0
    · left; omega
    right
    have hk : k ≤ rootN n.toNat := by omega
    have h3 := Nat.mul_le_mul hk hk
    have h4 : k * k ≤ n.toNat := Nat.le_trans h3 h1
    have h5 : 0 < k * k := Nat.mul_pos (by omega) (by omega)
    have e : ((k : Int) * (k : Int)) = ((k * k : Nat) : Int) := by simp
    rw [e]; omega
  · intro h
    rcases h with h | h
    · omega
    have e : ((k : Int) * (k : Int)) = ((k * k : Nat) : Int) := by simp
    rw [e] at h
    have h4 : k * k ≤ n.toNat := by omega
    have h5 : k * k < (rootN n.toNat + 1) * (rootN n.toNat + 1) := by omega
    have h6 : k < rootN n.toNat + 1 := by
      rcases Nat.lt_or_ge k (rootN n.toNat + 1) with h7 | h7
      · exact h7
      · have := Nat.mul_le_mul h7 h7; omega
    omega
theorem rootI_max {n : Int} (h : n ≤ 9223372036854775807) : rootI n ≤ 3037000499 := by
  rcases Int.lt_or_le 3037000499 (rootI n) with h1 | h1
  · have h2 := (rootI_le (n := n) (m := 3037000500) (by omega)).1 (by omega)
    omega
  · exact h1
theorem rootI_bnd {n M m : Int} (hM : 0 ≤ M) (h : n < (M + 1) * (M + 1)) : 0 ≤ rootI n ∧ rootI n ≤ M := by
  refine ⟨rootI_nonneg n, ?_⟩
  rcases Int.lt_or_le M (rootI n) with h1 | h1
  · have h2 := (rootI_le (n := n) (m := M + 1) (by omega)).1 (by omega)
    omega
  · exact h1
theorem rootI_mono {a b : Int} (h : a ≤ b) : rootI a ≤ rootI b := by
  refine (rootI_le (rootI_nonneg a)).2 ?_
  rcases (rootI_le (n := a) (rootI_nonneg a)).1 (Int.le_refl _) with h0 | h0
  · exact .inl h0
  · exact .inr (by omega)
theorem rootI_pos {n : Int} (h : 1 ≤ n) : 1 ≤ rootI n := (rootI_le (by omega)).2 (.inr (by omega))
theorem rootI_neg {n : Int} (h : n < 0) : rootI n = 0 := by
  have h1 := rootI_nonneg n
  rcases (rootI_le (n := n) h1).1 (Int.le_refl _) with h0 | h0
  · exact h0
  · have := Int.mul_nonneg h1 h1; omega
end Go.Proofs.Ytnfallanjndbcaa
