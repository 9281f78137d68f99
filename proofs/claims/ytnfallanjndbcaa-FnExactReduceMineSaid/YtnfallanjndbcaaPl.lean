/- Plain lemmas on whole numbers and lists; nothing of the program is named here. -/
import Derived.Below
namespace Go.Proofs.Ytnfallanjndbcaa
set_option linter.unusedVariables false
set_option linter.unusedSimpArgs false
theorem ediv_eq {a b k : Int} (hb : 0 < b) (h1 : b * k ≤ a) (h2 : a < b * k + b) : a / b = k :=
  ((Int.ediv_emod_unique (a := a) (b := b) (q := k) (r := a - b * k) hb).2 ⟨by omega, by omega, by omega⟩).1

def absI (n : Int) : Int := n.natAbs
theorem absI_nonneg (n : Int) : 0 ≤ absI n := by unfold absI; omega
theorem absI_le {n b : Int} (h1 : -b ≤ n) (h2 : n ≤ b) : absI n ≤ b := by unfold absI; omega
def inB (n l h : Int) : Bool := decide (l ≤ n ∧ n ≤ h)
theorem inB_t {n l h : Int} (e : inB n l h = true) : l ≤ n ∧ n ≤ h := of_decide_eq_true e
theorem inB_f {n l h : Int} (e : inB n l h = false) : ¬ (l ≤ n ∧ n ≤ h) := of_decide_eq_false e
/-- The nearest quotient, halves away from 0. -/
def dr (a b : Int) : Int := if a < 0 then -((b - 2 * a) / (2 * b)) else (2 * a + b) / (2 * b)

theorem two_mul_mul (b k : Int) : 2 * b * k = 2 * (b * k) := by rw [Int.mul_assoc]

theorem tmod_nonpos {a b : Int} (ha : a ≤ 0) : a.tmod b ≤ 0 := by
  have h1 := Int.tmod_nonneg b (show 0 ≤ -a by omega)
  rw [Int.neg_tmod] at h1; omega

theorem dr_up {a b : Int} (hb : 0 < b) (ha : 0 ≤ a) (h : b - absI (a.tmod b) ≤ absI (a.tmod b)) : dr a b = a.tdiv b + 1 := by
  have e := Int.mul_tdiv_add_tmod a b
  have r1 := Int.tmod_lt_of_pos a hb
  have r0 := Int.tmod_nonneg b ha
  unfold dr; rw [if_neg (by omega)]
  unfold absI at h
  generalize a.tmod b = r at *
  generalize a.tdiv b = q at *
  apply ediv_eq (by omega)
  · rw [two_mul_mul, Int.mul_add]; omega
  · rw [two_mul_mul, Int.mul_add]; omega
theorem dr_down {a b : Int} (hb : 0 < b) (ha : a < 0) (h : b - absI (a.tmod b) ≤ absI (a.tmod b)) : dr a b = a.tdiv b - 1 := by
  have e := Int.mul_tdiv_add_tmod a b
  have r1 := Int.lt_tmod_of_pos a hb
  have r0 : a.tmod b ≤ 0 := tmod_nonpos (by omega)
  unfold dr; rw [if_pos ha]
  unfold absI at h
  generalize a.tmod b = r at *
  generalize a.tdiv b = q at *
  have : (b - 2 * a) / (2 * b) = -q + 1 := by
    apply ediv_eq (by omega)
    · rw [two_mul_mul, Int.mul_add, Int.mul_neg]; omega
    · rw [two_mul_mul, Int.mul_add, Int.mul_neg]; omega
  omega
theorem dr_near {a b : Int} (hb : 0 < b) (h : absI (a.tmod b) < b - absI (a.tmod b)) : dr a b = a.tdiv b := by
  have e := Int.mul_tdiv_add_tmod a b
  have r1 := Int.lt_tmod_of_pos a hb
  have r2 := Int.tmod_lt_of_pos a hb
  unfold absI at h
  by_cases ha : a < 0
  · unfold dr; rw [if_pos ha]
    have r0 : a.tmod b ≤ 0 := tmod_nonpos (by omega)
    generalize a.tmod b = r at *
    generalize a.tdiv b = q at *
    have : (b - 2 * a) / (2 * b) = -q := by
      apply ediv_eq (by omega)
      · rw [two_mul_mul, Int.mul_neg]; omega
      · rw [two_mul_mul, Int.mul_neg]; omega
    omega
  · unfold dr; rw [if_neg ha]
    have r0 := Int.tmod_nonneg b (show 0 ≤ a by omega)
    generalize a.tmod b = r at *
    generalize a.tdiv b = q at *
    apply ediv_eq (by omega)
    · rw [two_mul_mul]; omega
    · rw [two_mul_mul]; omega
theorem tdiv_bounds {a b m : Int} (hb : 0 < b) (h1 : -m ≤ a) (h2 : a ≤ m) : -m ≤ a.tdiv b ∧ a.tdiv b ≤ m := by
  have h := Int.natAbs_tdiv_le_natAbs a b
  omega
/-- A quotient of a number that is not below 0 is no greater. -/
theorem ediv_bounds {a b m : Int} (ha : 0 ≤ a) (hb : 0 < b) (h : a ≤ m) : 0 ≤ a / b ∧ a / b ≤ m := by
  refine ⟨Int.ediv_nonneg ha (by omega), Int.le_trans (Int.ediv_le_self b ha) h⟩
theorem mul_bnd {x y X Y M : Int} (h1 : -X ≤ x) (h2 : x ≤ X) (h3 : -Y ≤ y) (h4 : y ≤ Y) (hM : X * Y ≤ M) : -M ≤ x * y ∧ x * y ≤ M := by
  have hX : x.natAbs ≤ X.natAbs := by omega
  have hY : y.natAbs ≤ Y.natAbs := by omega
  have hX0 : 0 ≤ X := by omega
  have hY0 : 0 ≤ Y := by omega
  have h := Nat.mul_le_mul hX hY
  rw [← Int.natAbs_mul, ← Int.natAbs_mul] at h
  have hXY : 0 ≤ X * Y := Int.mul_nonneg hX0 hY0
  omega
theorem mul_pos_bnd {x y X Y M : Int} (h1 : 0 ≤ x) (h2 : x ≤ X) (h3 : 0 ≤ y) (h4 : y ≤ Y) (hM : X * Y ≤ M) : 0 ≤ x * y ∧ x * y ≤ M :=
  ⟨Int.mul_nonneg h1 h3, (mul_bnd (by omega) h2 (by omega) h4 hM).2⟩
theorem dr_nonneg {a b : Int} (ha : 0 ≤ a) (hb : 0 < b) : 0 ≤ dr a b := by
  unfold dr; rw [if_neg (by omega)]
  exact Int.ediv_nonneg (by omega) (by omega)
theorem half_le {a b : Int} (ha : 0 ≤ a) (hb : 0 < b) : (2 * a + b) / (2 * b) ≤ a := by
  apply Int.le_of_lt_add_one
  apply Int.ediv_lt_of_lt_mul (by omega)
  have h : a * 1 ≤ a * b := Int.mul_le_mul_of_nonneg_left (by omega) ha
  have e : (a + 1) * (2 * b) = 2 * (a * b) + 2 * b := by
    rw [Int.add_mul, Int.one_mul, Int.mul_left_comm]
  rw [e]; omega
theorem dr_bnd {a b m : Int} (hb : 0 < b) (h1 : -m ≤ a) (h2 : a ≤ m) : -m ≤ dr a b ∧ dr a b ≤ m := by
  by_cases ha : a < 0
  · have h := half_le (a := -a) (by omega) hb
    have h0 := Int.ediv_nonneg (a := 2 * (-a) + b) (b := 2 * b) (by omega) (by omega)
    have e : dr a b = -((2 * (-a) + b) / (2 * b)) := by
      unfold dr; rw [if_pos ha]
      have e2 : b - 2 * a = 2 * (-a) + b := by omega
      rw [e2]
    omega
  · have h := half_le (a := a) (by omega) hb
    have h0 := Int.ediv_nonneg (a := 2 * a + b) (b := 2 * b) (by omega) (by omega)
    have e : dr a b = (2 * a + b) / (2 * b) := by unfold dr; rw [if_neg ha]
    omega
theorem dr_scale {a b m : Int} (hb : 0 < b) (h1 : -(m * b) ≤ a) (h2 : a ≤ m * b) : -m ≤ dr a b ∧ dr a b ≤ m := by
  have key : ∀ x : Int, x ≤ m * b → (2 * x + b) / (2 * b) ≤ m := by
    intro x hx
    apply Int.le_of_lt_add_one
    apply Int.ediv_lt_of_lt_mul (by omega)
    have e : (m + 1) * (2 * b) = 2 * (m * b) + 2 * b := by rw [Int.add_mul, Int.one_mul, Int.mul_left_comm]
    rw [e]; omega
  by_cases ha : a < 0
  · have h := key (-a) (by omega)
    have h0 := Int.ediv_nonneg (a := 2 * (-a) + b) (b := 2 * b) (by omega) (by omega)
    have e : dr a b = -((2 * (-a) + b) / (2 * b)) := by
      unfold dr; rw [if_pos ha]
      have e2 : b - 2 * a = 2 * (-a) + b := by omega
      rw [e2]
    omega
  · have h := key a h2
    have h0 := Int.ediv_nonneg (a := 2 * a + b) (b := 2 * b) (by omega) (by omega)
    have e : dr a b = (2 * a + b) / (2 * b) := by unfold dr; rw [if_neg ha]
    omega
/-- All of the first n places meet p. -/
def allUpto (n : Nat) (p : Nat → Bool) : Bool := (List.range n).all p
theorem allUpto_t {n : Nat} {p : Nat → Bool} (h : ∀ k, k < n → p k = true) : allUpto n p = true := by
  unfold allUpto; rw [List.all_eq_true]; intro k hk; exact h k (List.mem_range.1 hk)
theorem allUpto_f {n k : Nat} {p : Nat → Bool} (hk : k < n) (h : p k = false) : allUpto n p = false := by
  unfold allUpto; rw [List.all_eq_false]; exact ⟨k, List.mem_range.2 hk, by rw [h]; exact Bool.false_ne_true⟩
theorem allUpto_get {n k : Nat} {p : Nat → Bool} (h : allUpto n p = true) (hk : k < n) : p k = true := by
  unfold allUpto at h; rw [List.all_eq_true] at h; exact h k (List.mem_range.2 hk)
def nameB (c : UInt8) : Bool := inB c.toNat 97 122 || inB c.toNat 48 57
def isName (s : ByteArray) : Bool := decide (1 ≤ s.size ∧ s.size ≤ 10) && inB (s[0]!).toNat 97 122 && allUpto s.size fun k => nameB s[k]!
theorem isName_len {s : ByteArray} (h : ¬ (1 ≤ s.size ∧ s.size ≤ 10)) : isName s = false := by
  unfold isName; rw [decide_eq_false h]; rfl
theorem isName_head {s : ByteArray} (h : inB (s[0]!).toNat 97 122 = false) : isName s = false := by
  unfold isName; rw [h]; simp
theorem isName_rest {s : ByteArray} (h : 1 ≤ s.size ∧ s.size ≤ 10) (h1 : inB (s[0]!).toNat 97 122 = true) : isName s = allUpto s.size fun k => nameB s[k]! := by
  unfold isName; rw [h1, decide_eq_true h]; simp
theorem isName_size {s : ByteArray} (h : isName s = true) : 1 ≤ s.size ∧ s.size ≤ 10 := by
  unfold isName at h
  simp only [Bool.and_eq_true, decide_eq_true_eq] at h
  exact h.1.1
theorem byte_at {s : ByteArray} {k : Nat} (h : k < s.size) : s[k]! = s[k] := getElem!_pos s k h
end Go.Proofs.Ytnfallanjndbcaa
