/- Slices of numbers: plain lemmas and the contracts of slices.IndexFunc, ContainsFunc, Clone, Max, Min, of sums and of bounds. -/
import Derived.Test.YtapophggndlhaaaCopy
import Derived.Shelf.Abstract
namespace Go.Proofs.Ytapophggndlhaaa
set_option linter.unusedVariables false
set_option linter.unusedSimpArgs false
open Go.RowKit
section
variable {α : Type}
theorem take_snoc {xs : List α} {k : Nat} {x : α} (h : xs[k]? = some x) : xs.take (k + 1) = xs.take k ++ [x] := by
  rw [List.take_add_one, h]; simp
theorem mem_of_at {xs : List α} {k : Nat} {x : α} (h : xs[k]? = some x) : x ∈ xs := List.mem_of_getElem? h
theorem all_take {xs : List α} {p : α → Bool} {k : Nat} {x : α} (h : xs[k]? = some x) (ha : (xs.take k).all p = true) (hx : p x = true) : (xs.take (k + 1)).all p = true := by
  rw [take_snoc h]; simp [ha, hx]
theorem all_false {xs : List α} {p : α → Bool} {k : Nat} {x : α} (h : xs[k]? = some x) (hx : p x = false) : xs.all p = false := by
  rw [List.all_eq_false]; exact ⟨x, mem_of_at h, by rw [hx]; exact Bool.false_ne_true⟩
theorem all_whole {xs : List α} {p : α → Bool} {n : Nat} (hl : xs.length = n) (ha : (xs.take n).all p = true) : xs.all p = true := by
  rwa [List.take_of_length_le (by omega)] at ha
theorem all_mem {xs : List α} {p : α → Bool} (h : xs.all p = true) {x : α} (hx : x ∈ xs) : p x = true := List.all_eq_true.1 h x hx
/-- The first place at which p holds, or -1. -/
def idxI (p : α → Bool) (xs : List α) : Int := match xs.findIdx? p with | some k => (k : Int) | none => -1
theorem idx_at {p : α → Bool} {xs : List α} {k : Nat} {x : α} (h : xs[k]? = some x) (hx : p x = true) (hb : (xs.take k).any p = false) : idxI p xs = k := by
  have hk : k < xs.length := by
    rcases Nat.lt_or_ge k xs.length with h1 | h1
    · exact h1
    · rw [List.getElem?_eq_none h1] at h; cases h
  have e : xs.findIdx? p = some k := by
    rw [List.findIdx?_eq_some_iff_getElem]
    refine ⟨hk, ?_, fun j hj => ?_⟩
    · rw [List.getElem?_eq_getElem hk] at h
      rw [Option.some.inj h]; exact hx
    · rw [List.any_eq_false] at hb
      have hm : xs[j]'(by omega) ∈ xs.take k := by
        rw [List.mem_take_iff_getElem]
        exact ⟨j, by omega, rfl⟩
      exact hb _ hm
  unfold idxI; rw [e]
theorem idx_none {p : α → Bool} {xs : List α} (hb : xs.any p = false) : idxI p xs = -1 := by
  have e : xs.findIdx? p = none := by
    rw [List.findIdx?_eq_none_iff]
    intro x hx
    rw [List.any_eq_false] at hb
    simpa using hb x hx
  unfold idxI; rw [e]
theorem any_take {xs : List α} {p : α → Bool} {k : Nat} {x : α} (h : xs[k]? = some x) (ha : (xs.take k).any p = false) (hx : p x = false) : (xs.take (k + 1)).any p = false := by
  rw [take_snoc h]; simp [ha, hx]
theorem idx_any {p : α → Bool} {xs : List α} : decide (0 ≤ idxI p xs) = xs.any p := by
  unfold idxI
  cases e : xs.findIdx? p with
  | none =>
    rw [List.findIdx?_eq_none_iff] at e
    have : xs.any p = false := by rw [List.any_eq_false]; intro x hx; rw [e x hx]; exact Bool.false_ne_true
    rw [this]; rfl
  | some k =>
    rw [List.findIdx?_eq_some_iff_getElem] at e
    obtain ⟨hk, hp, _⟩ := e
    have : xs.any p = true := List.any_eq_true.2 ⟨_, List.getElem_mem hk, hp⟩
    rw [this]
    show decide (0 ≤ (k : Int)) = true
    exact decide_eq_true (by omega)
theorem idx_bnd (p : α → Bool) (xs : List α) : -1 ≤ idxI p xs ∧ idxI p xs ≤ xs.length := by
  unfold idxI
  cases e : xs.findIdx? p with
  | none => show -1 ≤ (-1 : Int) ∧ (-1 : Int) ≤ _; omega
  | some k =>
    rw [List.findIdx?_eq_some_iff_getElem] at e
    obtain ⟨hk, _⟩ := e
    show -1 ≤ (k : Int) ∧ (k : Int) ≤ _; omega
theorem any_not {xs : List α} {p : α → Bool} : (!xs.any fun x => !p x) = xs.all p := by
  induction xs with
  | nil => rfl
  | cons x t ih => simp [List.any_cons, List.all_cons, ← ih]
end
def sumI : List Int → Int
  | [] => 0
  | x :: t => x + sumI t
theorem sumI_append (a b : List Int) : sumI (a ++ b) = sumI a + sumI b := by
  induction a with
  | nil => simp [sumI]
  | cons x t ih => simp [sumI, ih]; omega
theorem sumI_snoc {xs : List Int} {k : Nat} {x : Int} (h : xs[k]? = some x) : sumI (xs.take (k + 1)) = sumI (xs.take k) + x := by
  rw [take_snoc h, sumI_append]; simp [sumI]
theorem sumI_bnd {M : Int} (hM : 0 ≤ M) : ∀ {xs : List Int}, (∀ x ∈ xs, -M ≤ x ∧ x ≤ M) → -(M * xs.length) ≤ sumI xs ∧ sumI xs ≤ M * xs.length
  | [], _ => by simp [sumI]
  | x :: t, h => by
    have h1 := h x (by simp)
    have h2 := sumI_bnd hM (xs := t) fun y hy => h y (by simp [hy])
    have e : M * ((x :: t).length : Nat) = M * (t.length : Nat) + M := by
      rw [List.length_cons]; rw [Int.natCast_add, Int.mul_add]; simp
    simp only [sumI, e]
    omega
theorem sumI_take_bnd {xs : List Int} {n k : Nat} {M : Int} (hM : 0 ≤ M) (hl : xs.length = n) (h : ∀ x ∈ xs, -M ≤ x ∧ x ≤ M) : -(M * n) ≤ sumI (xs.take k) ∧ sumI (xs.take k) ≤ M * n := by
  have h1 := sumI_bnd hM (xs := xs.take k) fun x hx => h x (List.mem_of_mem_take hx)
  have h2 : (xs.take k).length ≤ n := by simp; omega
  have h3 : M * ((xs.take k).length : Nat) ≤ M * (n : Nat) := Int.mul_le_mul_of_nonneg_left (by omega) hM
  omega
def allIn (l h : Int) (xs : List Int) : Bool := xs.all fun x => inB x l h
theorem allIn_mem {l h : Int} {xs : List Int} (e : allIn l h xs = true) {x : Int} (hx : x ∈ xs) : l ≤ x ∧ x ≤ h := inB_t (all_mem e hx)
def maxL : List Int → Int
  | [] => 0
  | x :: t => t.foldl max x
def minL : List Int → Int
  | [] => 0
  | x :: t => t.foldl min x
theorem maxL_one {xs : List Int} {x : Int} (h : xs[0]? = some x) : maxL (xs.take 1) = x := by
  cases xs with
  | nil => simp at h
  | cons y t => simp at h; subst h; simp [maxL]
theorem minL_one {xs : List Int} {x : Int} (h : xs[0]? = some x) : minL (xs.take 1) = x := by
  cases xs with
  | nil => simp at h
  | cons y t => simp at h; subst h; simp [minL]
theorem maxL_snoc {xs : List Int} {k : Nat} {x : Int} (hk : 1 ≤ k) (h : xs[k]? = some x) : maxL (xs.take (k + 1)) = max (maxL (xs.take k)) x := by
  rw [take_snoc h]
  obtain ⟨j, rfl⟩ : ∃ j, k = j + 1 := ⟨k - 1, by omega⟩
  cases xs with
  | nil => simp at h
  | cons y t => simp [maxL]
theorem minL_snoc {xs : List Int} {k : Nat} {x : Int} (hk : 1 ≤ k) (h : xs[k]? = some x) : minL (xs.take (k + 1)) = min (minL (xs.take k)) x := by
  rw [take_snoc h]
  obtain ⟨j, rfl⟩ : ∃ j, k = j + 1 := ⟨k - 1, by omega⟩
  cases xs with
  | nil => simp at h
  | cons y t => simp [minL]
theorem foldmax_mem : ∀ (t : List Int) (x : Int), t.foldl max x = x ∨ t.foldl max x ∈ t
  | [], x => .inl rfl
  | y :: t, x => by
    simp only [List.foldl_cons]
    rcases foldmax_mem t (max x y) with h | h
    · rw [h]
      rcases Int.le_total x y with g | g
      · right; simp; omega
      · left; omega
    · right; simp [h]
theorem foldmin_mem : ∀ (t : List Int) (x : Int), t.foldl min x = x ∨ t.foldl min x ∈ t
  | [], x => .inl rfl
  | y :: t, x => by
    simp only [List.foldl_cons]
    rcases foldmin_mem t (min x y) with h | h
    · rw [h]
      rcases Int.le_total x y with g | g
      · left; omega
      · right; simp; omega
    · right; simp [h]
theorem maxL_mem {xs : List Int} (h : 1 ≤ xs.length) : maxL xs ∈ xs := by
  cases xs with
  | nil => simp at h
  | cons x t =>
    rcases foldmax_mem t x with g | g
    · simp only [maxL, g]; simp
    · simp only [maxL]; simp [g]
theorem minL_mem {xs : List Int} (h : 1 ≤ xs.length) : minL xs ∈ xs := by
  cases xs with
  | nil => simp at h
  | cons x t =>
    rcases foldmin_mem t x with g | g
    · simp only [minL, g]; simp
    · simp only [minL]; simp [g]
end Go.Proofs.Ytapophggndlhaaa
