/- Contracts of the test of a mine. -/
import Derived.Test.YtpomecflbjedgaaAwy
import Derived.Test.YtpomecflbjedgaaOwn
import Derived.Test.YtpomecflbjedgaaNb
namespace Go.Proofs.Ytpomecflbjedgaa
set_option linter.unusedVariables false
set_option linter.unusedSimpArgs false
open Go.RowKit
def sLt (a b : ByteArray) : Bool := Op.bytesLess a.toList b.toList
theorem leq_lt : ∀ a b : List UInt8, (Op.bytesLess b a || b == a) = !Op.bytesLess a b
  | [], [] => by simp [Op.bytesLess]
  | [], _ :: _ => by simp [Op.bytesLess]
  | _ :: _, [] => by simp [Op.bytesLess]
  | x :: a, y :: b => by
    have ih := leq_lt a b
    simp only [Op.bytesLess, List.cons_beq_cons]
    rcases Nat.lt_trichotomy x.toNat y.toNat with h | h | h
    · have h1 : x < y := h
      have h2 : ¬ y < x := fun h3 => by have : y.toNat < x.toNat := h3; omega
      have h3 : (y == x) = false := beq_eq_false_iff_ne.2 (fun e => by rw [e] at h; omega)
      simp [h1, h2, h3]
    · obtain rfl : x = y := UInt8.toNat_inj.1 h
      have h2 : ¬ x < x := fun h3 => by have : x.toNat < x.toNat := h3; omega
      simp only [h2, decide_false, BEq.rfl, Bool.true_and, Bool.false_or]
      exact ih
    · have h1 : y < x := h
      have h2 : ¬ x < y := fun h3 => by have : x.toNat < y.toNat := h3; omega
      have h3 : (x == y) = false := beq_eq_false_iff_ne.2 (fun e => by rw [e] at h; omega)
      simp [h1, h2, h3]
def idAt (xs : List Awy) (k : Nat) : ByteArray := (xs.getD k default).s
theorem idAt_eq {xs : List Awy} {k : Nat} {x : Awy} (h : xs[k]? = some x) : idAt xs k = x.s := by unfold idAt; rw [List.getD_eq_getElem?_getD, h]; rfl
def mnAt (J : Int) (xs : List Awy) (k : Nat) : Bool :=
  match xs[k]? with
  | some x => awyOk x && (inB x.a 0 (J - 1) && inB x.b 0 (J - 1)) && (decide (k = 0) || sLt (idAt xs (k - 1)) x.s)
  | none => false
theorem mn_eq {J : Int} {xs : List Awy} {k : Nat} {x : Awy} (h : xs[k]? = some x) : mnAt J xs k = (awyOk x && (inB x.a 0 (J - 1) && inB x.b 0 (J - 1)) && (decide (k = 0) || sLt (idAt xs (k - 1)) x.s)) := by unfold mnAt; rw [h]
theorem mn_o {J : Int} {xs : List Awy} {k : Nat} {x : Awy} (h : xs[k]? = some x) (h0 : awyOk x = false) : mnAt J xs k = false := by rw [mn_eq h, h0]; simp
theorem mn_a {J : Int} {xs : List Awy} {k : Nat} {x : Awy} (h : xs[k]? = some x) (h0 : (inB x.a 0 (J - 1) && inB x.b 0 (J - 1)) = false) : mnAt J xs k = false := by rw [mn_eq h, h0]; simp
theorem mn_p {J : Int} {xs : List Awy} {k j : Nat} {x y : Awy} (h : xs[k]? = some x) (hk : k = j + 1) (hy : xs[j]? = some y) (h0 : sLt y.s x.s = false) : mnAt J xs k = false := by
  rw [mn_eq h, show k - 1 = j by omega, idAt_eq hy, h0, decide_eq_false (show ¬ k = 0 by omega)]; simp
theorem mn_z {J : Int} {xs : List Awy} {k : Nat} {x : Awy} (h : xs[k]? = some x) (h0 : awyOk x = true) (h1 : (inB x.a 0 (J - 1) && inB x.b 0 (J - 1)) = true) (hk : k = 0) : mnAt J xs k = true := by rw [mn_eq h, h0, h1, decide_eq_true hk]; rfl
theorem mn_y {J : Int} {xs : List Awy} {k j : Nat} {x y : Awy} (h : xs[k]? = some x) (h0 : awyOk x = true) (h1 : (inB x.a 0 (J - 1) && inB x.b 0 (J - 1)) = true) (hk : k = j + 1) (hy : xs[j]? = some y) (h2 : sLt y.s x.s = true) : mnAt J xs k = true := by
  rw [mn_eq h, h0, h1, show k - 1 = j by omega, idAt_eq hy, h2]; simp
def mineOk (J : Int) (xs : List Awy) : Bool := inB J 1 16 && decide (xs.length ≤ 24) && allUpto xs.length (mnAt J xs)
theorem mineOk_j {J : Int} {xs : List Awy} (h : inB J 1 16 = false) : mineOk J xs = false := by unfold mineOk; rw [h]; rfl
theorem mineOk_l {J : Int} {xs : List Awy} (h : 24 < xs.length) : mineOk J xs = false := by unfold mineOk; rw [decide_eq_false (show ¬ xs.length ≤ 24 by omega)]; simp
theorem mineOk_k {J : Int} {xs : List Awy} {k : Nat} (hk : k < xs.length) (h : mnAt J xs k = false) : mineOk J xs = false := by unfold mineOk; rw [allUpto_f hk h, Bool.and_false]
theorem mineOk_y {J : Int} {xs : List Awy} (h : inB J 1 16 = true) (h1 : ∀ k, k < xs.length → mnAt J xs k = true) : mineOk J xs = decide (xs.length ≤ 24) := by unfold mineOk; rw [h, allUpto_t h1]; simp
theorem mineOk_t {J : Int} {xs : List Awy} (h : mineOk J xs = true) : (1 ≤ J ∧ J ≤ 16) ∧ xs.length ≤ 24 ∧ ∀ x ∈ xs, awyOk x = true ∧ (0 ≤ x.a ∧ x.a < J) ∧ (0 ≤ x.b ∧ x.b < J) := by
  unfold mineOk at h
  simp only [Bool.and_eq_true, decide_eq_true_eq] at h
  refine ⟨inB_t h.1.1, h.1.2, fun x hx => ?_⟩
  obtain ⟨k, hk⟩ := List.getElem?_of_mem hx
  have hkl : k < xs.length := by
    rcases Nat.lt_or_ge k xs.length with h1 | h1
    · exact h1
    · rw [List.getElem?_eq_none h1] at hk; cases hk
  have hm := allUpto_get h.2 hkl
  rw [mn_eq hk] at hm
  simp only [Bool.and_eq_true] at hm
  have h1 := inB_t hm.1.2.1
  have h2 := inB_t hm.1.2.2
  exact ⟨hm.1.1, by omega, by omega⟩
theorem upto_succ1 {f : Nat → Bool} {k : Nat} (h : ∀ j, j < k → f j = true) (h1 : f k = true) : ∀ j, j < k + 1 → f j = true := by
  intro j hj
  rcases Nat.lt_succ_iff_lt_or_eq.1 hj with h2 | rfl
  · exact h j h2
  · exact h1
end Go.Proofs.Ytpomecflbjedgaa
