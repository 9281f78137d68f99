/- Contracts of the searches along a fan's curve: the last flow at a pressure, the working flow, the power. -/
import Derived.Test.YtpomecflbjedgaaPrs
import Derived.Test.YtpomecflbjedgaaReg
import Derived.Test.YtpomecflbjedgaaNb
namespace Go.Proofs.Ytpomecflbjedgaa
set_option linter.unusedVariables false
set_option linter.unusedSimpArgs false
open Go.RowKit
def lastB (cs : List (List Int)) (p x : Int) : Bool := decide (prT cs x < p)
/-- The first flow at which the pressure is below p; 100001 if there is none. -/
def lastP (cs : List (List Int)) (p : Int) : Int := firstP (lastB cs p) 0 100001
def lastV (cs : List (List Int)) (p : Int) : Int := if lastP cs p = 0 then 0 else lastP cs p - 1
theorem firstP_ge {p : Int → Bool} : ∀ (n : Nat) (lo : Int), lo ≤ firstP p lo n ∧ firstP p lo n ≤ lo + n
  | 0, lo => by simp only [firstP]; omega
  | n + 1, lo => by
    have h := firstP_ge (p := p) n (lo + 1)
    simp only [firstP]
    split <;> omega
theorem firstP_pos {p : Int → Bool} (n : Nat) (h0 : p 0 = false) : 1 ≤ firstP p 0 (n + 1) ∧ firstP p 0 (n + 1) ≤ (n : Int) + 1 := by
  have h1 := firstP_ge (p := p) n (0 + 1)
  simp only [firstP]
  rw [if_neg (by rw [h0]; exact Bool.false_ne_true)]
  omega
theorem ret_ib {k : IntKind} {a b : Int} {c d : Bool} (h : a = b) (h' : c = d) : Ending.returned (.tuple #[.int k a, .bool c]) = .returned (.tuple #[.int k b, .bool d]) := by rw [h, h']
theorem lastP_bnd (cs : List (List Int)) (p : Int) : 0 ≤ lastP cs p ∧ lastP cs p ≤ 100001 := by
  have h := firstP_ge (p := lastB cs p) 100001 0
  unfold lastP; omega
theorem last_mono {cs : List (List Int)} (h : crvOk cs = true) (p : Int) : ∀ a b, 0 ≤ a → a ≤ b → b ≤ 100000 → lastB cs p a = true → lastB cs p b = true := by
  intro a b _ hab _ ha
  have h1 := of_decide_eq_true ha
  have h2 := prT_mono h hab
  exact decide_eq_true (by omega)
def wrkB (cs : List (List Int)) (r x : Int) : Bool := decide (prT cs x < drop r x)
def wrkP (cs : List (List Int)) (r : Int) : Int := firstP (wrkB cs r) 0 100001
def wrkV (cs : List (List Int)) (r : Int) : Int := wrkP cs r - 1
theorem drop_mono {r : Int} (hr : isRes r = true) {a b : Int} (ha : 0 ≤ a) (hab : a ≤ b) : drop r a ≤ drop r b := by
  have h0 := isRes_t hr
  unfold drop
  apply dr_mono (by omega)
  have hA : absI a = a := by unfold absI; omega
  have hB : absI b = b := by unfold absI; omega
  rw [hA, hB]
  have h1 : r * a ≤ r * b := Int.mul_le_mul_of_nonneg_left hab (by omega)
  have h2 : 0 ≤ r * a := Int.mul_nonneg (by omega) ha
  exact Int.mul_le_mul h1 hab ha (by omega)
theorem wrk_mono {cs : List (List Int)} (h : crvOk cs = true) {r : Int} (hr : isRes r = true) : ∀ a b, 0 ≤ a → a ≤ b → b ≤ 100000 → wrkB cs r a = true → wrkB cs r b = true := by
  intro a b ha0 hab _ ha
  have h1 := of_decide_eq_true ha
  have h2 := prT_mono h hab
  have h3 := drop_mono hr ha0 hab
  exact decide_eq_true (by omega)
theorem drop_zero (r : Int) : drop r 0 = 0 := by
  unfold drop; rw [Int.mul_zero, Int.zero_mul]; rfl
theorem wrk_zero {cs : List (List Int)} (h : crvOk cs = true) (r : Int) : wrkB cs r 0 = false := by
  have h1 := prT_bnd h 0
  have h2 := drop_zero r
  exact decide_eq_false (by omega)
theorem wrkP_bnd {cs : List (List Int)} (h : crvOk cs = true) (r : Int) : 1 ≤ wrkP cs r ∧ wrkP cs r ≤ 100001 := by
  have h1 : 1 ≤ wrkP cs r ∧ wrkP cs r ≤ (100000 : Nat) + 1 := firstP_pos 100000 (wrk_zero h r)
  omega
theorem wrkV_bnd {cs : List (List Int)} (h : crvOk cs = true) (r : Int) : 0 ≤ wrkV cs r ∧ wrkV cs r ≤ 100000 := by
  have := wrkP_bnd h r
  unfold wrkV; omega
theorem isFlow_of {x : Int} (h1 : -100000 ≤ x) (h2 : x ≤ 100000) : isFlow x = true := decide_eq_true (by omega)
def pwr (cs : List (List Int)) (q : Int) : Int := dr (prT cs q * absI q) 100
theorem pwr_in {cs : List (List Int)} (h : crvOk cs = true) {q : Int} (h1 : -100000 ≤ q) (h2 : q ≤ 100000) : 0 ≤ prT cs q * absI q ∧ prT cs q * absI q ≤ 1000000000 := by
  have h3 := prT_bnd h q
  exact mul_pos_bnd (X := 10000) (Y := 100000) h3.1 h3.2 (absI_nonneg q) (absI_le (by omega) h2) (by omega)
end Go.Proofs.Ytpomecflbjedgaa
