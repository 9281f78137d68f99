/- Contracts of the two regulators. -/
import Derived.Test.YtnfallanjndbcaaReg
import Derived.Deep.RegionWith
import Derived.Deep.RegionHeld3
namespace Go.Proofs.Ytnfallanjndbcaa
set_option linter.unusedVariables false
set_option linter.unusedSimpArgs false
open Go.RowKit
def regP (r q d x : Int) : Bool := decide (d ≤ drop (r + x) q)
def regV (r q d : Int) : Int := firstP (regP r q d) 0 (1000000 - r + 1).toNat
def regOk (r q d : Int) : Bool := isRes r && inB q 1 100000 && inB d 0 1000000
def regR (r q d : Int) : Int × Int := if regOk r q d = true then orNF (regV r q d) (decide (regV r q d ≤ 1000000 - r)) else (0, 2)
theorem reg_mono {r q d : Int} (hr : isRes r = true) (hq : inB q 1 100000 = true) : ∀ a b, 0 ≤ a → a ≤ b → b ≤ 1000000 - r → regP r q d a = true → regP r q d b = true := by
  intro a b ha hab hb h
  have h1 := inB_t hq
  have h0 := isRes_t hr
  unfold regP at *
  have h2 := of_decide_eq_true h
  apply decide_eq_true
  refine Int.le_trans h2 ?_
  unfold drop
  apply dr_mono (by omega)
  have hA : absI q = q := by unfold absI; omega
  rw [hA]
  have h3 : (r + a) * q ≤ (r + b) * q := Int.mul_le_mul_of_nonneg_right (by omega) (by omega)
  exact Int.mul_le_mul_of_nonneg_right h3 (by omega)
theorem flow_of {q : Int} (h : inB q 1 100000 = true) : isFlow q = true := decide_eq_true (by have := inB_t h; omega)
theorem res_add {r x : Int} (hr : isRes r = true) (h1 : 0 ≤ x) (h2 : x ≤ 1000000 - r) : isRes (r + x) = true := decide_eq_true (by have := isRes_t hr; omega)
theorem firstP_at {p : Int → Bool} {m v : Int} (hm : 0 ≤ m) (h1 : 0 ≤ v) (h2 : v ≤ m + 1) (h3 : ∀ x, 0 ≤ x → x < v → p x = false) (h4 : v ≤ m → p v = true) : firstP p 0 (m + 1).toNat = v :=
  firstP_eq h1 (by omega) h3 (fun h => h4 (by omega))
theorem dr_anti {n c c' : Int} (hn : 0 ≤ n) (hc : 0 < c) (h : c ≤ c') : dr n c' ≤ dr n c := by
  unfold dr
  rw [if_neg (by omega), if_neg (by omega)]
  have hk0 := Int.ediv_nonneg (a := 2 * n + c') (b := 2 * c') (by omega) (by omega)
  have hm := Int.mul_ediv_self_le (x := 2 * n + c') (k := 2 * c') (by omega)
  generalize (2 * n + c') / (2 * c') = k at *
  apply Int.le_ediv_of_mul_le (by omega)
  by_cases h0 : k = 0
  · subst h0; omega
  · have h1 : c * (2 * k - 1) ≤ c' * (2 * k - 1) := Int.mul_le_mul_of_nonneg_right h (by omega)
    have e1 : c * (2 * k - 1) = k * (2 * c) - c := by rw [Int.mul_sub, Int.mul_one, ← Int.mul_assoc, Int.mul_comm c 2, Int.mul_comm]
    have e2 : c' * (2 * k - 1) = 2 * c' * k - c' := by rw [Int.mul_sub, Int.mul_one, ← Int.mul_assoc, Int.mul_comm c' 2]
    omega
def rshP (a b s x : Int) : Bool := decide (share (a + x) b ≤ s)
def rshV (a b s : Int) : Int := firstP (rshP a b s) 0 (1000000 - a + 1).toNat
def rshOk (a b s : Int) : Bool := isRes a && isRes b && inB s 1 999
def rshR (a b s : Int) : Int × Int := if rshOk a b s = true then orNF (rshV a b s) (decide (rshV a b s ≤ 1000000 - a)) else (0, 2)
theorem rsh_mono {a b s : Int} (ha : isRes a = true) (hb : isRes b = true) : ∀ x y, 0 ≤ x → x ≤ y → y ≤ 1000000 - a → rshP a b s x = true → rshP a b s y = true := by
  intro x y hx hxy hy h
  unfold rshP at *
  have h2 := of_decide_eq_true h
  apply decide_eq_true
  refine Int.le_trans ?_ h2
  have m1 := mroot_bnd (res_add ha hx (by omega))
  have m2 := mroot_bnd hb
  have m3 : rootI (1000000 * (a + x)) ≤ rootI (1000000 * (a + y)) := rootI_mono (by omega)
  exact dr_anti (by omega) (by omega) (by omega)
end Go.Proofs.Ytnfallanjndbcaa
