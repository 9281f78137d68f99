/- Numbers in decimal: plain laws. -/
import Derived.Lib.ItoaMem
import Derived.Laws.BytesArg
namespace Go.Proofs.YtdooajiobpjihaaDoor
set_option linter.unusedVariables false
set_option linter.unusedSimpArgs false
/-- The decimal digits of a number, the first ahead; none for 0. -/
def dgs (m : Int) : List Int := if h : m = 0 then [] else dgs (m.tdiv 10) ++ [48 + ((m.tmod 10).natAbs : Int)]
termination_by m.natAbs
decreasing_by
  rw [Int.natAbs_tdiv]
  show m.natAbs / 10 < m.natAbs
  omega
theorem dgs_z : dgs 0 = [] := by rw [dgs, dif_pos rfl]
theorem dgs_s {m : Int} (h : m ≠ 0) : dgs m = dgs (m.tdiv 10) ++ [48 + ((m.tmod 10).natAbs : Int)] := by rw [dgs, dif_neg h]
def nums (l : List UInt8) : List Int := l.map fun b => (b.toNat : Int)
theorem str_nums (l : List UInt8) : (strOfNums (nums l)).data.toList = l := by
  rw [strOfNums_data]; unfold nums; rw [List.map_map]
  conv => rhs; rw [← List.map_id l]
  refine List.map_congr_left fun b _ => ?_
  simp
theorem dgs_dec : ∀ (u : Nat) (m : Int), m.natAbs = u → m ≠ 0 → dgs m = nums (Lib.decDigits u) := by
  intro u
  induction u using Nat.strongRecOn with
  | _ u ih =>
    intro m hm h0
    have e1 : (m.tdiv 10).natAbs = u / 10 := by rw [Int.natAbs_tdiv, hm]; rfl
    have e2 : (m.tmod 10).natAbs = u % 10 := by rw [Int.natAbs_tmod, hm]; rfl
    rw [dgs_s h0, e2]
    by_cases h : u < 10
    · have h1 : m.tdiv 10 = 0 := by omega
      rw [h1, dgs_z, Lib.decDigits, dif_pos h]
      simp [nums]
      omega
    · have h1 : m.tdiv 10 ≠ 0 := by omega
      have hd : Lib.decDigits u = Lib.decDigits (u / 10) ++ [UInt8.ofNat (48 + u % 10)] := by conv => lhs; rw [Lib.decDigits, dif_neg h]
      rw [ih (u / 10) (by omega) _ e1 h1, hd]
      unfold nums
      rw [List.map_append]
      congr 1
      simp
      omega
/-- A number in decimal. -/
def decI (n : Int) : List Int := if n = 0 then [48] else (if n < 0 then [45] else []) ++ dgs n
theorem decI_itoa (n : Int) : decI n = nums (Lib.itoa n) := by
  unfold decI
  by_cases h : n = 0
  · subst h
    rw [if_pos rfl]
    simp [Lib.itoa, Lib.decDigits, nums]
  · rw [if_neg h]
    rw [dgs_dec n.natAbs n rfl h]
    unfold Lib.itoa
    by_cases h1 : n < 0
    · rw [if_pos h1, if_pos h1]; simp [nums]
    · rw [if_neg h1, if_neg h1, show n.natAbs = n.toNat by omega]; simp [nums]
def decS (n : Int) : ByteArray := strOfNums (decI n)
theorem decS_data (n : Int) : (decS n).data.toList = Lib.itoa n := by unfold decS; rw [decI_itoa, str_nums]
theorem ba_ext {a b : ByteArray} (h : a.data.toList = b.data.toList) : a = b := by
  cases a; cases b; congr; exact Array.toList_inj.1 h
end Go.Proofs.YtdooajiobpjihaaDoor
