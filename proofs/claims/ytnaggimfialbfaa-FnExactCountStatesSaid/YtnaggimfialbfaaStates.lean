/- Contracts of the texts of states. -/
import Derived.Test.YtnaggimfialbfaaNum
import Derived.Test.YtnaggimfialbfaaCopy
namespace Go.Proofs.Ytnaggimfialbfaa
set_option linter.unusedVariables false
set_option linter.unusedSimpArgs false
open Go.RowKit
def stB (b : Bool) : UInt8 := if b then 111 else 120
def statesL (xs : List Bool) : List UInt8 := xs.map stB
def statesT (n : Nat) (xs : List Bool) : ByteArray := ⟨(if n ≤ 8 then statesL xs else []).toArray⟩
theorem statesT_y {n : Nat} {xs : List Bool} (h : n ≤ 8) : statesT n xs = ⟨(statesL xs).toArray⟩ := by unfold statesT; rw [if_pos h]
theorem statesT_n {n : Nat} {xs : List Bool} (h : ¬ n ≤ 8) : statesT n xs = ⟨#[]⟩ := by unfold statesT; rw [if_neg h]
theorem states_snoc {xs : List Bool} {k : Nat} {b : Bool} (h : xs[k]? = some b) : statesL (xs.take (k + 1)) = statesL (xs.take k) ++ [stB b] := by
  unfold statesL
  rw [List.take_add_one, h]; simp
theorem ret_str {a b : ByteArray} (h : a = b) : Ending.returned (.string a) = .returned (.string b) := by rw [h]
theorem states_len {xs : List Bool} {n k : Nat} (h : xs.length = n) : (statesL (xs.take k)).length ≤ n := by
  unfold statesL; simp; omega
theorem states_all {xs : List Bool} {n : Nat} (h : xs.length = n) : xs.take n = xs := List.take_of_length_le (by omega)
theorem str_snoc (l : List UInt8) (c : UInt8) : (⟨l.toArray⟩ : ByteArray) ++ ⟨#[c]⟩ = ⟨(l ++ [c]).toArray⟩ := by
  show (⟨l.toArray⟩ : ByteArray).append ⟨#[c]⟩ = _
  exact ByteArray.ext (by simp [ByteArray.data_append])
def isOx (c : UInt8) : Bool := c == 111 || c == 120
def readL (l : List UInt8) : List Bool := l.map fun c => c == 111
def rdOk (s : ByteArray) : Bool := decide (s.size ≤ 8) && s.data.toList.all isOx
def rdR (s : ByteArray) : List Bool × Bool := if rdOk s = true then (readL s.data.toList, true) else ([], false)
theorem rdR_y {s : ByteArray} (h : rdOk s = true) : rdR s = (readL s.data.toList, true) := by unfold rdR; rw [if_pos h]
theorem rdR_n {s : ByteArray} (h : rdOk s = false) : rdR s = ([], false) := by unfold rdR; rw [h]; rfl
theorem bytes_len (s : ByteArray) : s.data.toList.length = s.size := Array.length_toList
theorem at_byte {s : ByteArray} {k : Nat} (h : k < s.size) : s.data.toList[k]? = some s[k] := by
  rw [List.getElem?_eq_getElem (by rw [bytes_len]; exact h)]; rfl
theorem readL_at {s : ByteArray} {k : Nat} (h : k < s.size) : (readL s.data.toList)[k]? = some (s[k] == 111) := by
  unfold readL; rw [List.getElem?_map, at_byte h]; rfl
theorem readL_len (s : ByteArray) : (readL s.data.toList).length = s.size := by unfold readL; rw [List.length_map]; exact bytes_len s
theorem rd_take {s : ByteArray} {k : Nat} (h : k < s.size) : (readL s.data.toList).take (k + 1) = (readL s.data.toList).take k ++ [s[k] == 111] := by
  rw [List.take_add_one, readL_at h]; rfl
theorem byte_eq {c : UInt8} {n : Nat} (hn : n < 256) : ((c.toNat : Int) == (n : Int)) = (c == UInt8.ofNat n) := by
  rw [Bool.eq_iff_iff, beq_iff_eq, beq_iff_eq]
  constructor
  · intro h
    apply UInt8.toNat_inj.1
    rw [UInt8.toNat_ofNat']
    omega
  · intro h
    subst h
    rw [UInt8.toNat_ofNat']
    omega
theorem byte_o (c : UInt8) : ((c.toNat : Int) == 111) = (c == 111) := byte_eq (n := 111) (by omega)
theorem byte_x (c : UInt8) : ((c.toNat : Int) == 120) = (c == 120) := byte_eq (n := 120) (by omega)
theorem statesL_readL {l : List UInt8} : statesL (readL l) = l ↔ l.all isOx = true := by
  induction l with
  | nil => simp [statesL, readL]
  | cons c t ih =>
    have e : statesL (readL (c :: t)) = stB (c == 111) :: statesL (readL t) := rfl
    rw [e, List.cons.injEq, ih, List.all_cons, Bool.and_eq_true]
    refine and_congr_left fun _ => ?_
    unfold stB isOx
    cases h : (c == 111) with
    | true => simp at h; subst h; simp
    | false =>
      simp
      constructor
      · intro h; exact h.symm
      · intro h; exact h.symm
theorem bytes_ext {a : ByteArray} {l : List UInt8} : ((⟨l.toArray⟩ : ByteArray) = a) ↔ l = a.data.toList := by
  constructor
  · rintro rfl; rfl
  · intro h; subst h; rfl
end Go.Proofs.Ytnaggimfialbfaa
