/- Contracts of the texts of states. -/
import Derived.Test.YtkojlpbjhpdakaaNum
import Derived.Test.YtkojlpbjhpdakaaCopy
namespace Go.Proofs.Ytkojlpbjhpdakaa
set_option linter.unusedVariables false
set_option linter.unusedSimpArgs false
open Go.RowKit
def stB (b : Bool) : UInt8 := if b then 111 else 120
def statesL (xs : List Bool) : List UInt8 := xs.map stB
def statesT (n : Nat) (xs : List Bool) : ByteArray := ⟨(if n ≤ 8 then statesL xs else []).toArray⟩
theorem statesT_y {n : Nat} {xs : List Bool} (h : n ≤ 8) : statesT n xs = ⟨(statesL xs).toArray⟩ := by unfold statesT; rw [if_pos h]
theorem statesT_n {n : Nat} {xs : List Bool} (h : ¬ n ≤ 8) : statesT n xs = ⟨#[]⟩ := by unfold statesT; rw [if_neg h]
theorem states_snoc {xs : List Bool} {k : Nat} {b : Bool} (h : xs[k]? = some b) : statesL (xs.take (k + 1)) = statesL (xs.take k) ++ [stB b] := by
  unfold statesL
  rw [List.take_add_one, h]; simp
theorem ret_str {a b : ByteArray} (h : a = b) : Ending.returned (.string a) = .returned (.string b) := by rw [h]
theorem states_len {xs : List Bool} {n k : Nat} (h : xs.length = n) : (statesL (xs.take k)).length ≤ n := by
  unfold statesL; simp; omega
theorem states_all {xs : List Bool} {n : Nat} (h : xs.length = n) : xs.take n = xs := List.take_of_length_le (by omega)
theorem str_snoc (l : List UInt8) (c : UInt8) : (⟨l.toArray⟩ : ByteArray) ++ ⟨#[c]⟩ = ⟨(l ++ [c]).toArray⟩ := by
  show (⟨l.toArray⟩ : ByteArray).append ⟨#[c]⟩ = _
  exact ByteArray.ext (by simp [ByteArray.data_append])
set_option maxHeartbeats 400000 in
theorem implStatesText_any (A : Option Addr) (n c : Nat) (xs : List Bool) (w : World) (hr : Reads w w.heap.size 1 A n (bools xs)) (hn : n ≤ 1048576) :
    Calls Try.prog 41 #[.slice A n c] w fun e w' => e = .returned (.string (statesT n xs)) ∧ w = w' := by
  have HL := Lib.hid (bools_len hr)
  by_cases h8 : n ≤ 8
  · go_enter Try.func41, Try.ntmps41
    go_wp2
    go_loop [3, 11] (fun s i => ∃ k : Nat, k ≤ n ∧ i = .int .i64 k ∧ s = .string ⟨(statesL (xs.take k)).toArray⟩) (fun _ i => n - (intOf i).toNat)
    case atStart => exact ⟨0, by omega, rfl, rfl⟩
    case round =>
      obtain ⟨k, hk, rfl, rfl⟩ := hrel
      have hl := states_len (k := k) HL.out
      by_cases hlt : k < n
      · obtain ⟨ad, u, rfl, had, hx, hc⟩ := hr.at_ hlt
        obtain ⟨b, hb, rfl⟩ := bools_at hx
        have HS := Lib.hid (states_snoc hb)
        clear hb hx
        cases b
        all_goals
          go_wp2
          go_round
          case rel => exact ⟨k + 1, by omega, by go_num, by rw [HS.out, str_snoc]; rfl⟩
          case measure => simp [intOf]; omega
      · go_wp2
        go_ret
        have e : k = n := by omega
        exact ⟨ret_str (by rw [e, states_all HL.out, statesT_y h8]), rfl⟩
  · go_enter Try.func41, Try.ntmps41
    go_wp2
    go_ret
    exact ⟨ret_str (by rw [statesT_n h8]), rfl⟩
def isOx (c : UInt8) : Bool := c == 111 || c == 120
def readL (l : List UInt8) : List Bool := l.map fun c => c == 111
def rdOk (s : ByteArray) : Bool := decide (s.size ≤ 8) && s.data.toList.all isOx
def rdR (s : ByteArray) : List Bool × Bool := if rdOk s = true then (readL s.data.toList, true) else ([], false)
theorem rdR_y {s : ByteArray} (h : rdOk s = true) : rdR s = (readL s.data.toList, true) := by unfold rdR; rw [if_pos h]
theorem rdR_n {s : ByteArray} (h : rdOk s = false) : rdR s = ([], false) := by unfold rdR; rw [h]; rfl
theorem bytes_len (s : ByteArray) : s.data.toList.length = s.size := Array.length_toList
theorem at_byte {s : ByteArray} {k : Nat} (h : k < s.size) : s.data.toList[k]? = some s[k] := by
  rw [List.getElem?_eq_getElem (by rw [bytes_len]; exact h)]; rfl
theorem readL_at {s : ByteArray} {k : Nat} (h : k < s.size) : (readL s.data.toList)[k]? = some (s[k] == 111) := by
  unfold readL; rw [List.getElem?_map, at_byte h]; rfl
theorem readL_len (s : ByteArray) : (readL s.data.toList).length = s.size := by unfold readL; rw [List.length_map]; exact bytes_len s
theorem rd_take {s : ByteArray} {k : Nat} (h : k < s.size) : (readL s.data.toList).take (k + 1) = (readL s.data.toList).take k ++ [s[k] == 111] := by
  rw [List.take_add_one, readL_at h]; rfl
theorem byte_eq {c : UInt8} {n : Nat} (hn : n < 256) : ((c.toNat : Int) == (n : Int)) = (c == UInt8.ofNat n) := by
  rw [Bool.eq_iff_iff, beq_iff_eq, beq_iff_eq]
  constructor
  · intro h
    apply UInt8.toNat_inj.1
    rw [UInt8.toNat_ofNat']
    omega
  · intro h
    subst h
    rw [UInt8.toNat_ofNat']
    omega
theorem byte_o (c : UInt8) : ((c.toNat : Int) == 111) = (c == 111) := byte_eq (n := 111) (by omega)
theorem byte_x (c : UInt8) : ((c.toNat : Int) == 120) = (c == 120) := byte_eq (n := 120) (by omega)
theorem statesL_readL {l : List UInt8} : statesL (readL l) = l ↔ l.all isOx = true := by
  induction l with
  | nil => simp [statesL, readL]
  | cons c t ih =>
    have e : statesL (readL (c :: t)) = stB (c == 111) :: statesL (readL t) := rfl
    rw [e, List.cons.injEq, ih, List.all_cons, Bool.and_eq_true]
    refine and_congr_left fun _ => ?_
    unfold stB isOx
    cases h : (c == 111) with
    | true => simp at h; subst h; simp
    | false =>
      simp
      constructor
      · intro h; exact h.symm
      · intro h; exact h.symm
theorem bytes_ext {a : ByteArray} {l : List UInt8} : ((⟨l.toArray⟩ : ByteArray) = a) ↔ l = a.data.toList := by
  constructor
  · rintro rfl; rfl
  · intro h; subst h; rfl
set_option maxHeartbeats 1600000 in
theorem l10ReadStates_any (s : ByteArray) (w : World) (hs : s.size ≤ 1048576) :
    Calls Try.prog 40 #[.string s] w fun e w' => ∃ A' n' c', e = .returned (.tuple #[.slice A' n' c', .bool (rdR s).2]) ∧ w'.ownsRow w.heap.size 4 1 (.slice A' n' c') n' (bools (rdR s).1) ∧ n' ≤ 1048576 ∧ Below w.heap.size w w' := by
  obtain ⟨i0, hi0, hz0, hz1, hz2⟩ := info_parts info_BoolS
  go_enter Try.func40, Try.ntmps40
  go_wp2
  go_loopw [4, 5] (fun o i wr => ∃ (k : Nat) (A' : Option Addr) (c' : Nat), k ≤ s.size ∧ o = .slice A' k c' ∧ i = .int .i64 k ∧ wr.ownsRow w.heap.size 4 1 (.slice A' k c') k (bools ((readL s.data.toList).take k)) ∧ Hid ((s.data.toList.take k).all isOx = true) ∧ Below w.heap.size w wr) (fun _ i _ => s.size - (intOf i).toNat)
  case atStart => exact ⟨0, _, 0, by omega, rfl, rfl, own_empty w _ _, rfl, (Below.refl _ _).alloc (Nat.le_refl _) _⟩
  case round =>
    obtain ⟨k, A', c', hk, rfl, rfl, hown, HK, hbr⟩ := hrel
    by_cases hlt : k < s.size
    · have HB := Lib.hid (at_byte hlt)
      have HT := Lib.hid (rd_take hlt)
      by_cases h1 : s[k] = 111
      · have e1 : ((s[k].toNat : Int) == 111) = true := by rw [h1]; rfl
        have e2 : ((s[k].toNat : Int) != 111) = false := by rw [h1]; rfl
        have HO : Hid (isOx s[k] = true) := by show isOx _ = _; rw [h1]; rfl
        have HV : Hid ((s[k] == 111) = true) := by show (_ == _) = _; rw [h1]; rfl
        clear h1
        go_wp2_with (at_builtin; (refine wpList_app _ rfl _ _ 22 rfl w.heap.size 4 i0 _ 1 1 Try.underlying22 hi0 hz0 hz1 hz2 rfl (by omega) A' _ c' _ rfl ((hown).alloc _) ⟨_, 0, none⟩ 1 1 [.bool true] rfl rfl (cell_one_new _ _ _) (by simp [Value.oneCell']) (by unfold maxLen; omega) (by omega) (by have hz := (hbr).size; simp at hz ⊢; omega) ?_); intro A1 c1 w2 ho2 hb2)
        go_roundw
        case rel =>
          refine ⟨k + 1, A1, c1, by omega, by first | rfl | go_num, by go_num, ?_, ?_, (hbr.alloc hbr.size _).trans hb2⟩
          · rw [HT.out, HV.out]; simpa [bools] using ho2
          · show _ = _
            rw [List.take_add_one, HB.out]; simp only [Option.toList_some, List.all_append, List.all_cons, List.all_nil, Bool.and_true]; rw [HK.out, HO.out]; rfl
        case measure => simp [intOf]; omega
      · have e1 : ((s[k].toNat : Int) == 111) = false := by rw [byte_o]; exact beq_eq_false_iff_ne.2 h1
        have e2 : ((s[k].toNat : Int) != 111) = true := by rw [bne, e1]; rfl
        have HV : Hid ((s[k] == 111) = false) := beq_eq_false_iff_ne.2 h1
        by_cases h2 : s[k] = 120
        · have e3 : ((s[k].toNat : Int) != 120) = false := by rw [h2]; rfl
          have HO : Hid (isOx s[k] = true) := by show isOx _ = _; rw [h2]; rfl
          clear h1 h2
          go_wp2_with (at_builtin; (refine wpList_app _ rfl _ _ 22 rfl w.heap.size 4 i0 _ 1 1 Try.underlying22 hi0 hz0 hz1 hz2 rfl (by omega) A' _ c' _ rfl ((hown).alloc _) ⟨_, 0, none⟩ 1 1 [.bool false] rfl rfl (cell_one_new _ _ _) (by simp [Value.oneCell']) (by unfold maxLen; omega) (by omega) (by have hz := (hbr).size; simp at hz ⊢; omega) ?_); intro A1 c1 w2 ho2 hb2)
          go_roundw
          case rel =>
            refine ⟨k + 1, A1, c1, by omega, by first | rfl | go_num, by go_num, ?_, ?_, (hbr.alloc hbr.size _).trans hb2⟩
            · rw [HT.out, HV.out]; simpa [bools] using ho2
            · show _ = _
              rw [List.take_add_one, HB.out]; simp only [Option.toList_some, List.all_append, List.all_cons, List.all_nil, Bool.and_true]; rw [HK.out, HO.out]; rfl
          case measure => simp [intOf]; omega
        · have e3 : ((s[k].toNat : Int) != 120) = true := by rw [bne, byte_x, beq_eq_false_iff_ne.2 h2]; rfl
          have HE : Hid (rdR s = ([], false)) := by
            refine rdR_n ?_
            unfold rdOk
            have : s.data.toList.all isOx = false := by
              rw [List.all_eq_false]
              exact ⟨s[k], List.mem_of_getElem? HB.out, by unfold isOx; simp [h1, h2]⟩
            rw [this, Bool.and_false]
          clear h1 h2
          go_wp2
          go_ret2
          rw [HE.out]
          exact ⟨none, 0, 0, rfl, own_nil _ _ _ _, by omega, hbr⟩
    · have e : k = s.size := by omega
      have HA : Hid (s.data.toList.all isOx = true) := by have := HK.out; rwa [List.take_of_length_le (by rw [bytes_len]; omega)] at this
      have HT : Hid ((readL s.data.toList).take k = readL s.data.toList) := List.take_of_length_le (by rw [readL_len]; omega)
      rw [HT.out] at hown
      by_cases h8 : k ≤ 8
      · have HE : Hid (rdR s = (readL s.data.toList, true)) := rdR_y (by unfold rdOk; rw [HA.out, decide_eq_true (by omega)]; rfl)
        go_wp2
        go_ret2
        rw [HE.out]
        exact ⟨A', k, c', rfl, hown, by omega, hbr⟩
      · have HE : Hid (rdR s = ([], false)) := rdR_n (by unfold rdOk; rw [decide_eq_false (by omega)]; rfl)
        go_wp2
        go_ret2
        rw [HE.out]
        exact ⟨none, 0, 0, rfl, own_nil _ _ _ _, by omega, hbr⟩
theorem specReadStates_any (s : ByteArray) (w : World) (_ : s.size ≤ maxLen) (hs : s.size ≤ 1048576) :
    Calls Try.prog 13 #[.string s] w fun e w' => ∃ A' n' c', e = .returned (.tuple #[.slice A' n' c', .bool (rdR s).2]) ∧ w'.ownsRow w.heap.size 4 1 (.slice A' n' c') n' (bools (rdR s).1) ∧ n' ≤ 1048576 ∧ Below w.heap.size w w' := by
  go_enter Try.func13, Try.ntmps13
  go_wp2_with fail; ((with_reducible refine (l10ReadStates_any s _ hs).mono ?_); rintro e w1 ⟨A', n', c', rfl, ho, hn, hb1⟩)
  go_wp2
  go_ret2
  exact ⟨A', n', c', rfl, ho, hn, hb1⟩
set_option maxHeartbeats 1600000 in
theorem implReadStates_any (s : ByteArray) (w : World) (_ : s.size ≤ maxLen) (hs : s.size ≤ 1048576) :
    Calls Try.prog 14 #[.string s] w fun e w' => ∃ A' n' c', e = .returned (.tuple #[.slice A' n' c', .bool (rdR s).2]) ∧ w'.ownsRow w.heap.size 4 1 (.slice A' n' c') n' (bools (rdR s).1) ∧ n' ≤ 1048576 ∧ Below w.heap.size w w' := by
  obtain ⟨i0, hi0, hz0, hz1, hz2⟩ := info_parts info_BoolS
  by_cases h8 : s.size ≤ 8
  · go_enter Try.func14, Try.ntmps14
    go_wp2
    go_loopw [4, 11] (fun o i wr => ∃ (k : Nat) (A' : Option Addr) (c' : Nat), k ≤ s.size ∧ o = .slice A' k c' ∧ i = .int .i64 k ∧ wr.ownsRow w.heap.size 4 1 (.slice A' k c') k (bools ((readL s.data.toList).take k)) ∧ Below w.heap.size w wr) (fun _ i _ => s.size - (intOf i).toNat)
    case atStart => exact ⟨0, none, 0, by omega, rfl, rfl, own_nil _ _ _ _, Below.refl _ _⟩
    case round =>
      obtain ⟨k, A', c', hk, rfl, rfl, hown, hbr⟩ := hrel
      by_cases hlt : k < s.size
      · have HT := Lib.hid (rd_take hlt)
        have e1 := byte_o s[k]
        go_wp2_with (at_builtin; (refine wpList_app _ rfl _ _ 22 rfl w.heap.size 4 i0 _ 1 1 Try.underlying22 hi0 hz0 hz1 hz2 rfl (by omega) A' _ c' _ rfl ((hown).alloc _) ⟨_, 0, none⟩ 1 1 [.bool (s[k] == 111)] rfl rfl (cell_one_new _ _ _) (by simp [Value.oneCell']) (by unfold maxLen; omega) (by omega) (by have hz := (hbr).size; simp at hz ⊢; omega) ?_); intro A1 c1 w2 ho2 hb2)
        go_roundw
        case rel =>
          refine ⟨k + 1, A1, c1, by omega, by first | rfl | go_num, by go_num, ?_, (hbr.alloc hbr.size _).trans hb2⟩
          rw [HT.out]; simpa [bools] using ho2
        case measure => simp [intOf]; omega
      · have e : k = s.size := by omega
        have HT : Hid ((readL s.data.toList).take k = readL s.data.toList) := List.take_of_length_le (by rw [readL_len]; omega)
        rw [HT.out] at hown
        clear HT
        subst e
        have hk8 : s.size ≤ 8 := h8
        have HX : Hid (statesT s.size (readL s.data.toList) = ⟨(statesL (readL s.data.toList)).toArray⟩) := statesT_y hk8
        cases hall : s.data.toList.all isOx
        · have HE : Hid (rdR s = ([], false)) := rdR_n (by unfold rdOk; rw [hall, Bool.and_false])
          have hne : (statesL (readL s.data.toList) == s.toList) = false := by
            rw [ByteArray.toList_eq]
            refine beq_eq_false_iff_ne.2 fun h => ?_
            have := statesL_readL.1 h
            rw [hall] at this; cases this
          clear hall
          go_wp2_with fail; ((with_reducible refine (implStatesText_any _ s.size c' _ _ (Reads.of_own hown) (by omega)).mono ?_); rintro e w' ⟨rfl, rfl⟩)
          rw [HX.out]
          go_wp2
          go_ret2
          rw [HE.out]
          exact ⟨none, 0, 0, rfl, own_nil _ _ _ _, by omega, hbr⟩
        · have HE : Hid (rdR s = (readL s.data.toList, true)) := rdR_y (by unfold rdOk; rw [hall, decide_eq_true h8]; rfl)
          have hne : (statesL (readL s.data.toList) == s.toList) = true := by
            rw [ByteArray.toList_eq]
            exact beq_iff_eq.2 (statesL_readL.2 hall)
          clear hall
          go_wp2_with fail; ((with_reducible refine (implStatesText_any _ s.size c' _ _ (Reads.of_own hown) (by omega)).mono ?_); rintro e w' ⟨rfl, rfl⟩)
          rw [HX.out]
          go_wp2
          go_ret2
          rw [HE.out]
          exact ⟨A', s.size, c', rfl, hown, hs, hbr⟩
  · have HE : Hid (rdR s = ([], false)) := rdR_n (by unfold rdOk; rw [decide_eq_false h8]; rfl)
    go_enter Try.func14, Try.ntmps14
    go_wp2
    go_ret2
    rw [HE.out]
    exact ⟨none, 0, 0, rfl, own_nil _ _ _ _, by omega, Below.refl _ _⟩
end Go.Proofs.Ytkojlpbjhpdakaa
