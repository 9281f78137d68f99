/- Contracts of the texts of states. -/
import Derived.Test.YtoghblpddbpimaaNum
import Derived.Test.YtoghblpddbpimaaCopy
namespace Go.Proofs.Ytoghblpddbpimaa
set_option linter.unusedVariables false
set_option linter.unusedSimpArgs false
open Go.RowKit
def stB (b : Bool) : UInt8 := if b then 111 else 120
def statesL (xs : List Bool) : List UInt8 := xs.map stB
def statesT (n : Nat) (xs : List Bool) : ByteArray := ⟨(if n ≤ 8 then statesL xs else []).toArray⟩
theorem statesT_y {n : Nat} {xs : List Bool} (h : n ≤ 8) : statesT n xs = ⟨(statesL xs).toArray⟩ := by unfold statesT; rw [if_pos h]
theorem statesT_n {n : Nat} {xs : List Bool} (h : ¬ n ≤ 8) : statesT n xs = ⟨#[]⟩ := by unfold statesT; rw [if_neg h]
theorem states_snoc {xs : List Bool} {k : Nat} {b : Bool} (h : xs[k]? = some b) : statesL (xs.take (k + 1)) = statesL (xs.take k) ++ [stB b] := by
  unfold statesL
  rw [List.take_add_one, h]; simp
theorem ret_str {a b : ByteArray} (h : a = b) : Ending.returned (.string a) = .returned (.string b) := by rw [h]
theorem states_len {xs : List Bool} {n k : Nat} (h : xs.length = n) : (statesL (xs.take k)).length ≤ n := by
  unfold statesL; simp; omega
theorem states_all {xs : List Bool} {n : Nat} (h : xs.length = n) : xs.take n = xs := List.take_of_length_le (by omega)
theorem str_snoc (l : List UInt8) (c : UInt8) : (⟨l.toArray⟩ : ByteArray) ++ ⟨#[c]⟩ = ⟨(l ++ [c]).toArray⟩ := by
  show (⟨l.toArray⟩ : ByteArray).append ⟨#[c]⟩ = _
  exact ByteArray.ext (by simp [ByteArray.data_append])
set_option maxHeartbeats 400000 in
theorem l10StatesText_any (A : Option Addr) (n c : Nat) (xs : List Bool) (w : World) (hr : Reads w w.heap.size 1 A n (bools xs)) (hn : n ≤ 1048576) :
    Calls Try.prog 29 #[.slice A n c] w fun e w' => e = .returned (.string ⟨(statesL xs).toArray⟩) ∧ w = w' := by
  have HL := Lib.hid (bools_len hr)
  go_enter Try.func29, Try.ntmps29
  go_wp2
  go_loop [3, 4] (fun s i => ∃ k : Nat, k ≤ n ∧ i = .int .i64 k ∧ s = .string ⟨(statesL (xs.take k)).toArray⟩) (fun _ i => n - (intOf i).toNat)
  case atStart => exact ⟨0, by omega, rfl, rfl⟩
  case round =>
    obtain ⟨k, hk, rfl, rfl⟩ := hrel
    have hl := states_len (k := k) HL.out
    by_cases hlt : k < n
    · obtain ⟨ad, u, rfl, had, hx, hc⟩ := hr.at_ hlt
      obtain ⟨b, hb, rfl⟩ := bools_at hx
      have HS := Lib.hid (states_snoc hb)
      clear hb hx
      cases b
      all_goals
        go_wp2
        go_round
        case rel => exact ⟨k + 1, by omega, by go_num, by rw [HS.out, str_snoc]; rfl⟩
        case measure => simp [intOf]; omega
    · go_wp2
      go_ret
      have e : k = n := by omega
      exact ⟨ret_str (by rw [e, states_all HL.out]), rfl⟩
theorem specStatesText_any (A : Option Addr) (n c : Nat) (xs : List Bool) (w : World) (hr : Reads w w.heap.size 1 A n (bools xs)) (hn : n ≤ 1048576) :
    Calls Try.prog 11 #[.slice A n c] w fun e w' => e = .returned (.string (statesT n xs)) ∧ w = w' := by
  by_cases h8 : n ≤ 8
  · go_enter Try.func11, Try.ntmps11
    go_wp2_with fail; ((with_reducible refine (l10StatesText_any _ _ _ xs _ hr hn).mono ?_); rintro e w' ⟨rfl, rfl⟩)
    go_wp2
    go_ret
    exact ⟨ret_str (by rw [statesT_y h8]), rfl⟩
  · go_enter Try.func11, Try.ntmps11
    go_wp2
    go_ret
    exact ⟨ret_str (by rw [statesT_n h8]), rfl⟩
set_option maxHeartbeats 400000 in
theorem implStatesText_any (A : Option Addr) (n c : Nat) (xs : List Bool) (w : World) (hr : Reads w w.heap.size 1 A n (bools xs)) (hn : n ≤ 1048576) :
    Calls Try.prog 13 #[.slice A n c] w fun e w' => e = .returned (.string (statesT n xs)) ∧ w = w' := by
  have HL := Lib.hid (bools_len hr)
  by_cases h8 : n ≤ 8
  · go_enter Try.func13, Try.ntmps13
    go_wp2
    go_loop [3, 11] (fun s i => ∃ k : Nat, k ≤ n ∧ i = .int .i64 k ∧ s = .string ⟨(statesL (xs.take k)).toArray⟩) (fun _ i => n - (intOf i).toNat)
    case atStart => exact ⟨0, by omega, rfl, rfl⟩
    case round =>
      obtain ⟨k, hk, rfl, rfl⟩ := hrel
      have hl := states_len (k := k) HL.out
      by_cases hlt : k < n
      · obtain ⟨ad, u, rfl, had, hx, hc⟩ := hr.at_ hlt
        obtain ⟨b, hb, rfl⟩ := bools_at hx
        have HS := Lib.hid (states_snoc hb)
        clear hb hx
        cases b
        all_goals
          go_wp2
          go_round
          case rel => exact ⟨k + 1, by omega, by go_num, by rw [HS.out, str_snoc]; rfl⟩
          case measure => simp [intOf]; omega
      · go_wp2
        go_ret
        have e : k = n := by omega
        exact ⟨ret_str (by rw [e, states_all HL.out, statesT_y h8]), rfl⟩
  · go_enter Try.func13, Try.ntmps13
    go_wp2
    go_ret
    exact ⟨ret_str (by rw [statesT_n h8]), rfl⟩
end Go.Proofs.Ytoghblpddbpimaa
