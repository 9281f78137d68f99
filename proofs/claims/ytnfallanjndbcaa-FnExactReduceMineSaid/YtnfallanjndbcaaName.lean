/- Contracts of the two tests of a name. -/
import Derived.Test.YtnfallanjndbcaaNum
namespace Go.Proofs.Ytnfallanjndbcaa
set_option linter.unusedVariables false
set_option linter.unusedSimpArgs false
open Go.RowKit
theorem l01Small_any (c : Int) (w : World) :
    Calls Try.prog 54 #[.int .u8 c] w fun e w' => e = .returned (.bool (inB c 97 122)) ∧ w = w' := by
  unfold inB
  go_enter Try.func54, Try.ntmps54
  go_wp2
  all_goals
    go_ret
    exact ⟨ret_bool (by simp; omega), rfl⟩
theorem l01Digit_any (c : Int) (w : World) :
    Calls Try.prog 55 #[.int .u8 c] w fun e w' => e = .returned (.bool (inB c 48 57)) ∧ w = w' := by
  unfold inB
  go_enter Try.func55, Try.ntmps55
  go_wp2
  all_goals
    go_ret
    exact ⟨ret_bool (by simp; omega), rfl⟩
theorem nonempty_list {s : ByteArray} (h : 1 ≤ s.size) : s.toList.isEmpty = false := by
  rw [ByteArray.toList_eq]
  cases e : s.data.toList with
  | nil => simp [ByteArray.size, ← Array.length_toList, e] at h
  | cons _ _ => rfl
theorem empty_list {s : ByteArray} (h : s.size = 0) : s.toList.isEmpty = true := by
  rw [ByteArray.toList_eq]
  cases e : s.data.toList with
  | nil => rfl
  | cons _ _ => simp [ByteArray.size, ← Array.length_toList, e] at h
set_option maxHeartbeats 800000 in
theorem l01Name_any (s : ByteArray) (w : World) (hs : s.size ≤ maxLen) :
    Calls Try.prog 44 #[.string s] w fun e w' => e = .returned (.bool (isName s)) ∧ w = w' := by
  unfold maxLen at hs
  by_cases h0 : s.size = 0
  · have h1 := empty_list h0
    have h2 := isName_len (s := s) (by omega)
    have H2 := Lib.hid h2
    clear h0 h2
    go_enter Try.func44, Try.ntmps44
    go_wp2
    go_ret
    exact ⟨ret_bool H2.out.symm, rfl⟩
  have h1 := nonempty_list (s := s) (by omega)
  by_cases h10 : 10 < s.size
  · have h2 := isName_len (s := s) (by omega)
    have H2 := Lib.hid h2
    clear h0 h2
    go_enter Try.func44, Try.ntmps44
    go_wp2
    go_ret
    exact ⟨ret_bool H2.out.symm, rfl⟩
  have hlen : 0 < s.size := by omega
  have H : Hid (1 ≤ s.size ∧ s.size ≤ 10) := ⟨by omega, by omega⟩
  have HB := Lib.hid (byte_at hlen)
  clear h0
  rcases Bool.eq_false_or_eq_true (inB (s[0]!).toNat 97 122) with h3 | h3
  · have H3 := Lib.hid (isName_rest H.out h3)
    rw [HB.out] at h3
    go_enter Try.func44, Try.ntmps44
    go_wp2_with (go_at_call 54; refine (l01Small_any _ _).mono ?_; rintro e w' ⟨rfl, rfl⟩)
    go_loop [3] (fun i => ∃ k : Nat, k ≤ s.size ∧ i = .int .i64 k ∧ Hid (∀ j, j < k → nameB s[j]! = true)) (fun i => s.size - (intOf i).toNat)
    case atStart => exact ⟨0, by omega, rfl, fun j hj => absurd hj (Nat.not_lt_zero _)⟩
    case round =>
      obtain ⟨k, hk, rfl, HK⟩ := hrel
      by_cases hlt : k < s.size
      · have HBk := Lib.hid (byte_at hlt)
        rcases Bool.eq_false_or_eq_true (inB (s[k]!).toNat 97 122) with h4 | h4 <;> rcases Bool.eq_false_or_eq_true (inB (s[k]!).toNat 48 57) with h5 | h5
        · have HN : Hid (nameB s[k]! = true) := by show nameB _ = _; simp [nameB, h4]
          rw [HBk.out] at h4 h5
          go_wp2_with (first | (go_at_call 54; refine (l01Small_any _ _).mono ?_; rintro e w' ⟨rfl, rfl⟩) | (go_at_call 55; refine (l01Digit_any _ _).mono ?_; rintro e w' ⟨rfl, rfl⟩))
          go_round
          case rel =>
            refine ⟨k + 1, by omega, by go_num, fun j hj => ?_⟩
            rcases Nat.lt_or_ge j k with hjk | hjk
            · exact HK.out j hjk
            · obtain rfl : j = k := by omega
              exact HN.out
          case measure => simp [intOf]; omega
        · have HN : Hid (nameB s[k]! = true) := by show nameB _ = _; simp [nameB, h4]
          rw [HBk.out] at h4 h5
          go_wp2_with (first | (go_at_call 54; refine (l01Small_any _ _).mono ?_; rintro e w' ⟨rfl, rfl⟩) | (go_at_call 55; refine (l01Digit_any _ _).mono ?_; rintro e w' ⟨rfl, rfl⟩))
          go_round
          case rel =>
            refine ⟨k + 1, by omega, by go_num, fun j hj => ?_⟩
            rcases Nat.lt_or_ge j k with hjk | hjk
            · exact HK.out j hjk
            · obtain rfl : j = k := by omega
              exact HN.out
          case measure => simp [intOf]; omega
        · have HN : Hid (nameB s[k]! = true) := by show nameB _ = _; simp [nameB, h5]
          rw [HBk.out] at h4 h5
          go_wp2_with (first | (go_at_call 54; refine (l01Small_any _ _).mono ?_; rintro e w' ⟨rfl, rfl⟩) | (go_at_call 55; refine (l01Digit_any _ _).mono ?_; rintro e w' ⟨rfl, rfl⟩))
          go_round
          case rel =>
            refine ⟨k + 1, by omega, by go_num, fun j hj => ?_⟩
            rcases Nat.lt_or_ge j k with hjk | hjk
            · exact HK.out j hjk
            · obtain rfl : j = k := by omega
              exact HN.out
          case measure => simp [intOf]; omega
        · have HN : Hid (nameB s[k]! = false) := by show nameB _ = _; simp [nameB, h4, h5]
          rw [HBk.out] at h4 h5
          go_wp2_with (first | (go_at_call 54; refine (l01Small_any _ _).mono ?_; rintro e w' ⟨rfl, rfl⟩) | (go_at_call 55; refine (l01Digit_any _ _).mono ?_; rintro e w' ⟨rfl, rfl⟩))
          go_ret
          exact ⟨ret_bool (by rw [H3.out, allUpto_f hlt HN.out]), rfl⟩
      · go_wp2
        go_ret
        exact ⟨ret_bool (by rw [H3.out, allUpto_t fun j hj => HK.out j (by omega)]), rfl⟩
  · have H3 := Lib.hid (isName_head h3)
    rw [HB.out] at h3
    go_enter Try.func44, Try.ntmps44
    go_wp2_with (go_at_call 54; refine (l01Small_any _ _).mono ?_; rintro e w' ⟨rfl, rfl⟩)
    go_ret
    exact ⟨ret_bool H3.out.symm, rfl⟩
set_option maxHeartbeats 800000 in
theorem onlyNameBytes_any (s : ByteArray) (w : World) (hs : s.size ≤ maxLen) :
    Calls Try.prog 57 #[.string s] w fun e w' => e = .returned (.bool (allUpto s.size fun k => nameB s[k]!)) ∧ w = w' := by
  unfold maxLen at hs
  go_enter Try.func57, Try.ntmps57
  go_wp2
  go_loop [7] (fun i => ∃ k : Nat, k ≤ s.size ∧ i = .int .i64 k ∧ Hid (∀ j, j < k → nameB s[j]! = true)) (fun i => s.size - (intOf i).toNat)
  case atStart => exact ⟨0, by omega, rfl, fun j hj => absurd hj (Nat.not_lt_zero _)⟩
  case round =>
    obtain ⟨k, hk, rfl, HK⟩ := hrel
    by_cases hlt : k < s.size
    · have HBk := Lib.hid (byte_at hlt)
      by_cases h4 : (97 : Int) ≤ (s[k].toNat : Int) ∧ (s[k].toNat : Int) ≤ 122 ∨ (48 : Int) ≤ (s[k].toNat : Int) ∧ (s[k].toNat : Int) ≤ 57
      · have HN : Hid (nameB s[k]! = true) := by show nameB _ = _; rw [HBk.out]; unfold nameB inB; simp only [Bool.or_eq_true, decide_eq_true_eq]; exact h4
        go_wp2
        all_goals
          first
          | (go_round
             case rel =>
               refine ⟨k + 1, by omega, by go_num, fun j hj => ?_⟩
               rcases Nat.lt_or_ge j k with hjk | hjk
               · exact HK.out j hjk
               · obtain rfl : j = k := by omega
                 exact HN.out
             case measure => simp [intOf]; omega)
          | (exfalso; omega)
      · have HN : Hid (nameB s[k]! = false) := by
          show nameB _ = _; rw [HBk.out]; unfold nameB inB
          rw [Bool.or_eq_false_iff]
          exact ⟨decide_eq_false fun h => h4 (.inl h), decide_eq_false fun h => h4 (.inr h)⟩
        go_wp2
        all_goals
          first
          | (go_ret
             exact ⟨ret_bool (by rw [allUpto_f hlt HN.out]), rfl⟩)
          | (exfalso; omega)
    · go_wp2
      go_ret
      exact ⟨ret_bool (by rw [allUpto_t fun j hj => HK.out j (by omega)]), rfl⟩
theorem isName_any (s : ByteArray) (w : World) (hs : s.size ≤ maxLen) :
    Calls Try.prog 48 #[.string s] w fun e w' => e = .returned (.bool (isName s)) ∧ w = w' := by
  have hs' := hs
  unfold maxLen at hs
  by_cases h : 1 ≤ s.size ∧ s.size ≤ 10
  · obtain ⟨ha, hb⟩ := h
    have hlen : 0 < s.size := by omega
    have HB := Lib.hid (byte_at hlen)
    by_cases hc : (97 : Int) ≤ (s[0].toNat : Int) ∧ (s[0].toNat : Int) ≤ 122
    · have H3 : Hid (isName s = _) := isName_rest ⟨ha, hb⟩ (by rw [HB.out]; exact decide_eq_true hc)
      obtain ⟨hc1, hc2⟩ := hc
      go_enter Try.func48, Try.ntmps48
      go_wp2_with (go_at_call 57; refine (onlyNameBytes_any _ _ hs').mono ?_; rintro e w' ⟨rfl, rfl⟩)
      go_ret
      exact ⟨ret_bool H3.out.symm, rfl⟩
    · have H3 : Hid (isName s = false) := isName_head (by rw [HB.out]; exact decide_eq_false hc)
      go_enter Try.func48, Try.ntmps48
      go_wp2_with (go_at_call 57; refine (onlyNameBytes_any _ _ hs').mono ?_; rintro e w' ⟨rfl, rfl⟩)
      all_goals
        first
        | (go_ret
           exact ⟨ret_bool H3.out.symm, rfl⟩)
        | (exfalso; omega)
  · have H3 : Hid (isName s = false) := isName_len h
    go_enter Try.func48, Try.ntmps48
    go_wp2_with (go_at_call 57; refine (onlyNameBytes_any _ _ hs').mono ?_; rintro e w' ⟨rfl, rfl⟩)
    all_goals
      first
      | (go_ret
         exact ⟨ret_bool H3.out.symm, rfl⟩)
      | (exfalso; omega)
end Go.Proofs.Ytnfallanjndbcaa
