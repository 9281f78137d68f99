/- Contract of the reference's reading of a numeral. -/
import Derived.Test.YtdooajiobpjihaaDoorSplC
import Derived.Test.YtdooajiobpjihaaDoorName
namespace Go.Proofs.YtdooajiobpjihaaDoor
set_option linter.unusedVariables false
set_option linter.unusedSimpArgs false
open Go.RowKit
theorem valD_lt : ∀ (k : Nat) (l : List UInt8), l.length = k → (∀ b ∈ l, isDg b = true) → valD 0 l < 10 ^ k := by
  intro k
  induction k with
  | zero => intro l hl _; rw [List.length_eq_zero_iff.1 hl]; decide
  | succ k ih =>
    intro l hl hd
    have hne : l ≠ [] := fun e => by rw [e] at hl; cases hl
    have e : l = l.dropLast ++ [l.getLast hne] := (List.dropLast_concat_getLast hne).symm
    generalize l.getLast hne = b at e
    generalize l.dropLast = t at e
    subst e
    have hb := of_decide_eq_true (hd b (List.mem_append_right _ (List.mem_singleton_self _)))
    have := ih t (by simp at hl; exact hl) fun x hx => hd x (List.mem_append_left _ hx)
    rw [valD_app]
    show valD 0 t * 10 + (b.toNat - 48) < _
    rw [Nat.pow_succ]; omega
theorem val_17 {l : List UInt8} (h : l.length ≤ 17) (hd : ∀ b ∈ l, isDg b = true) : valD 0 l < 100000000000000000 := by
  have h1 := valD_lt _ l rfl hd
  have h2 : 10 ^ l.length ≤ 10 ^ 17 := Nat.pow_le_pow_right (by omega) h
  omega
theorem val_18 {l : List UInt8} (h : l.length ≤ 18) (hd : ∀ b ∈ l, isDg b = true) : valD 0 l < 1000000000000000000 := by
  have h1 := valD_lt _ l rfl hd
  have h2 : 10 ^ l.length ≤ 10 ^ 18 := Nat.pow_le_pow_right (by omega) h
  omega
/-- What a reading of a numeral returns. -/
def numV (l : List UInt8) : Value := .tuple #[.int .i64 ((rdN l).getD 0), .bool (rdN l).isSome]
theorem numV_n {l : List UInt8} (h : rdN l = none) : numV l = .tuple #[.int .i64 0, .bool false] := by unfold numV; rw [h]; rfl
theorem numV_y {l : List UInt8} {n : Int} (h : rdN l = some n) : numV l = .tuple #[.int .i64 n, .bool true] := by unfold numV; rw [h]; rfl
theorem head_byte {s : ByteArray} (h : 0 < s.size) : s.data.toList.head? = some s[0] := by rw [List.head?_eq_getElem?]; exact byte_mem h
theorem blen (s : ByteArray) : s.data.toList.length = s.size := Array.length_toList
theorem dg_inB (b : UInt8) : inB (b.toNat : Int) 48 57 = isDg b := by
  unfold inB isDg
  rw [Bool.eq_iff_iff]; simp; omega
theorem dig_snoc {l : List UInt8} {q k : Nat} {b : UInt8} (hq : q ≤ k) (h : l[k]? = some b) (hd : ∀ x ∈ (l.drop q).take (k - q), isDg x = true) (hb : isDg b = true) :
    (∀ x ∈ (l.drop q).take (k + 1 - q), isDg x = true) ∧ valD 0 ((l.drop q).take (k + 1 - q)) = valD 0 ((l.drop q).take (k - q)) * 10 + (b.toNat - 48) := by
  rw [cur_more hq h]
  refine ⟨fun x hx => ?_, by rw [valD_app]; rfl⟩
  rcases List.mem_append.1 hx with hx | hx
  · exact hd x hx
  · rw [List.mem_singleton.1 hx]; exact hb
theorem start_v (l : List UInt8) (q : Nat) : valD 0 ((l.drop q).take (q - q)) = 0 := by rw [Nat.sub_self, List.take_zero]; rfl
theorem start_d (l : List UInt8) (q : Nat) (x : UInt8) : x ∉ (l.drop q).take (q - q) := by rw [Nat.sub_self, List.take_zero]; simp
theorem num_bad {l : List UInt8} {k : Nat} {b : UInt8} (hq : atN l ≤ k) (h : l[k]? = some b) (hb : isDg b = false) : rdN l = none := rdN_no fun n e => by
  have h1 := (body_of e).2.2.1 b (List.mem_of_getElem? (i := k - atN l) (by rw [List.getElem?_drop, show atN l + (k - atN l) = k by omega]; exact h))
  rw [hb] at h1; cases h1
theorem num_nought {l : List UInt8} {b : UInt8} (h : l[atN l]? = some b) (hb : b.toNat = 48) (hl : 1 < l.length) : rdN l = none := rdN_no fun n e => by
  have := (body_of e).2.2.2 b h hb; omega
theorem num_len {l : List UInt8} (h : l.length ≤ atN l ∨ 18 < l.length - atN l) : rdN l = none := rdN_no fun n e => by
  have h1 := (body_of e).1
  have h2 := (body_of e).2.1
  omega
set_option maxHeartbeats 1600000 in
set_option maxRecDepth 100000 in
theorem l01Number_any (s : ByteArray) (w : World) (hs : s.size ≤ 1048576) :
    Calls Tryd.prog 56 #[.string s] w fun e w' => e = .returned (numV s.data.toList) ∧ w = w' := by
  have HBL := Lib.hid (blen s)
  by_cases h0 : s.size = 0
  · have HV := Lib.hid (numV_n (num_len (l := s.data.toList) (.inl (by rw [HBL.out]; omega))))
    obtain rfl : s = ByteArray.empty := by
      cases s with
      | mk d => exact congrArg ByteArray.mk (Array.eq_empty_of_size_eq_zero h0)
    clear h0 hs
    go_enter Tryd.func56, Tryd.ntmps56
    go_wp2
    go_ret2
    exact ⟨by rw [HV.out]; rfl, rfl⟩
  have hpos : 0 < s.size := by omega
  have hh := head_byte hpos
  by_cases h45 : s[0] = 45
  · have HA : Hid (atN s.data.toList = 1) := show _ = _ by unfold atN; rw [hh, h45]; rfl
    have e45 : ((s[0].toNat : Int) == 45) = true := by rw [h45]; rfl
    clear hh h45
    by_cases h1 : s.size = 1
    · have HV := Lib.hid (numV_n (num_len (l := s.data.toList) (.inl (by rw [HBL.out, HA.out]; omega))))
      have e1 : ((s.size : Int) == 1) = true := by rw [h1]; rfl
      clear h1
      go_enter Tryd.func56, Tryd.ntmps56
      go_wp2
      go_ret2
      exact ⟨by rw [HV.out]; rfl, rfl⟩
    have e1 : ((s.size : Int) == 1) = false := by rw [beq_eq_false_iff_ne]; omega
    by_cases h18 : 19 < s.size
    · have HV := Lib.hid (numV_n (num_len (l := s.data.toList) (.inr (by rw [HBL.out, HA.out]; omega))))
      go_enter Tryd.func56, Tryd.ntmps56
      go_wp2
      go_ret2
      exact ⟨by rw [HV.out]; rfl, rfl⟩
    have hq : 1 < s.size := by omega
    have hle : s.size ≤ 19 := by omega
    have hbq := byte_mem hq
    by_cases h48 : s[1].toNat = 48
    · have HV := Lib.hid (numV_n (num_nought (l := s.data.toList) (b := s[1]) (by rw [HA.out]; exact hbq) h48 (by rw [HBL.out]; omega)))
      have e48 : ((s[1].toNat : Int) == 48) = true := by rw [h48]; rfl
      clear h48 hbq
      go_enter Tryd.func56, Tryd.ntmps56
      go_wp2
      go_ret2
      exact ⟨by rw [HV.out]; rfl, rfl⟩
    · have e48 : ((s[1].toNat : Int) == 48) = false := by rw [beq_eq_false_iff_ne]; omega
      have H4 : Hid (∀ b, s.data.toList[atN s.data.toList]? = some b → b.toNat = 48 → s.data.toList.length = 1) := fun b hb h48 => by rw [HA.out, hbq] at hb; obtain rfl := Option.some.inj hb; exact absurd h48 (by assumption)
      clear hbq
      go_enter Tryd.func56, Tryd.ntmps56
      go_wp2
      go_loop [5, 6] (fun n i => ∃ k : Nat, 1 ≤ k ∧ k ≤ s.size ∧ i = .int .i64 k ∧ n = .int .i64 ((valD 0 ((s.data.toList.drop 1).take (k - 1)) : Nat) : Int) ∧ Hid (∀ x ∈ (s.data.toList.drop 1).take (k - 1), isDg x = true)) (fun _ i => s.size - (intOf i).toNat)
      case atStart => exact ⟨1, by omega, by omega, rfl, by rw [start_v]; rfl, fun x hx => absurd hx (start_d _ _ _)⟩
      case round =>
        obtain ⟨k, hqk, hk, rfl, rfl, HD⟩ := hrel
        have hlen : ((s.data.toList.drop 1).take (k - 1)).length = k - 1 := by rw [List.length_take, List.length_drop, HBL.out]; omega
        by_cases hlt : k < s.size
        · have hbk := byte_mem hlt
          have hv := val_17 (by rw [hlen]; omega) HD.out
          have cD := l01Digit_any (s[k].toNat : Int) w
          rcases Bool.eq_false_or_eq_true (isDg s[k]) with k1 | k1
          · obtain ⟨d1, d2⟩ := dig_snoc hqk hbk HD.out k1
            have hrg := of_decide_eq_true k1
            rw [dg_inB, k1] at cD
            have HC := Lib.hid cD
            have HD1 := Lib.hid d1
            have HD2 := Lib.hid d2
            have hw8 : IntKind.u8.wrap ((s[k].toNat : Int) - 48) = (s[k].toNat : Int) - 48 := IntWalk.u8_in _ (by omega)
            clear cD d1 d2 k1 hbk hlen
            generalize valD 0 ((s.data.toList.drop 1).take (k - 1)) = v at *
            go_wp2_with fail; ((with_reducible refine HC.out.mono ?_); rintro e w' ⟨rfl, rfl⟩)
            go_wp2
            go_round
            case rel => exact ⟨k + 1, by omega, by omega, by go_num, by rw [HD2.out]; first | (go_num; done) | (congr 1; omega) | skip, HD1.out⟩
            case measure => simp [intOf]; omega
          · have HV := Lib.hid (numV_n (num_bad (l := s.data.toList) (by rw [HA.out]; exact hqk) hbk k1))
            rw [dg_inB, k1] at cD
            have HC := Lib.hid cD
            clear cD k1 hbk hlen
            go_wp2_with fail; ((with_reducible refine HC.out.mono ?_); rintro e w' ⟨rfl, rfl⟩)
            go_wp2
            go_ret2
            exact ⟨by rw [HV.out]; rfl, rfl⟩
        · have e : k = s.size := by omega
          have hfull : (s.data.toList.drop 1).take (k - 1) = s.data.toList.drop 1 := List.take_of_length_le (by rw [List.length_drop, HBL.out]; omega)
          rw [hfull] at HD ⊢
          have hv := val_18 (l := s.data.toList.drop 1) (by rw [List.length_drop, HBL.out]; omega) HD.out
          have hn := num_mk (l := s.data.toList) (by rw [HA.out, HBL.out]; omega) (by rw [HA.out, HBL.out]; omega) (by rw [HA.out]; exact HD.out) H4.out
          rw [HA.out, if_pos rfl] at hn
          have HV := Lib.hid (numV_y hn)
          clear hn hfull hlen e
          generalize valD 0 (s.data.toList.drop 1) = v at *
          go_wp2
          go_ret2
          exact ⟨by rw [HV.out]; rfl, rfl⟩
  · have HA : Hid (atN s.data.toList = 0) := show _ = _ by unfold atN; rw [hh, if_neg (fun e => h45 (Option.some.inj e))]
    have e45 : ((s[0].toNat : Int) == 45) = false := by
        rw [beq_eq_false_iff_ne]
        exact fun h => h45 (UInt8.toNat_inj.1 (by show _ = 45; omega))
    clear hh h45
    have e1 : ((s.size : Int) == 0) = false := by rw [beq_eq_false_iff_ne]; omega
    by_cases h18 : 18 < s.size
    · have HV := Lib.hid (numV_n (num_len (l := s.data.toList) (.inr (by rw [HBL.out, HA.out]; omega))))
      go_enter Tryd.func56, Tryd.ntmps56
      go_wp2
      go_ret2
      exact ⟨by rw [HV.out]; rfl, rfl⟩
    have hq : 0 < s.size := by omega
    have hle : s.size ≤ 18 := by omega
    have hbq := byte_mem hq
    by_cases h48 : s[0].toNat = 48
    · have e48 : ((s[0].toNat : Int) == 48) = true := by rw [h48]; rfl
      by_cases hm : 1 < s.size
      · have HV := Lib.hid (numV_n (num_nought (l := s.data.toList) (b := s[0]) (by rw [HA.out]; exact hbq) h48 (by rw [HBL.out]; omega)))
        clear h48 hbq
        go_enter Tryd.func56, Tryd.ntmps56
        go_wp2
        go_ret2
        exact ⟨by rw [HV.out]; rfl, rfl⟩
      · have hs1 : s.size ≤ 1 := by omega
        clear h48 h18
        have H4 : Hid (∀ b, s.data.toList[atN s.data.toList]? = some b → b.toNat = 48 → s.data.toList.length = 1) := fun b hb h48 => by rw [HBL.out]; omega
        clear hbq
        go_enter Tryd.func56, Tryd.ntmps56
        go_wp2
        go_loop [5, 6] (fun n i => ∃ k : Nat, 0 ≤ k ∧ k ≤ s.size ∧ i = .int .i64 k ∧ n = .int .i64 ((valD 0 ((s.data.toList.drop 0).take (k - 0)) : Nat) : Int) ∧ Hid (∀ x ∈ (s.data.toList.drop 0).take (k - 0), isDg x = true)) (fun _ i => s.size - (intOf i).toNat)
        case atStart => exact ⟨0, by omega, by omega, rfl, by rw [start_v]; rfl, fun x hx => absurd hx (start_d _ _ _)⟩
        case round =>
          obtain ⟨k, hqk, hk, rfl, rfl, HD⟩ := hrel
          have hlen : ((s.data.toList.drop 0).take (k - 0)).length = k - 0 := by rw [List.length_take, List.length_drop, HBL.out]; omega
          by_cases hlt : k < s.size
          · have hbk := byte_mem hlt
            have hv := val_17 (by rw [hlen]; omega) HD.out
            have cD := l01Digit_any (s[k].toNat : Int) w
            rcases Bool.eq_false_or_eq_true (isDg s[k]) with k1 | k1
            · obtain ⟨d1, d2⟩ := dig_snoc hqk hbk HD.out k1
              have hrg := of_decide_eq_true k1
              rw [dg_inB, k1] at cD
              have HC := Lib.hid cD
              have HD1 := Lib.hid d1
              have HD2 := Lib.hid d2
              have hw8 : IntKind.u8.wrap ((s[k].toNat : Int) - 48) = (s[k].toNat : Int) - 48 := IntWalk.u8_in _ (by omega)
              clear cD d1 d2 k1 hbk hlen
              generalize valD 0 ((s.data.toList.drop 0).take (k - 0)) = v at *
              go_wp2_with fail; ((with_reducible refine HC.out.mono ?_); rintro e w' ⟨rfl, rfl⟩)
              go_wp2
              go_round
              case rel => exact ⟨k + 1, by omega, by omega, by go_num, by rw [HD2.out]; first | (go_num; done) | (congr 1; omega) | skip, HD1.out⟩
              case measure => simp [intOf]; omega
            · have HV := Lib.hid (numV_n (num_bad (l := s.data.toList) (by rw [HA.out]; exact hqk) hbk k1))
              rw [dg_inB, k1] at cD
              have HC := Lib.hid cD
              clear cD k1 hbk hlen
              go_wp2_with fail; ((with_reducible refine HC.out.mono ?_); rintro e w' ⟨rfl, rfl⟩)
              go_wp2
              go_ret2
              exact ⟨by rw [HV.out]; rfl, rfl⟩
          · have e : k = s.size := by omega
            have hfull : (s.data.toList.drop 0).take (k - 0) = s.data.toList.drop 0 := List.take_of_length_le (by rw [List.length_drop, HBL.out]; omega)
            rw [hfull] at HD ⊢
            have hv := val_18 (l := s.data.toList.drop 0) (by rw [List.length_drop, HBL.out]; omega) HD.out
            have hn := num_mk (l := s.data.toList) (by rw [HA.out, HBL.out]; omega) (by rw [HA.out, HBL.out]; omega) (by rw [HA.out]; exact HD.out) H4.out
            rw [HA.out, if_neg (by omega)] at hn
            have HV := Lib.hid (numV_y hn)
            clear hn hfull hlen e
            generalize valD 0 (s.data.toList.drop 0) = v at *
            go_wp2
            go_ret2
            exact ⟨by rw [HV.out]; rfl, rfl⟩
    · have e48 : ((s[0].toNat : Int) == 48) = false := by rw [beq_eq_false_iff_ne]; omega
      have H4 : Hid (∀ b, s.data.toList[atN s.data.toList]? = some b → b.toNat = 48 → s.data.toList.length = 1) := fun b hb h48 => by rw [HA.out, hbq] at hb; obtain rfl := Option.some.inj hb; exact absurd h48 (by assumption)
      clear hbq
      go_enter Tryd.func56, Tryd.ntmps56
      go_wp2
      go_loop [5, 6] (fun n i => ∃ k : Nat, 0 ≤ k ∧ k ≤ s.size ∧ i = .int .i64 k ∧ n = .int .i64 ((valD 0 ((s.data.toList.drop 0).take (k - 0)) : Nat) : Int) ∧ Hid (∀ x ∈ (s.data.toList.drop 0).take (k - 0), isDg x = true)) (fun _ i => s.size - (intOf i).toNat)
      case atStart => exact ⟨0, by omega, by omega, rfl, by rw [start_v]; rfl, fun x hx => absurd hx (start_d _ _ _)⟩
      case round =>
        obtain ⟨k, hqk, hk, rfl, rfl, HD⟩ := hrel
        have hlen : ((s.data.toList.drop 0).take (k - 0)).length = k - 0 := by rw [List.length_take, List.length_drop, HBL.out]; omega
        by_cases hlt : k < s.size
        · have hbk := byte_mem hlt
          have hv := val_17 (by rw [hlen]; omega) HD.out
          have cD := l01Digit_any (s[k].toNat : Int) w
          rcases Bool.eq_false_or_eq_true (isDg s[k]) with k1 | k1
          · obtain ⟨d1, d2⟩ := dig_snoc hqk hbk HD.out k1
            have hrg := of_decide_eq_true k1
            rw [dg_inB, k1] at cD
            have HC := Lib.hid cD
            have HD1 := Lib.hid d1
            have HD2 := Lib.hid d2
            have hw8 : IntKind.u8.wrap ((s[k].toNat : Int) - 48) = (s[k].toNat : Int) - 48 := IntWalk.u8_in _ (by omega)
            clear cD d1 d2 k1 hbk hlen
            generalize valD 0 ((s.data.toList.drop 0).take (k - 0)) = v at *
            go_wp2_with fail; ((with_reducible refine HC.out.mono ?_); rintro e w' ⟨rfl, rfl⟩)
            go_wp2
            go_round
            case rel => exact ⟨k + 1, by omega, by omega, by go_num, by rw [HD2.out]; first | (go_num; done) | (congr 1; omega) | skip, HD1.out⟩
            case measure => simp [intOf]; omega
          · have HV := Lib.hid (numV_n (num_bad (l := s.data.toList) (by rw [HA.out]; exact hqk) hbk k1))
            rw [dg_inB, k1] at cD
            have HC := Lib.hid cD
            clear cD k1 hbk hlen
            go_wp2_with fail; ((with_reducible refine HC.out.mono ?_); rintro e w' ⟨rfl, rfl⟩)
            go_wp2
            go_ret2
            exact ⟨by rw [HV.out]; rfl, rfl⟩
        · have e : k = s.size := by omega
          have hfull : (s.data.toList.drop 0).take (k - 0) = s.data.toList.drop 0 := List.take_of_length_le (by rw [List.length_drop, HBL.out]; omega)
          rw [hfull] at HD ⊢
          have hv := val_18 (l := s.data.toList.drop 0) (by rw [List.length_drop, HBL.out]; omega) HD.out
          have hn := num_mk (l := s.data.toList) (by rw [HA.out, HBL.out]; omega) (by rw [HA.out, HBL.out]; omega) (by rw [HA.out]; exact HD.out) H4.out
          rw [HA.out, if_neg (by omega)] at hn
          have HV := Lib.hid (numV_y hn)
          clear hn hfull hlen e
          generalize valD 0 (s.data.toList.drop 0) = v at *
          go_wp2
          go_ret2
          exact ⟨by rw [HV.out]; rfl, rfl⟩
end Go.Proofs.YtdooajiobpjihaaDoor
