/- Contract of the reference's putting of a number into a list in order. -/
import Derived.Test.YtapophggndlhaaaSrp
import Derived.Test.YtapophggndlhaaaMade
namespace Go.Proofs.Ytapophggndlhaaa
set_option linter.unusedVariables false
set_option linter.unusedSimpArgs false
open Go.RowKit
/-- What the loop has made of the first k numbers, and whether the new one is in. -/
def putK (xs : List Int) (x : Int) (k : Nat) : List Int := if (xs.take k).any (fun y => decide (x ≤ y)) = true then putL (xs.take k) x else xs.take k
def putB (xs : List Int) (x : Int) (k : Nat) : Bool := (xs.take k).any (fun y => decide (x ≤ y))
theorem putL_no : ∀ {xs : List Int} {x : Int}, xs.any (fun y => decide (x ≤ y)) = false → putL xs x = xs ++ [x]
  | [], x, _ => rfl
  | y :: r, x, h => by
    simp only [List.any_cons, Bool.or_eq_false_iff, decide_eq_false_iff_not] at h
    unfold putL
    rw [if_neg h.1, putL_no (by simpa using h.2)]; rfl
theorem putL_yes : ∀ {xs : List Int} {x : Int} (z : Int), xs.any (fun y => decide (x ≤ y)) = true → putL (xs ++ [z]) x = putL xs x ++ [z]
  | [], x, z, h => by cases h
  | y :: r, x, z, h => by
    show putL (y :: (r ++ [z])) x = _
    unfold putL
    split
    · split
      · rfl
      · rfl
    · rename_i h1
      have h2 : r.any (fun y => decide (x ≤ y)) = true := by
        simp only [List.any_cons, Bool.or_eq_true, decide_eq_true_eq] at h
        rcases h with h | h
        · exact absurd h h1
        · exact h
      rw [putL_yes z h2]; rfl
theorem putK_0 (xs : List Int) (x : Int) : putK xs x 0 = [] ∧ putB xs x 0 = false := ⟨rfl, rfl⟩
theorem take_sn {xs : List Int} {k : Nat} {y : Int} (h : xs[k]? = some y) : xs.take (k + 1) = xs.take k ++ [y] := by rw [List.take_add_one, h]; rfl
theorem putK_in {xs : List Int} {x y : Int} {k : Nat} (h : xs[k]? = some y) (hb : putB xs x k = true) : putK xs x (k + 1) = putK xs x k ++ [y] ∧ putB xs x (k + 1) = true := by
  have h1 : (xs.take (k + 1)).any (fun y => decide (x ≤ y)) = true := by
    rw [take_sn h, List.any_append]
    unfold putB at hb
    rw [hb]; rfl
  refine ⟨?_, h1⟩
  unfold putK
  unfold putB at hb
  rw [if_pos h1, if_pos hb, take_sn h, putL_yes y hb]
theorem putK_lt {xs : List Int} {x y : Int} {k : Nat} (h : xs[k]? = some y) (hb : putB xs x k = false) (hy : y < x) : putK xs x (k + 1) = putK xs x k ++ [y] ∧ putB xs x (k + 1) = false := by
  unfold putB at hb
  have h1 : (xs.take (k + 1)).any (fun y => decide (x ≤ y)) = false := by
    rw [take_sn h, List.any_append, hb]
    simp; omega
  refine ⟨?_, h1⟩
  unfold putK
  rw [if_neg (by rw [h1]; simp), if_neg (by rw [hb]; simp), take_sn h]
theorem putL_mid {xs : List Int} {x y : Int} (hb : xs.any (fun y => decide (x ≤ y)) = false) (hy : x ≤ y) : putL (xs ++ [y]) x = xs ++ (if x < y then [x, y] else [y]) := by
  induction xs with
  | nil =>
    show putL [y] x = _
    unfold putL
    rw [if_pos hy]
    split <;> rfl
  | cons z r ih =>
    simp only [List.any_cons, Bool.or_eq_false_iff, decide_eq_false_iff_not] at hb
    show putL (z :: (r ++ [y])) x = _
    unfold putL
    rw [if_neg hb.1, ih (by simpa using hb.2)]; rfl
theorem putK_eq {xs : List Int} {x y : Int} {k : Nat} (h : xs[k]? = some y) (hb : putB xs x k = false) (hy : x ≤ y) : putK xs x (k + 1) = putK xs x k ++ (if x < y then [x, y] else [y]) ∧ putB xs x (k + 1) = true := by
  unfold putB at hb
  have h1 : (xs.take (k + 1)).any (fun y => decide (x ≤ y)) = true := by
    rw [take_sn h, List.any_append]
    simp [hy]
  refine ⟨?_, h1⟩
  unfold putK
  rw [if_pos h1, if_neg (by rw [hb]; simp), take_sn h, putL_mid hb hy]
theorem putK_all {xs : List Int} {x : Int} {n : Nat} (hn : xs.length = n) : putL xs x = if putB xs x n = true then putK xs x n else putK xs x n ++ [x] := by
  have ht : xs.take n = xs := List.take_of_length_le (by omega)
  unfold putB putK
  rw [ht]
  cases hb : xs.any (fun y => decide (x ≤ y)) with
  | true => simp
  | false => rw [putL_no hb]; simp
theorem putK_len {xs : List Int} {x : Int} (k : Nat) : (putK xs x k).length ≤ k + 1 := by
  unfold putK
  split
  · have := putL_len (xs.take k) x
    rw [List.length_take] at this; omega
  · rw [List.length_take]; omega
set_option maxHeartbeats 1600000 in
set_option maxRecDepth 100000 in
theorem l00Put_any (A : Option Addr) (n c : Nat) (xs : List Int) (x : Int) (w : World) (hr : Reads w w.heap.size 1 A n (ints xs)) (hn : n ≤ 1000) :
    Calls Try.prog 60 #[.slice A n c, .int .i64 x] w fun e w' => ∃ (A' : Option Addr) (n' c' : Nat), e = .returned (.slice A' n' c') ∧ w'.ownsRow w.heap.size 2 1 (.slice A' n' c') n' (ints (putL xs x)) ∧ Below w.heap.size w w' := by
  have HL := Lib.hid (ints_len hr)
  obtain ⟨i0, hi0, hz0, hz1, hz2⟩ := info_parts info_Int64S
  go_enter Try.func60, Try.ntmps60
  go_wp2
  go_loopw [5, 6, 7] (fun o b i wr => ∃ (k m : Nat) (A' : Option Addr) (c' : Nat), k ≤ n ∧ m ≤ 2 * k ∧ o = .slice A' m c' ∧ b = .bool (putB xs x k) ∧ i = .int .i64 k ∧ wr.ownsRow w.heap.size 2 1 (.slice A' m c') m (ints (putK xs x k)) ∧ Below w.heap.size w wr) (fun _ _ i _ => n - (intOf i).toNat)
  case atStart => exact ⟨0, 0, _, 0, by omega, by omega, rfl, rfl, rfl, own_empty _ _ _, by (repeat (first | exact Below.refl _ _ | assumption | (refine Below.alloc ?_ (by first | exact Nat.le_refl _ | (simp; done) | (simp; omega)) _) | (refine below_drewN ?_ _) | (refine Below.trans ?_ (Below.mono (by assumption) (by first | exact Nat.le_refl _ | (simp; done) | (simp; omega) | omega)))))⟩
  case round =>
    obtain ⟨k, m, A', c', hk, hm, rfl, rfl, rfl, hown, hbr⟩ := hrel
    obtain ⟨wo, rfl⟩ : ∃ wo : World, wo = wr := ⟨_, rfl⟩
    have HO := Lib.hid hown
    clear hown
    by_cases hlt : k < n
    · obtain ⟨ad, u, rfl, had, hx, h0⟩ := hr.at_ hlt
      obtain ⟨y, hy, rfl⟩ := ints_at hx
      have hc := (hbr.cell (block_lt_of_cell h0)).trans h0
      have hkI : (k : Int) < (n : Int) := by omega
      rcases Bool.eq_false_or_eq_true (putB xs x k) with hb | hb
      · obtain ⟨h1, h2⟩ := putK_in hy hb
        have H1 := Lib.hid h1
        have H2 := Lib.hid h2
        rw [hb]
        clear h1 h2 hy hx hb
        go_wp2_with (at_builtin; (refine wpList_app _ rfl _ _ 53 rfl w.heap.size 2 i0 _ 1 8 Try.underlying53 hi0 hz0 hz1 hz2 rfl (by omega) A' _ c' _ rfl ((HO.out).alloc _) ⟨_, 0, none⟩ 1 1 [.int .i64 y] rfl rfl (cell_one_at (by simp) _ _) (by simp [Value.oneCell']) (by unfold maxLen; omega) (by omega) (by have hz := (hbr).size; simp at hz ⊢; omega) ?_); intro A1 c1 w3 ho3 hb3)
        go_roundw
        case rel => exact ⟨k + 1, m + 1, A1, c1, by omega, by omega, rfl, by rw [H2.out], by go_num, by rw [H1.out]; simpa [ints] using ho3, (hbr.alloc hbr.size _).trans hb3⟩
        case measure => simp [intOf]; omega
      · rw [hb]
        by_cases hyx : x ≤ y
        · obtain ⟨h1, h2⟩ := putK_eq hy hb hyx
          by_cases hlx : x < y
          · rw [if_pos hlx] at h1
            have H1 := Lib.hid h1
            have H2 := Lib.hid h2
            have d1 : decide (x ≤ y) = true := decide_eq_true hyx
            have d2 : decide (x < y) = true := decide_eq_true hlx
            clear h1 h2 hy hx hb
            go_wp2_with (first | (at_builtin; (refine wpList_app _ rfl _ _ 53 rfl w.heap.size 2 i0 _ 1 8 Try.underlying53 hi0 hz0 hz1 hz2 rfl (by omega) A' _ c' _ rfl ((HO.out).alloc _) ⟨_, 0, none⟩ 1 1 [.int .i64 x] rfl rfl (cell_one_at (by simp) _ _) (by simp [Value.oneCell']) (by unfold maxLen; omega) (by omega) (by have hz := (hbr).size; simp at hz ⊢; omega) ?_); intro A1 c1 w3 ho3 hb3; have hbr3 := (hbr.alloc hbr.size _).trans hb3; have HO3 := Lib.hid ho3; have hc3 := (hbr3.cell (block_lt_of_cell h0)).trans h0; clear ho3 hb3) | (at_builtin; (refine wpList_app _ rfl _ _ 53 rfl w.heap.size 2 i0 _ 1 8 Try.underlying53 hi0 hz0 hz1 hz2 rfl (by omega) A1 _ c1 _ rfl ((HO3.out).alloc _) ⟨_, 0, none⟩ 1 1 [.int .i64 y] rfl rfl (cell_one_at (by simp) _ _) (by simp [Value.oneCell']) (by unfold maxLen; omega) (by omega) (by have hz := (hbr3).size; simp at hz ⊢; omega) ?_); intro A2 c2 w4 ho4 hb4))
            go_roundw
            case rel => exact ⟨k + 1, m + 1 + 1, A2, c2, by omega, by omega, rfl, by rw [H2.out], by go_num, by rw [H1.out]; simpa [ints] using ho4, (hbr3.alloc hbr3.size _).trans hb4⟩
            case measure => simp [intOf]; omega
          · rw [if_neg hlx] at h1
            have H1 := Lib.hid h1
            have H2 := Lib.hid h2
            have d1 : decide (x ≤ y) = true := decide_eq_true hyx
            have d2 : decide (x < y) = false := decide_eq_false hlx
            clear h1 h2 hy hx hb
            go_wp2_with (at_builtin; (refine wpList_app _ rfl _ _ 53 rfl w.heap.size 2 i0 _ 1 8 Try.underlying53 hi0 hz0 hz1 hz2 rfl (by omega) A' _ c' _ rfl ((HO.out).alloc _) ⟨_, 0, none⟩ 1 1 [.int .i64 y] rfl rfl (cell_one_at (by simp) _ _) (by simp [Value.oneCell']) (by unfold maxLen; omega) (by omega) (by have hz := (hbr).size; simp at hz ⊢; omega) ?_); intro A1 c1 w3 ho3 hb3)
            go_roundw
            case rel => exact ⟨k + 1, m + 1, A1, c1, by omega, by omega, rfl, by rw [H2.out], by go_num, by rw [H1.out]; simpa [ints] using ho3, (hbr.alloc hbr.size _).trans hb3⟩
            case measure => simp [intOf]; omega
        · obtain ⟨h1, h2⟩ := putK_lt hy hb (by omega)
          have H1 := Lib.hid h1
          have H2 := Lib.hid h2
          have d1 : decide (x ≤ y) = false := decide_eq_false hyx
          clear h1 h2 hy hx hb
          go_wp2_with (at_builtin; (refine wpList_app _ rfl _ _ 53 rfl w.heap.size 2 i0 _ 1 8 Try.underlying53 hi0 hz0 hz1 hz2 rfl (by omega) A' _ c' _ rfl ((HO.out).alloc _) ⟨_, 0, none⟩ 1 1 [.int .i64 y] rfl rfl (cell_one_at (by simp) _ _) (by simp [Value.oneCell']) (by unfold maxLen; omega) (by omega) (by have hz := (hbr).size; simp at hz ⊢; omega) ?_); intro A1 c1 w3 ho3 hb3)
          go_roundw
          case rel => exact ⟨k + 1, m + 1, A1, c1, by omega, by omega, rfl, by rw [H2.out], by go_num, by rw [H1.out]; simpa [ints] using ho3, (hbr.alloc hbr.size _).trans hb3⟩
          case measure => simp [intOf]; omega
    · have e : k = n := by omega
      have hp := putK_all (x := x) HL.out
      rw [← e] at hp
      have HP := Lib.hid hp
      clear hp e
      rcases Bool.eq_false_or_eq_true (putB xs x k) with hb | hb
      · have HV : Hid (putL xs x = putK xs x k) := show _ = _ by rw [HP.out, if_pos hb]
        rw [hb]
        clear hb
        go_wp2
        go_ret
        exact ⟨A', m, c', rfl, by rw [HV.out]; exact HO.out, hbr⟩
      · have HV : Hid (putL xs x = putK xs x k ++ [x]) := show _ = _ by rw [HP.out, if_neg (by rw [hb]; simp)]
        rw [hb]
        clear hb
        go_wp2_with (at_builtin; (refine wpList_app _ rfl _ _ 53 rfl w.heap.size 2 i0 _ 1 8 Try.underlying53 hi0 hz0 hz1 hz2 rfl (by omega) A' _ c' _ rfl ((HO.out).alloc _) ⟨_, 0, none⟩ 1 1 [.int .i64 x] rfl rfl (cell_one_at (by simp) _ _) (by simp [Value.oneCell']) (by unfold maxLen; omega) (by omega) (by have hz := (hbr).size; simp at hz ⊢; omega) ?_); intro A1 c1 w3 ho3 hb3)
        go_wp2
        go_ret
        exact ⟨A1, m + 1, c1, rfl, by rw [HV.out]; simpa [ints] using ho3, (hbr.alloc hbr.size _).trans hb3⟩
end Go.Proofs.Ytapophggndlhaaa
