/- Contracts of cmp.Compare and slices.Compare at numbers. -/
import Derived.Test.YtnaggimfialbfaaLock
namespace Go.Proofs.Ytnaggimfialbfaa
set_option linter.unusedVariables false
set_option linter.unusedSimpArgs false
open Go.RowKit
def cmpI (a b : Int) : Int := if a < b then -1 else if b < a then 1 else 0
def cmpL : List Int → List Int → Int
  | [], [] => 0
  | [], _ :: _ => -1
  | _ :: _, [] => 1
  | x :: xs, y :: ys => if cmpI x y = 0 then cmpL xs ys else cmpI x y
theorem cmpI_range (a b : Int) : cmpI a b = -1 ∨ cmpI a b = 0 ∨ cmpI a b = 1 := by unfold cmpI; split <;> (try split) <;> simp
theorem cmpL_step {xs ys : List Int} {k : Nat} {x y : Int} (hx : xs[k]? = some x) (hy : ys[k]? = some y) :
    cmpL (xs.drop k) (ys.drop k) = if cmpI x y = 0 then cmpL (xs.drop (k + 1)) (ys.drop (k + 1)) else cmpI x y := by
  obtain ⟨h1, h2⟩ := List.getElem?_eq_some_iff.1 hx
  obtain ⟨h3, h4⟩ := List.getElem?_eq_some_iff.1 hy
  rw [List.drop_eq_getElem_cons h1, List.drop_eq_getElem_cons h3, h2, h4]
  rfl
theorem cmpL_out {xs ys : List Int} {k : Nat} (hx : k < xs.length) (hy : ys.length ≤ k) : cmpL (xs.drop k) (ys.drop k) = 1 := by
  rw [List.drop_eq_getElem_cons hx, List.drop_of_length_le hy]; rfl
theorem cmpL_end {xs ys : List Int} {k : Nat} (hx : xs.length ≤ k) : cmpL (xs.drop k) (ys.drop k) = if k < ys.length then -1 else 0 := by
  rw [List.drop_of_length_le hx]
  by_cases h : k < ys.length
  · rw [if_pos h, List.drop_eq_getElem_cons h]; rfl
  · rw [if_neg h, List.drop_of_length_le (by omega)]; rfl
theorem isNaN_any (a : Int) (w : World) : Calls Try.prog 98 #[.int .i64 a] w fun e w' => e = .returned (.bool false) ∧ w = w' := by
  go_enter Try.func98, Try.ntmps98
  go_wp2
  go_ret
  exact ⟨ret_bool (by simp), rfl⟩
theorem cmpI_any (a b : Int) (w : World) : Calls Try.prog 79 #[.int .i64 a, .int .i64 b] w fun e w' => e = .returned (.int .i64 (cmpI a b)) ∧ w = w' := by
  rcases Int.lt_trichotomy a b with h | h | h
  · have HE : Hid (cmpI a b = -1) := show cmpI a b = -1 by unfold cmpI; rw [if_pos h]
    go_enter Try.func79, Try.ntmps79
    go_wp2_with (go_at_call 98; refine (isNaN_any _ _).mono ?_; rintro e w' ⟨rfl, rfl⟩)
    go_ret
    exact ⟨ret_int HE.out.symm, rfl⟩
  · subst h
    have HE : Hid (cmpI a a = 0) := show cmpI a a = 0 by unfold cmpI; rw [if_neg (Int.lt_irrefl _), if_neg (Int.lt_irrefl _)]
    go_enter Try.func79, Try.ntmps79
    go_wp2_with (go_at_call 98; refine (isNaN_any _ _).mono ?_; rintro e w' ⟨rfl, rfl⟩)
    go_ret
    exact ⟨ret_int HE.out.symm, rfl⟩
  · have HE : Hid (cmpI a b = 1) := show cmpI a b = 1 by unfold cmpI; rw [if_neg (by omega), if_pos h]
    have h' : b ≤ a := by omega
    go_enter Try.func79, Try.ntmps79
    go_wp2_with (go_at_call 98; refine (isNaN_any _ _).mono ?_; rintro e w' ⟨rfl, rfl⟩)
    go_ret
    exact ⟨ret_int HE.out.symm, rfl⟩
set_option maxHeartbeats 1600000 in
theorem cmpL_any (A B : Option Addr) (n c m d : Nat) (xs ys : List Int) (w : World) (hr : Reads w w.heap.size 1 A n (ints xs)) (hq : Reads w w.heap.size 1 B m (ints ys)) (hn : n ≤ 1099511627776) (hm : m ≤ 1099511627776) :
    Calls Try.prog 52 #[.slice A n c, .slice B m d] w fun e w' => e = .returned (.int .i64 (cmpL xs ys)) ∧ w = w' := by
  have HL := Lib.hid (ints_len hr)
  have HM := Lib.hid (ints_len hq)
  go_enter Try.func52, Try.ntmps52
  go_wp2
  go_loop [11] (fun i => ∃ k : Nat, k ≤ n ∧ i = .int .i64 k ∧ Hid (cmpL xs ys = cmpL (xs.drop k) (ys.drop k))) (fun i => n - (intOf i).toNat)
  case atStart => exact ⟨0, by omega, rfl, rfl⟩
  case round =>
    obtain ⟨k, hk, rfl, HK⟩ := hrel
    by_cases hlt : k < n
    · obtain ⟨ad, u, rfl, had, hx, hc⟩ := hr.at_ hlt
      obtain ⟨a, ha, rfl⟩ := ints_at hx
      by_cases hlm : k < m
      · obtain ⟨bd, v, rfl, hbd, hy, hc'⟩ := hq.at_ hlm
        obtain ⟨b, hb, rfl⟩ := ints_at hy
        have HS := Lib.hid (cmpL_step ha hb)
        have hkm : (k : Int) < (m : Int) := by omega
        clear ha hb hx hy
        by_cases h0 : cmpI a b = 0
        · have HE : Hid (cmpL xs ys = cmpL (xs.drop (k + 1)) (ys.drop (k + 1))) := show cmpL xs ys = _ by rw [HK.out, HS.out, if_pos h0]
          go_wp2_with (go_at_call 79; refine (cmpI_any _ _ _).mono ?_; rintro e w' ⟨rfl, rfl⟩; rw [h0])
          go_round
          case rel => exact ⟨k + 1, by omega, by go_num, HE.out⟩
          case measure => simp [intOf]; omega
        · have HE : Hid (cmpL xs ys = cmpI a b) := show cmpL xs ys = _ by rw [HK.out, HS.out, if_neg h0]
          go_wp2_with (go_at_call 79; refine (cmpI_any _ _ _).mono ?_; rintro e w' ⟨rfl, rfl⟩)
          go_ret
          exact ⟨ret_int HE.out.symm, rfl⟩
      · have HE : Hid (cmpL xs ys = 1) := show cmpL xs ys = _ by rw [HK.out, cmpL_out (by rw [HL.out]; exact hlt) (by rw [HM.out]; omega)]
        go_wp2
        go_ret
        exact ⟨ret_int HE.out.symm, rfl⟩
    · have e : k = n := by omega
      subst e
      have HE : Hid (cmpL xs ys = if k < m then -1 else 0) := show cmpL xs ys = _ by rw [HK.out, cmpL_end (by rw [HL.out]; omega), HM.out]
      by_cases hlm : k < m
      · have HF : Hid (cmpL xs ys = -1) := show cmpL xs ys = _ by rw [HE.out, if_pos hlm]
        go_wp2
        go_ret
        exact ⟨ret_int HF.out.symm, rfl⟩
      · have HF : Hid (cmpL xs ys = 0) := show cmpL xs ys = _ by rw [HE.out, if_neg hlm]
        go_wp2
        go_ret
        exact ⟨ret_int HF.out.symm, rfl⟩
end Go.Proofs.Ytnaggimfialbfaa
