/- Contracts of the lists with one number for each junction or each airway. -/
import Derived.Test.YtjmhhbjbmgpagaaMine
import Derived.Test.YtjmhhbjbmgpagaaLst
import Derived.Test.YtjmhhbjbmgpagaaAir
namespace Go.Proofs.Ytjmhhbjbmgpagaa
set_option linter.unusedVariables false
set_option linter.unusedSimpArgs false
open Go.RowKit
def lstOk (N l h : Int) (xs : List Int) : Bool := allIn l h xs && ((xs.length : Int) == N)
theorem lstOk_t {N l h : Int} {xs : List Int} (e : lstOk N l h xs = true) : (xs.length : Int) = N ∧ ∀ x ∈ xs, l ≤ x ∧ x ≤ h := by
  unfold lstOk at e
  rw [Bool.and_eq_true, beq_iff_eq] at e
  exact ⟨e.2, fun x hx => allIn_mem e.1 hx⟩
theorem lst_at {N l h : Int} {xs : List Int} (e : lstOk N l h xs = true) {k : Nat} (hk : (k : Int) < N) : ∃ b, xs[k]? = some b ∧ l ≤ b ∧ b ≤ h := by
  obtain ⟨h1, h2⟩ := lstOk_t e
  have hl : k < xs.length := by omega
  exact ⟨xs[k], List.getElem?_eq_getElem hl, h2 _ (List.getElem_mem hl)⟩
/-- A number of a list, found behind its address. -/
theorem Reads.int_at {w : World} {B n : Nat} {A : Option Addr} {xs : List Int} (hr : Reads w B 1 A n (ints xs)) {k : Nat} {b : Int} (hb : xs[k]? = some b) : ∃ ad, A = some ad ∧ ad.block < B ∧ k < n ∧ w.cell? (ad.add k) = some (.int .i64 b) := by
  have hl := ints_len hr
  have hk : k < xs.length := by
    rcases Nat.lt_or_ge k xs.length with h1 | h1
    · exact h1
    · rw [List.getElem?_eq_none h1] at hb; cases hb
  obtain ⟨ad, u, e, had, hx, hc⟩ := hr.at_ (k := k) (by omega)
  obtain ⟨b', hb', rfl⟩ := ints_at hx
  rw [hb] at hb'
  injection hb' with hb'
  subst hb'
  exact ⟨ad, e, had, by omega, hc⟩
set_option maxHeartbeats 800000 in
theorem l09Levels_any (J : Int) (p : Addr) (A : Option Addr) (n c : Nat) (xs : List Int) (w : World) (hr : Reads w w.heap.size 1 A n (ints xs)) (hn : n ≤ 1048576) (h0 : w.cell? p = some (.int .i64 J)) :
    Calls Try.prog 92 #[.pointer (some p), .slice A n c] w fun e w' => e = .returned (.bool (lstOk J (-3000) 3000 xs)) ∧ w = w' := by
  have HL := Lib.hid (ints_len hr)
  rcases Bool.eq_false_or_eq_true ((n : Int) == J) with hnj | hnj
  all_goals
    have HN := Lib.hid hnj
    go_enter Try.func92, Try.ntmps92
    go_wp2
    go_loop [5] (fun i => ∃ k : Nat, k ≤ n ∧ i = .int .i64 k ∧ Hid ((xs.take k).all (fun x => inB x (-3000) 3000) = true)) (fun i => n - (intOf i).toNat)
    case atStart => exact ⟨0, by omega, rfl, rfl⟩
    case round =>
      obtain ⟨k, hk, rfl, HK⟩ := hrel
      by_cases hlt : k < n
      · obtain ⟨ad, u, rfl, had, hx, hc⟩ := hr.at_ hlt
        obtain ⟨b, hb, rfl⟩ := ints_at hx
        have HX := Lib.hid hb
        clear hb hx
        cases hp : inB b (-3000) 3000
        · have HP : Hid (inB b (-3000) 3000 = false) := hp
          go_wp2_with (go_at_call 77; refine (l00In_any _ _ _ _).mono ?_; rintro e w' ⟨rfl, rfl⟩)
          go_ret
          exact ⟨ret_bool (by unfold lstOk allIn; rw [all_false (p := fun x => inB x (-3000) 3000) HX.out HP.out, Bool.false_and]), rfl⟩
        · have HP : Hid (inB b (-3000) 3000 = true) := hp
          go_wp2_with (go_at_call 77; refine (l00In_any _ _ _ _).mono ?_; rintro e w' ⟨rfl, rfl⟩)
          go_round
          case rel => exact ⟨k + 1, by omega, by go_num, all_take HX.out HK.out HP.out⟩
          case measure => simp [intOf]; omega
      · have e : k = n := by omega
        subst e
        have HA : Hid (allIn (-3000) 3000 xs = true) := all_whole HL.out HK.out
        go_wp2
        go_ret
        exact ⟨ret_bool (by unfold lstOk; rw [HA.out, HL.out, HN.out]; first | rfl | simp_all), rfl⟩
set_option maxHeartbeats 800000 in
theorem l07Flows_any (m : Nat) (M : Option Addr) (d : Nat) (p : Addr) (A : Option Addr) (n c : Nat) (xs : List Int) (w : World) (hr : Reads w w.heap.size 1 A n (ints xs)) (hn : n ≤ 1048576) (h0 : w.cell? ⟨p.block, p.off + 1, none⟩ = some (.slice M m d)) :
    Calls Try.prog 51 #[.pointer (some p), .slice A n c] w fun e w' => e = .returned (.bool (lstOk (m : Int) (-100000) 100000 xs)) ∧ w = w' := by
  have HL := Lib.hid (ints_len hr)
  rcases Bool.eq_false_or_eq_true ((n : Int) == (m : Int)) with hnj | hnj
  all_goals
    have HN := Lib.hid hnj
    go_enter Try.func51, Try.ntmps51
    go_wp2
    go_loop [5] (fun i => ∃ k : Nat, k ≤ n ∧ i = .int .i64 k ∧ Hid ((xs.take k).all (fun x => inB x (-100000) 100000) = true)) (fun i => n - (intOf i).toNat)
    case atStart => exact ⟨0, by omega, rfl, rfl⟩
    case round =>
      obtain ⟨k, hk, rfl, HK⟩ := hrel
      by_cases hlt : k < n
      · obtain ⟨ad, u, rfl, had, hx, hc⟩ := hr.at_ hlt
        obtain ⟨b, hb, rfl⟩ := ints_at hx
        have HX := Lib.hid hb
        clear hb hx
        cases hp : inB b (-100000) 100000
        · have HP : Hid (inB b (-100000) 100000 = false) := hp
          go_wp2_with (go_at_call 49; refine ((show Calls Try.prog _ _ _ (fun e w' => e = .returned (.bool (inB _ (-100000) 100000)) ∧ _ = w') from l03Flow_any _ _)).mono ?_; rintro e w' ⟨rfl, rfl⟩)
          go_ret
          exact ⟨ret_bool (by unfold lstOk allIn; rw [all_false (p := fun x => inB x (-100000) 100000) HX.out HP.out, Bool.false_and]), rfl⟩
        · have HP : Hid (inB b (-100000) 100000 = true) := hp
          go_wp2_with (go_at_call 49; refine ((show Calls Try.prog _ _ _ (fun e w' => e = .returned (.bool (inB _ (-100000) 100000)) ∧ _ = w') from l03Flow_any _ _)).mono ?_; rintro e w' ⟨rfl, rfl⟩)
          go_round
          case rel => exact ⟨k + 1, by omega, by go_num, all_take HX.out HK.out HP.out⟩
          case measure => simp [intOf]; omega
      · have e : k = n := by omega
        subst e
        have HA : Hid (allIn (-100000) 100000 xs = true) := all_whole HL.out HK.out
        go_wp2
        go_ret
        exact ⟨ret_bool (by unfold lstOk; rw [HA.out, HL.out, HN.out]; first | rfl | simp_all), rfl⟩
set_option maxHeartbeats 800000 in
theorem l09Temps_any (m : Nat) (M : Option Addr) (d : Nat) (p : Addr) (A : Option Addr) (n c : Nat) (xs : List Int) (w : World) (hr : Reads w w.heap.size 1 A n (ints xs)) (hn : n ≤ 1048576) (h0 : w.cell? ⟨p.block, p.off + 1, none⟩ = some (.slice M m d)) :
    Calls Try.prog 93 #[.pointer (some p), .slice A n c] w fun e w' => e = .returned (.bool (lstOk (m : Int) (-300) 600 xs)) ∧ w = w' := by
  have HL := Lib.hid (ints_len hr)
  rcases Bool.eq_false_or_eq_true ((n : Int) == (m : Int)) with hnj | hnj
  all_goals
    have HN := Lib.hid hnj
    go_enter Try.func93, Try.ntmps93
    go_wp2
    go_loop [5] (fun i => ∃ k : Nat, k ≤ n ∧ i = .int .i64 k ∧ Hid ((xs.take k).all (fun x => inB x (-300) 600) = true)) (fun i => n - (intOf i).toNat)
    case atStart => exact ⟨0, by omega, rfl, rfl⟩
    case round =>
      obtain ⟨k, hk, rfl, HK⟩ := hrel
      by_cases hlt : k < n
      · obtain ⟨ad, u, rfl, had, hx, hc⟩ := hr.at_ hlt
        obtain ⟨b, hb, rfl⟩ := ints_at hx
        have HX := Lib.hid hb
        clear hb hx
        cases hp : inB b (-300) 600
        · have HP : Hid (inB b (-300) 600 = false) := hp
          go_wp2_with (go_at_call 142; refine (l09Temp_any _ _).mono ?_; rintro e w' ⟨rfl, rfl⟩)
          go_ret
          exact ⟨ret_bool (by unfold lstOk allIn; rw [all_false (p := fun x => inB x (-300) 600) HX.out HP.out, Bool.false_and]), rfl⟩
        · have HP : Hid (inB b (-300) 600 = true) := hp
          go_wp2_with (go_at_call 142; refine (l09Temp_any _ _).mono ?_; rintro e w' ⟨rfl, rfl⟩)
          go_round
          case rel => exact ⟨k + 1, by omega, by go_num, all_take HX.out HK.out HP.out⟩
          case measure => simp [intOf]; omega
      · have e : k = n := by omega
        subst e
        have HA : Hid (allIn (-300) 600 xs = true) := all_whole HL.out HK.out
        go_wp2
        go_ret
        exact ⟨ret_bool (by unfold lstOk; rw [HA.out, HL.out, HN.out]; first | rfl | simp_all), rfl⟩
theorem hasLevels_any (J : Int) (B : Option Addr) (m d : Nat) (A : Option Addr) (n c : Nat) (xs : List Int) (w : World) (hr : Reads w w.heap.size 1 A n (ints xs)) (hn : n ≤ 1048576) :
    Calls Try.prog 96 #[.agg #[.int .i64 J, .slice B m d], .slice A n c] w fun e w' => e = .returned (.bool (lstOk J (-3000) 3000 xs)) ∧ Below w.heap.size w w' := by
  have HL := Lib.hid (ints_len hr)
  have hb : Below w.heap.size w (w.alloc (.cells #[.int .i64 J, .slice B m d] 31)) := (Below.refl _ _).alloc (Nat.le_refl _) _
  have cc := allWithin_any A n c xs (-3000) 3000 _ ((hr.below hb).more hb.size) (by omega)
  clear hb
  rcases Bool.eq_false_or_eq_true ((n : Int) == J) with hnj | hnj
  all_goals
    have HN := Lib.hid hnj
    go_enter Try.func96, Try.ntmps96
    go_wp2_with fail; try ((with_reducible refine (cc).mono ?_); rintro e w1 ⟨rfl, hb1⟩; go_wp2)
    go_ret
    refine ⟨ret_bool (by unfold lstOk; rw [HL.out, HN.out]; simp), ?_⟩
    first
    | exact (show Below w.heap.size w _ by (repeat (first | exact Below.refl _ _ | assumption | (refine Below.alloc ?_ (by first | exact Nat.le_refl _ | (simp; done) | (simp; omega)) _) | (refine below_drewN ?_ _) | (refine Below.trans ?_ (Below.mono (by assumption) (by first | exact Nat.le_refl _ | (simp; done) | (simp; omega) | omega)))))).trans (hb1.mono (by simp))
    | (repeat (first | exact Below.refl _ _ | assumption | (refine Below.alloc ?_ (by first | exact Nat.le_refl _ | (simp; done) | (simp; omega)) _) | (refine below_drewN ?_ _) | (refine Below.trans ?_ (Below.mono (by assumption) (by first | exact Nat.le_refl _ | (simp; done) | (simp; omega) | omega)))))
theorem hasList_any (J : Int) (B : Option Addr) (m d : Nat) (A : Option Addr) (n c : Nat) (l h : Int) (xs : List Int) (w : World) (hr : Reads w w.heap.size 1 A n (ints xs)) (hn : n ≤ 1048576) :
    Calls Try.prog 67 #[.agg #[.int .i64 J, .slice B m d], .slice A n c, .int .i64 l, .int .i64 h] w fun e w' => e = .returned (.bool (lstOk m l h xs)) ∧ Below w.heap.size w w' := by
  have HL := Lib.hid (ints_len hr)
  have hb : Below w.heap.size w (w.alloc (.cells #[.int .i64 J, .slice B m d] 31)) := (Below.refl _ _).alloc (Nat.le_refl _) _
  have cc := allWithin_any A n c xs l h _ ((hr.below hb).more hb.size) (by omega)
  clear hb
  rcases Bool.eq_false_or_eq_true ((n : Int) == (m : Int)) with hnj | hnj
  all_goals
    have HN := Lib.hid hnj
    go_enter Try.func67, Try.ntmps67
    go_wp2_with fail; try ((with_reducible refine (cc).mono ?_); rintro e w1 ⟨rfl, hb1⟩; go_wp2)
    go_ret
    refine ⟨ret_bool (by unfold lstOk; rw [HL.out, HN.out]; simp), ?_⟩
    first
    | exact (show Below w.heap.size w _ by (repeat (first | exact Below.refl _ _ | assumption | (refine Below.alloc ?_ (by first | exact Nat.le_refl _ | (simp; done) | (simp; omega)) _) | (refine below_drewN ?_ _) | (refine Below.trans ?_ (Below.mono (by assumption) (by first | exact Nat.le_refl _ | (simp; done) | (simp; omega) | omega)))))).trans (hb1.mono (by simp))
    | (repeat (first | exact Below.refl _ _ | assumption | (refine Below.alloc ?_ (by first | exact Nat.le_refl _ | (simp; done) | (simp; omega)) _) | (refine below_drewN ?_ _) | (refine Below.trans ?_ (Below.mono (by assumption) (by first | exact Nat.le_refl _ | (simp; done) | (simp; omega) | omega)))))
theorem hasFlows_any (J : Int) (B : Option Addr) (m d : Nat) (A : Option Addr) (n c : Nat) (xs : List Int) (w : World) (hr : Reads w w.heap.size 1 A n (ints xs)) (hn : n ≤ 1048576) :
    Calls Try.prog 56 #[.agg #[.int .i64 J, .slice B m d], .slice A n c] w fun e w' => e = .returned (.bool (lstOk m (-100000) 100000 xs)) ∧ Below w.heap.size w w' := by
  have hb : Below w.heap.size w (w.alloc (.cells #[.int .i64 J, .slice B m d] 31)) := (Below.refl _ _).alloc (Nat.le_refl _) _
  have cc := hasList_any J B m d A n c (-100000) 100000 xs _ ((hr.below hb).more hb.size) hn
  clear hb
  go_enter Try.func56, Try.ntmps56
  go_wp2_with fail; ((with_reducible refine (cc).mono ?_); rintro e w1 ⟨rfl, hb1⟩)
  go_wp2
  go_ret
  exact ⟨rfl, (show Below w.heap.size w _ by (repeat (first | exact Below.refl _ _ | assumption | (refine Below.alloc ?_ (by first | exact Nat.le_refl _ | (simp; done) | (simp; omega)) _) | (refine below_drewN ?_ _) | (refine Below.trans ?_ (Below.mono (by assumption) (by first | exact Nat.le_refl _ | (simp; done) | (simp; omega) | omega)))))).trans (hb1.mono (by simp))⟩
end Go.Proofs.Ytjmhhbjbmgpagaa
