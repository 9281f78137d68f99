/- Contracts of the test of an airway, and of its ends. -/
import Derived.Test.YtnfallanjndbcaaRAwy
import Derived.Test.YtnfallanjndbcaaName
import Derived.Test.YtnfallanjndbcaaFanH
namespace Go.Proofs.Ytnfallanjndbcaa
set_option linter.unusedVariables false
set_option linter.unusedSimpArgs false
open Go.RowKit
theorem quietE' {P : Program} {f : FuncId} {args : Array Value} {w : World} {n : Nat} {b c : Bool}
    (h : Calls P f args (w.drewN n) fun e w' => e = .returned (.bool b) ∧ w.drewN n = w') (hb : b = c) : Calls P f args (w.drewN n) fun e w'' => e = .returned (.bool c) ∧ ∃ m, w'' = w.drewN m :=
  h.mono fun _ _ ⟨he, hm⟩ => ⟨by rw [he, hb], n, hm.symm⟩
theorem quietBD {P : Program} {f : FuncId} {args : Array Value} {w : World} {n : Nat} {b c : Bool}
    (h : Calls P f args (w.drewN n) fun e w' => e = .returned (.bool b) ∧ ∃ m, w' = (w.drewN n).drewN m) (hb : b = c) : Calls P f args (w.drewN n) fun e w'' => e = .returned (.bool c) ∧ ∃ m, w'' = w.drewN m :=
  Calls.quiet_of (h.mono fun _ _ ⟨he, hm⟩ => ⟨by rw [he, hb], hm⟩)
def awyOk (x : Awy) : Bool := isName x.s && inB x.a 0 15 && inB x.b 0 15 && !(x.a == x.b) && inB x.l 1 10000 && inB x.c 50 5000 && inB x.f 1 1000 && inB x.h 0 1000
theorem awyOk_t {x : Awy} (h : awyOk x = true) : (0 ≤ x.a ∧ x.a ≤ 15) ∧ (0 ≤ x.b ∧ x.b ≤ 15) ∧ x.a ≠ x.b ∧ (1 ≤ x.l ∧ x.l ≤ 10000) ∧ (50 ≤ x.c ∧ x.c ≤ 5000) ∧ (1 ≤ x.f ∧ x.f ≤ 1000) ∧ (0 ≤ x.h ∧ x.h ≤ 1000) := by
  unfold awyOk at h
  simp only [Bool.and_eq_true, Bool.not_eq_true', beq_eq_false_iff_ne, ne_eq] at h
  have h1 := inB_t h.1.1.1.1.1.1.2
  have h2 := inB_t h.1.1.1.1.1.2
  have h3 := inB_t h.1.1.1.2
  have h4 := inB_t h.1.1.2
  have h5 := inB_t h.1.2
  have h6 := inB_t h.2
  exact ⟨h1, h2, h.1.1.1.1.2, h3, h4, h5, h6⟩
set_option maxHeartbeats 1600000 in
theorem l03Ok_any (x : Awy) (p : Addr) (w : World) (hs : x.s.size ≤ maxLen) (hc : Cells w p x.cells) :
    Calls Try.prog 27 #[.pointer (some p)] w fun e w' => e = .returned (.bool (awyOk x)) ∧ ∃ n, w' = w.drewN n := by
  obtain ⟨h0, h1, h2, h3, h4, h5, h6⟩ := Awy.open_ hc
  clear hc
  rcases Bool.eq_false_or_eq_true (isName x.s) with k0 | k0
  · rcases Bool.eq_false_or_eq_true (inB x.a 0 15) with k1 | k1
    · rcases Bool.eq_false_or_eq_true (inB x.b 0 15) with k2 | k2
      · rcases Bool.eq_false_or_eq_true (x.a == x.b) with k3 | k3
        · go_enter Try.func27, Try.ntmps27
          go_wp2
          go_quiet ((first | (go_at_call 44; exact quietE' (l01Name_any _ _ hs) k0) | (go_at_call 26; first | exact quietE' (l00In_any _ _ _ _) k1 | exact quietE' (l00In_any _ _ _ _) k2)))
          go_wp2_with (go_at_call 26; refine (l00In_any _ _ _ _).mono ?_; rintro e w' ⟨rfl, rfl⟩)
          go_ret
          exact ⟨ret_bool (by simp [awyOk, k0, k1, k2, k3]), _, rfl⟩
        · rcases Bool.eq_false_or_eq_true (inB x.l 1 10000) with k4 | k4
          · rcases Bool.eq_false_or_eq_true (inB x.c 50 5000) with k5 | k5
            · rcases Bool.eq_false_or_eq_true (inB x.f 1 1000) with k6 | k6
              · rcases Bool.eq_false_or_eq_true (inB x.h 0 1000) with k7 | k7
                · go_enter Try.func27, Try.ntmps27
                  go_wp2
                  go_quiet ((first | (go_at_call 44; exact quietE' (l01Name_any _ _ hs) k0) | (go_at_call 26; first | exact quietE' (l00In_any _ _ _ _) k1 | exact quietE' (l00In_any _ _ _ _) k2)))
                  go_wp2_with (go_at_call 26; refine (l00In_any _ _ _ _).mono ?_; rintro e w' ⟨rfl, rfl⟩)
                  go_ret
                  exact ⟨ret_bool (by simp [awyOk, k0, k1, k2, k3, k4, k5, k6, k7]), _, rfl⟩
                · go_enter Try.func27, Try.ntmps27
                  go_wp2
                  go_quiet ((first | (go_at_call 44; exact quietE' (l01Name_any _ _ hs) k0) | (go_at_call 26; first | exact quietE' (l00In_any _ _ _ _) k1 | exact quietE' (l00In_any _ _ _ _) k2)))
                  go_wp2_with (go_at_call 26; refine (l00In_any _ _ _ _).mono ?_; rintro e w' ⟨rfl, rfl⟩)
                  go_ret
                  exact ⟨ret_bool (by simp [awyOk, k0, k1, k2, k3, k4, k5, k6, k7]), _, rfl⟩
              · go_enter Try.func27, Try.ntmps27
                go_wp2
                go_quiet ((first | (go_at_call 44; exact quietE' (l01Name_any _ _ hs) k0) | (go_at_call 26; first | exact quietE' (l00In_any _ _ _ _) k1 | exact quietE' (l00In_any _ _ _ _) k2)))
                go_wp2_with (go_at_call 26; refine (l00In_any _ _ _ _).mono ?_; rintro e w' ⟨rfl, rfl⟩)
                go_ret
                exact ⟨ret_bool (by simp [awyOk, k0, k1, k2, k3, k4, k5, k6]), _, rfl⟩
            · go_enter Try.func27, Try.ntmps27
              go_wp2
              go_quiet ((first | (go_at_call 44; exact quietE' (l01Name_any _ _ hs) k0) | (go_at_call 26; first | exact quietE' (l00In_any _ _ _ _) k1 | exact quietE' (l00In_any _ _ _ _) k2)))
              go_wp2_with (go_at_call 26; refine (l00In_any _ _ _ _).mono ?_; rintro e w' ⟨rfl, rfl⟩)
              go_ret
              exact ⟨ret_bool (by simp [awyOk, k0, k1, k2, k3, k4, k5]), _, rfl⟩
          · go_enter Try.func27, Try.ntmps27
            go_wp2
            go_quiet ((first | (go_at_call 44; exact quietE' (l01Name_any _ _ hs) k0) | (go_at_call 26; first | exact quietE' (l00In_any _ _ _ _) k1 | exact quietE' (l00In_any _ _ _ _) k2)))
            go_wp2_with (go_at_call 26; refine (l00In_any _ _ _ _).mono ?_; rintro e w' ⟨rfl, rfl⟩)
            go_ret
            exact ⟨ret_bool (by simp [awyOk, k0, k1, k2, k3, k4]), _, rfl⟩
      · go_enter Try.func27, Try.ntmps27
        go_wp2
        go_quiet ((first | (go_at_call 44; exact quietE' (l01Name_any _ _ hs) k0) | (go_at_call 26; first | exact quietE' (l00In_any _ _ _ _) k1 | exact quietE' (l00In_any _ _ _ _) k2)))
        go_wp2_with (go_at_call 26; refine (l00In_any _ _ _ _).mono ?_; rintro e w' ⟨rfl, rfl⟩)
        go_ret
        exact ⟨ret_bool (by simp [awyOk, k0, k1, k2]), _, rfl⟩
    · go_enter Try.func27, Try.ntmps27
      go_wp2
      go_quiet ((first | (go_at_call 44; exact quietE' (l01Name_any _ _ hs) k0) | (go_at_call 26; first | exact quietE' (l00In_any _ _ _ _) k1)))
      go_wp2_with (go_at_call 26; refine (l00In_any _ _ _ _).mono ?_; rintro e w' ⟨rfl, rfl⟩)
      go_ret
      exact ⟨ret_bool (by simp [awyOk, k0, k1]), _, rfl⟩
  · go_enter Try.func27, Try.ntmps27
    go_wp2
    go_quiet ((first | (go_at_call 44; exact quietE' (l01Name_any _ _ hs) k0) | (go_at_call 26; first | fail)))
    go_wp2_with (go_at_call 26; refine (l00In_any _ _ _ _).mono ?_; rintro e w' ⟨rfl, rfl⟩)
    go_ret
    exact ⟨ret_bool (by simp [awyOk, k0]), _, rfl⟩
theorem junctionOk_any (n : Int) (w : World) :
    Calls Try.prog 49 #[.int .i64 n] w fun e w' => e = .returned (.bool (inB n 0 15)) ∧ w = w' := by
  go_enter Try.func49, Try.ntmps49
  go_wp2_with fail; ((with_reducible refine (within_any _ _ _ _).mono ?_); rintro e w' ⟨rfl, rfl⟩)
  go_wp2
  go_ret
  exact ⟨rfl, rfl⟩
set_option maxHeartbeats 1600000 in
theorem ValidAirway_any (x : Awy) (w : World) (hs : x.s.size ≤ maxLen) :
    Calls Try.prog 34 #[.agg #[.string x.s, .int .i64 x.a, .int .i64 x.b, .int .i64 x.l, .int .i64 x.c, .int .i64 x.f, .int .i64 x.h]] w fun e w' => e = .returned (.bool (awyOk x)) ∧ Below w.heap.size w w' := by
  rcases Bool.eq_false_or_eq_true (isName x.s) with k0 | k0
  · rcases Bool.eq_false_or_eq_true (inB x.a 0 15) with k1 | k1
    · rcases Bool.eq_false_or_eq_true (inB x.b 0 15) with k2 | k2
      · rcases Bool.eq_false_or_eq_true (x.a == x.b) with k3 | k3
        · have kn : (x.a != x.b) = false := by simp [bne, k3]
          go_enter Try.func34, Try.ntmps34
          go_wp2_with (first | (go_at_call 48; refine (isName_any _ _ hs).mono ?_; rintro e w' ⟨rfl, rfl⟩) | (go_at_call 49; refine (junctionOk_any _ _).mono ?_; rintro e w' ⟨rfl, rfl⟩) | (go_at_call 33; refine (within_any _ _ _ _).mono ?_; rintro e w' ⟨rfl, rfl⟩))
          go_ret
          exact ⟨ret_bool (by simp [awyOk, k0, k1, k2, k3]), by (repeat (first | exact Below.refl _ _ | assumption | (refine Below.alloc ?_ (by first | exact Nat.le_refl _ | (simp; done) | (simp; omega)) _) | (refine below_drewN ?_ _) | (refine Below.trans ?_ (Below.mono (by assumption) (by first | exact Nat.le_refl _ | (simp; done) | (simp; omega) | omega)))))⟩
        · rcases Bool.eq_false_or_eq_true (inB x.l 1 10000) with k4 | k4
          · rcases Bool.eq_false_or_eq_true (inB x.c 50 5000) with k5 | k5
            · rcases Bool.eq_false_or_eq_true (inB x.f 1 1000) with k6 | k6
              · rcases Bool.eq_false_or_eq_true (inB x.h 0 1000) with k7 | k7
                · have kn : (x.a != x.b) = true := by simp [bne, k3]
                  go_enter Try.func34, Try.ntmps34
                  go_wp2_with (first | (go_at_call 48; refine (isName_any _ _ hs).mono ?_; rintro e w' ⟨rfl, rfl⟩) | (go_at_call 49; refine (junctionOk_any _ _).mono ?_; rintro e w' ⟨rfl, rfl⟩) | (go_at_call 33; refine (within_any _ _ _ _).mono ?_; rintro e w' ⟨rfl, rfl⟩))
                  go_ret
                  exact ⟨ret_bool (by simp [awyOk, k0, k1, k2, k3, k4, k5, k6, k7]), by (repeat (first | exact Below.refl _ _ | assumption | (refine Below.alloc ?_ (by first | exact Nat.le_refl _ | (simp; done) | (simp; omega)) _) | (refine below_drewN ?_ _) | (refine Below.trans ?_ (Below.mono (by assumption) (by first | exact Nat.le_refl _ | (simp; done) | (simp; omega) | omega)))))⟩
                · have kn : (x.a != x.b) = true := by simp [bne, k3]
                  go_enter Try.func34, Try.ntmps34
                  go_wp2_with (first | (go_at_call 48; refine (isName_any _ _ hs).mono ?_; rintro e w' ⟨rfl, rfl⟩) | (go_at_call 49; refine (junctionOk_any _ _).mono ?_; rintro e w' ⟨rfl, rfl⟩) | (go_at_call 33; refine (within_any _ _ _ _).mono ?_; rintro e w' ⟨rfl, rfl⟩))
                  go_ret
                  exact ⟨ret_bool (by simp [awyOk, k0, k1, k2, k3, k4, k5, k6, k7]), by (repeat (first | exact Below.refl _ _ | assumption | (refine Below.alloc ?_ (by first | exact Nat.le_refl _ | (simp; done) | (simp; omega)) _) | (refine below_drewN ?_ _) | (refine Below.trans ?_ (Below.mono (by assumption) (by first | exact Nat.le_refl _ | (simp; done) | (simp; omega) | omega)))))⟩
              · have kn : (x.a != x.b) = true := by simp [bne, k3]
                go_enter Try.func34, Try.ntmps34
                go_wp2_with (first | (go_at_call 48; refine (isName_any _ _ hs).mono ?_; rintro e w' ⟨rfl, rfl⟩) | (go_at_call 49; refine (junctionOk_any _ _).mono ?_; rintro e w' ⟨rfl, rfl⟩) | (go_at_call 33; refine (within_any _ _ _ _).mono ?_; rintro e w' ⟨rfl, rfl⟩))
                go_ret
                exact ⟨ret_bool (by simp [awyOk, k0, k1, k2, k3, k4, k5, k6]), by (repeat (first | exact Below.refl _ _ | assumption | (refine Below.alloc ?_ (by first | exact Nat.le_refl _ | (simp; done) | (simp; omega)) _) | (refine below_drewN ?_ _) | (refine Below.trans ?_ (Below.mono (by assumption) (by first | exact Nat.le_refl _ | (simp; done) | (simp; omega) | omega)))))⟩
            · have kn : (x.a != x.b) = true := by simp [bne, k3]
              go_enter Try.func34, Try.ntmps34
              go_wp2_with (first | (go_at_call 48; refine (isName_any _ _ hs).mono ?_; rintro e w' ⟨rfl, rfl⟩) | (go_at_call 49; refine (junctionOk_any _ _).mono ?_; rintro e w' ⟨rfl, rfl⟩) | (go_at_call 33; refine (within_any _ _ _ _).mono ?_; rintro e w' ⟨rfl, rfl⟩))
              go_ret
              exact ⟨ret_bool (by simp [awyOk, k0, k1, k2, k3, k4, k5]), by (repeat (first | exact Below.refl _ _ | assumption | (refine Below.alloc ?_ (by first | exact Nat.le_refl _ | (simp; done) | (simp; omega)) _) | (refine below_drewN ?_ _) | (refine Below.trans ?_ (Below.mono (by assumption) (by first | exact Nat.le_refl _ | (simp; done) | (simp; omega) | omega)))))⟩
          · have kn : (x.a != x.b) = true := by simp [bne, k3]
            go_enter Try.func34, Try.ntmps34
            go_wp2_with (first | (go_at_call 48; refine (isName_any _ _ hs).mono ?_; rintro e w' ⟨rfl, rfl⟩) | (go_at_call 49; refine (junctionOk_any _ _).mono ?_; rintro e w' ⟨rfl, rfl⟩) | (go_at_call 33; refine (within_any _ _ _ _).mono ?_; rintro e w' ⟨rfl, rfl⟩))
            go_ret
            exact ⟨ret_bool (by simp [awyOk, k0, k1, k2, k3, k4]), by (repeat (first | exact Below.refl _ _ | assumption | (refine Below.alloc ?_ (by first | exact Nat.le_refl _ | (simp; done) | (simp; omega)) _) | (refine below_drewN ?_ _) | (refine Below.trans ?_ (Below.mono (by assumption) (by first | exact Nat.le_refl _ | (simp; done) | (simp; omega) | omega)))))⟩
      · go_enter Try.func34, Try.ntmps34
        go_wp2_with (first | (go_at_call 48; refine (isName_any _ _ hs).mono ?_; rintro e w' ⟨rfl, rfl⟩) | (go_at_call 49; refine (junctionOk_any _ _).mono ?_; rintro e w' ⟨rfl, rfl⟩) | (go_at_call 33; refine (within_any _ _ _ _).mono ?_; rintro e w' ⟨rfl, rfl⟩))
        go_ret
        exact ⟨ret_bool (by simp [awyOk, k0, k1, k2]), by (repeat (first | exact Below.refl _ _ | assumption | (refine Below.alloc ?_ (by first | exact Nat.le_refl _ | (simp; done) | (simp; omega)) _) | (refine below_drewN ?_ _) | (refine Below.trans ?_ (Below.mono (by assumption) (by first | exact Nat.le_refl _ | (simp; done) | (simp; omega) | omega)))))⟩
    · go_enter Try.func34, Try.ntmps34
      go_wp2_with (first | (go_at_call 48; refine (isName_any _ _ hs).mono ?_; rintro e w' ⟨rfl, rfl⟩) | (go_at_call 49; refine (junctionOk_any _ _).mono ?_; rintro e w' ⟨rfl, rfl⟩) | (go_at_call 33; refine (within_any _ _ _ _).mono ?_; rintro e w' ⟨rfl, rfl⟩))
      go_ret
      exact ⟨ret_bool (by simp [awyOk, k0, k1]), by (repeat (first | exact Below.refl _ _ | assumption | (refine Below.alloc ?_ (by first | exact Nat.le_refl _ | (simp; done) | (simp; omega)) _) | (refine below_drewN ?_ _) | (refine Below.trans ?_ (Below.mono (by assumption) (by first | exact Nat.le_refl _ | (simp; done) | (simp; omega) | omega)))))⟩
  · go_enter Try.func34, Try.ntmps34
    go_wp2_with (first | (go_at_call 48; refine (isName_any _ _ hs).mono ?_; rintro e w' ⟨rfl, rfl⟩) | (go_at_call 49; refine (junctionOk_any _ _).mono ?_; rintro e w' ⟨rfl, rfl⟩) | (go_at_call 33; refine (within_any _ _ _ _).mono ?_; rintro e w' ⟨rfl, rfl⟩))
    go_ret
    exact ⟨ret_bool (by simp [awyOk, k0]), by (repeat (first | exact Below.refl _ _ | assumption | (refine Below.alloc ?_ (by first | exact Nat.le_refl _ | (simp; done) | (simp; omega)) _) | (refine below_drewN ?_ _) | (refine Below.trans ?_ (Below.mono (by assumption) (by first | exact Nat.le_refl _ | (simp; done) | (simp; omega) | omega)))))⟩
theorem l04Junction_any (J j : Int) (p : Addr) (w : World) (hJ : -9223372036854775808 < J) (hJ2 : J ≤ 9223372036854775807) (h0 : w.cell? p = some (.int .i64 J)) :
    Calls Try.prog 14 #[.pointer (some p), .int .i64 j] w fun e w' => e = .returned (.bool (inB j 0 (J - 1))) ∧ w = w' := by
  go_enter Try.func14, Try.ntmps14
  go_wp2_with fail; ((with_reducible refine (l00In_any _ _ _ _).mono ?_); rintro e w' ⟨rfl, rfl⟩)
  go_wp2
  go_ret
  exact ⟨rfl, rfl⟩
theorem hasJunction_any (J : Int) (V : Value) (j : Int) (w : World) (hV : ∃ A n c, V = .slice A n c) (hJ : -9223372036854775808 < J) (hJ2 : J ≤ 9223372036854775807) :
    Calls Try.prog 19 #[.agg #[.int .i64 J, V], .int .i64 j] w fun e w' => e = .returned (.bool (inB j 0 (J - 1))) ∧ Below w.heap.size w w' := by
  obtain ⟨A, n, c, rfl⟩ := hV
  go_enter Try.func19, Try.ntmps19
  go_wp2_with fail; ((with_reducible refine (within_any _ _ _ _).mono ?_); rintro e w' ⟨rfl, rfl⟩)
  go_wp2
  go_ret
  exact ⟨rfl, by (repeat (first | exact Below.refl _ _ | assumption | (refine Below.alloc ?_ (by first | exact Nat.le_refl _ | (simp; done) | (simp; omega)) _) | (refine below_drewN ?_ _) | (refine Below.trans ?_ (Below.mono (by assumption) (by first | exact Nat.le_refl _ | (simp; done) | (simp; omega) | omega)))))⟩
theorem hasEnds_any (J : Int) (A : Option Addr) (n c : Nat) (x : Awy) (w : World) (hJ : -9223372036854775808 < J) (hJ2 : J ≤ 9223372036854775807) :
    Calls Try.prog 35 #[.agg #[.int .i64 J, .slice A n c], .agg #[.string x.s, .int .i64 x.a, .int .i64 x.b, .int .i64 x.l, .int .i64 x.c, .int .i64 x.f, .int .i64 x.h]] w fun e w' => e = .returned (.bool (inB x.a 0 (J - 1) && inB x.b 0 (J - 1))) ∧ Below w.heap.size w w' := by
  cases k : inB x.a 0 (J - 1)
  · go_enter Try.func35, Try.ntmps35
    go_wp2_with fail; ((with_reducible refine (hasJunction_any J (.slice A n c) x.a _ ⟨A, n, c, rfl⟩ hJ hJ2).mono ?_); rintro e w1 ⟨rfl, hb1⟩)
    rw [k]
    go_wp2
    go_ret
    exact ⟨rfl, (show Below w.heap.size w _ by (repeat (first | exact Below.refl _ _ | assumption | (refine Below.alloc ?_ (by first | exact Nat.le_refl _ | (simp; done) | (simp; omega)) _) | (refine below_drewN ?_ _) | (refine Below.trans ?_ (Below.mono (by assumption) (by first | exact Nat.le_refl _ | (simp; done) | (simp; omega) | omega)))))).trans (hb1.mono (by simp; omega))⟩
  · go_enter Try.func35, Try.ntmps35
    go_wp2_with fail; ((with_reducible refine (hasJunction_any J (.slice A n c) x.a _ ⟨A, n, c, rfl⟩ hJ hJ2).mono ?_); rintro e w1 ⟨rfl, hb1⟩)
    rw [k]
    obtain ⟨hc1, hf1⟩ := bcell hb1
    have z1 : w.heap.size < w1.heap.size := by have h := hb1.size; simp at h; omega
    have z2 : w.heap.size + 1 < w1.heap.size := by have h := hb1.size; simp at h; omega
    have B1 : Below w.heap.size w w1 := (show Below w.heap.size w _ by (repeat (first | exact Below.refl _ _ | assumption | (refine Below.alloc ?_ (by first | exact Nat.le_refl _ | (simp; done) | (simp; omega)) _) | (refine below_drewN ?_ _) | (refine Below.trans ?_ (Below.mono (by assumption) (by first | exact Nat.le_refl _ | (simp; done) | (simp; omega) | omega)))))).trans (hb1.mono (by simp; omega))
    go_wp2_with fail; ((with_reducible refine (hasJunction_any J (.slice A n c) x.b _ ⟨A, n, c, rfl⟩ hJ hJ2).mono ?_); rintro e w2 ⟨rfl, hb2⟩)
    go_wp2
    go_ret
    exact ⟨ret_bool (by simp), B1.trans (hb2.mono B1.size)⟩
end Go.Proofs.Ytnfallanjndbcaa
