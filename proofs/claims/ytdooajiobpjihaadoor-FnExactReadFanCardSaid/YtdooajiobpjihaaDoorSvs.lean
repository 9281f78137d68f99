/- Contracts of a survey and of lists of surveys: validity, bounds, the indices of an airway, common bounds. -/
import Derived.Test.YtdooajiobpjihaaDoorRSvy
import Derived.Test.YtdooajiobpjihaaDoorName
import Derived.Test.YtdooajiobpjihaaDoorLst
import Derived.Test.YtdooajiobpjihaaDoorLock
namespace Go.Proofs.YtdooajiobpjihaaDoor
set_option linter.unusedVariables false
set_option linter.unusedSimpArgs false
open Go.RowKit
theorem quietA {P : Program} {f : FuncId} {args : Array Value} {w : World} {a n : Nat} {v : Value}
    (h : Calls P f args (w.drewN (a + n)) fun e w' => e = .returned v ∧ w.drewN (a + n) = w') :
    Calls P f args (w.drewN (a + n)) fun e w'' => e = .returned v ∧ ∃ m, w'' = w.drewN (a + m) :=
  h.mono fun _ _ ⟨he, hm⟩ => ⟨he, n, hm.symm⟩
def svyOk (x : Svy) : Bool := isName x.s && inB x.d 0 10000 && inB x.e 0 10000 && inB x.f 1 100000 && inB x.g 0 (x.f - 1)
theorem svyOk_t {x : Svy} (h : svyOk x = true) : 0 ≤ x.d ∧ x.d ≤ 10000 ∧ 0 ≤ x.e ∧ x.e ≤ 10000 ∧ 1 ≤ x.f ∧ x.f ≤ 100000 ∧ 0 ≤ x.g ∧ x.g ≤ x.f - 1 ∧ x.s.size ≤ 10 := by
  unfold svyOk at h
  simp only [Bool.and_eq_true] at h
  have h1 := inB_t h.1.1.1.2
  have h2 := inB_t h.1.1.2
  have h3 := inB_t h.1.2
  have h4 := inB_t h.2
  have h5 := isName_size h.1.1.1.1
  omega
def asR (n : Int) : Int := min (max n 1) 1000000
theorem asR_bnd (n : Int) : 1 ≤ asR n ∧ asR n ≤ 1000000 := by unfold asR; omega
def lowOf (x : Svy) : Int := asR (max (x.d - x.e) 0 * 10000000000 / ((x.f + x.g) * (x.f + x.g)))
def highOf (x : Svy) : Int := asR (((x.d + x.e) * 10000000000 + (x.f - x.g) * (x.f - x.g) - 1) / ((x.f - x.g) * (x.f - x.g)))
theorem sq_bnd {m M : Int} (h1 : 1 ≤ m) (h2 : m ≤ M) : 1 ≤ m * m ∧ m * m ≤ M * M := by
  have a : 1 * 1 ≤ m * m := Int.mul_le_mul h1 h1 (by omega) (by omega)
  have b : m * m ≤ M * M := Int.mul_le_mul h2 h2 (by omega) (by omega)
  omega
set_option maxHeartbeats 1600000 in
theorem l05One_any (x : Svy) (p : Addr) (w : World) (hs : x.s.size ≤ maxLen) (hc : Cells w p x.cells) :
    Calls Tryd.prog 34 #[.pointer (some p)] w fun e w' => e = .returned (.bool (svyOk x)) ∧ ∃ n, w' = w.drewN n := by
  obtain ⟨h0, h1, h2, h3, h4⟩ := Svy.open_ hc
  clear hc
  rcases Bool.eq_false_or_eq_true (isName x.s) with k0 | k0
  · rcases Bool.eq_false_or_eq_true (inB x.d 0 10000) with k1 | k1
    · rcases Bool.eq_false_or_eq_true (inB x.e 0 10000) with k2 | k2
      · rcases Bool.eq_false_or_eq_true (inB x.f 1 100000) with k3 | k3
        · rcases Bool.eq_false_or_eq_true (inB x.g 0 (x.f - 1)) with k4 | k4
          · have hw : IntKind.i64.wrap (x.f - 1) = x.f - 1 := by have := inB_t k3; exact IntWalk.i64_in _ (by omega)
            go_enter Tryd.func34, Tryd.ntmps34
            go_wp2
            go_quiet ((first | (go_at_call 58; exact quietB' (l01Name_any _ _ hs) k0) | (go_at_call 57; first | exact quietB' (l00In_any _ _ _ _) k1 | exact quietB' (l00In_any _ _ _ _) k2 | exact quietB' (l00In_any _ _ _ _) k3 | exact quietB' (l00In_any _ _ _ _) k4)))
            go_wp2
            go_ret
            exact ⟨ret_bool (by simp [svyOk, k0, k1, k2, k3, k4]), _, rfl⟩
          · have hw : IntKind.i64.wrap (x.f - 1) = x.f - 1 := by have := inB_t k3; exact IntWalk.i64_in _ (by omega)
            go_enter Tryd.func34, Tryd.ntmps34
            go_wp2
            go_quiet ((first | (go_at_call 58; exact quietB' (l01Name_any _ _ hs) k0) | (go_at_call 57; first | exact quietB' (l00In_any _ _ _ _) k1 | exact quietB' (l00In_any _ _ _ _) k2 | exact quietB' (l00In_any _ _ _ _) k3 | exact quietB' (l00In_any _ _ _ _) k4)))
            go_wp2
            go_ret
            exact ⟨ret_bool (by simp [svyOk, k0, k1, k2, k3, k4]), _, rfl⟩
        · go_enter Tryd.func34, Tryd.ntmps34
          go_wp2
          go_quiet ((first | (go_at_call 58; exact quietB' (l01Name_any _ _ hs) k0) | (go_at_call 57; first | exact quietB' (l00In_any _ _ _ _) k1 | exact quietB' (l00In_any _ _ _ _) k2 | exact quietB' (l00In_any _ _ _ _) k3)))
          go_wp2
          go_ret
          exact ⟨ret_bool (by simp [svyOk, k0, k1, k2, k3]), _, rfl⟩
      · go_enter Tryd.func34, Tryd.ntmps34
        go_wp2
        go_quiet ((first | (go_at_call 58; exact quietB' (l01Name_any _ _ hs) k0) | (go_at_call 57; first | exact quietB' (l00In_any _ _ _ _) k1 | exact quietB' (l00In_any _ _ _ _) k2)))
        go_wp2
        go_ret
        exact ⟨ret_bool (by simp [svyOk, k0, k1, k2]), _, rfl⟩
    · go_enter Tryd.func34, Tryd.ntmps34
      go_wp2
      go_quiet ((first | (go_at_call 58; exact quietB' (l01Name_any _ _ hs) k0) | (go_at_call 57; first | exact quietB' (l00In_any _ _ _ _) k1)))
      go_wp2
      go_ret
      exact ⟨ret_bool (by simp [svyOk, k0, k1]), _, rfl⟩
  · go_enter Tryd.func34, Tryd.ntmps34
    go_wp2
    go_quiet ((first | (go_at_call 58; exact quietB' (l01Name_any _ _ hs) k0) | (go_at_call 57; first | fail)))
    go_wp2
    go_ret
    exact ⟨ret_bool (by simp [svyOk, k0]), _, rfl⟩
set_option maxHeartbeats 800000 in
theorem ValidSurvey_any (x : Svy) (w : World) (hs : x.s.size ≤ maxLen) :
    Calls Tryd.prog 45 #[.agg #[.string x.s, .int .i64 x.d, .int .i64 x.e, .int .i64 x.f, .int .i64 x.g]] w fun e w' => e = .returned (.bool (svyOk x)) ∧ Below w.heap.size w w' := by
  rcases Bool.eq_false_or_eq_true (isName x.s) with k0 | k0
  · rcases Bool.eq_false_or_eq_true (inB x.d 0 10000) with k1 | k1
    · rcases Bool.eq_false_or_eq_true (inB x.e 0 10000) with k2 | k2
      · rcases Bool.eq_false_or_eq_true (inB x.f 1 100000) with k3 | k3
        · rcases Bool.eq_false_or_eq_true (inB x.g 0 (x.f - 1)) with k4 | k4
          · have hf : inB x.f 1 100000 = true → 1 ≤ x.f ∧ x.f ≤ 100000 := inB_t
            have HK := Lib.hid hf
            clear hf
            have hf := HK.out k3
            go_enter Tryd.func45, Tryd.ntmps45
            go_wp2_with (first | (go_at_call 64; refine (isName_any _ _ hs).mono ?_; rintro e w' ⟨rfl, rfl⟩) | (go_at_call 65; refine (within_any _ _ _ _).mono ?_; rintro e w' ⟨rfl, rfl⟩))
            go_ret
            exact ⟨ret_bool (by simp [svyOk, k0, k1, k2, k3, k4]), by (repeat (first | exact Below.refl _ _ | assumption | (refine Below.alloc ?_ (by first | exact Nat.le_refl _ | (simp; done) | (simp; omega)) _) | (refine below_drewN ?_ _) | (refine Below.trans ?_ (Below.mono (by assumption) (by first | exact Nat.le_refl _ | (simp; done) | (simp; omega) | omega)))))⟩
          · have hf : inB x.f 1 100000 = true → 1 ≤ x.f ∧ x.f ≤ 100000 := inB_t
            have HK := Lib.hid hf
            clear hf
            have hf := HK.out k3
            go_enter Tryd.func45, Tryd.ntmps45
            go_wp2_with (first | (go_at_call 64; refine (isName_any _ _ hs).mono ?_; rintro e w' ⟨rfl, rfl⟩) | (go_at_call 65; refine (within_any _ _ _ _).mono ?_; rintro e w' ⟨rfl, rfl⟩))
            go_ret
            exact ⟨ret_bool (by simp [svyOk, k0, k1, k2, k3, k4]), by (repeat (first | exact Below.refl _ _ | assumption | (refine Below.alloc ?_ (by first | exact Nat.le_refl _ | (simp; done) | (simp; omega)) _) | (refine below_drewN ?_ _) | (refine Below.trans ?_ (Below.mono (by assumption) (by first | exact Nat.le_refl _ | (simp; done) | (simp; omega) | omega)))))⟩
        · have hf : inB x.f 1 100000 = true → 1 ≤ x.f ∧ x.f ≤ 100000 := inB_t
          have HK := Lib.hid hf
          clear hf
          go_enter Tryd.func45, Tryd.ntmps45
          go_wp2_with (first | (go_at_call 64; refine (isName_any _ _ hs).mono ?_; rintro e w' ⟨rfl, rfl⟩) | (go_at_call 65; refine (within_any _ _ _ _).mono ?_; rintro e w' ⟨rfl, rfl⟩))
          go_ret
          exact ⟨ret_bool (by simp [svyOk, k0, k1, k2, k3]), by (repeat (first | exact Below.refl _ _ | assumption | (refine Below.alloc ?_ (by first | exact Nat.le_refl _ | (simp; done) | (simp; omega)) _) | (refine below_drewN ?_ _) | (refine Below.trans ?_ (Below.mono (by assumption) (by first | exact Nat.le_refl _ | (simp; done) | (simp; omega) | omega)))))⟩
      · go_enter Tryd.func45, Tryd.ntmps45
        go_wp2_with (first | (go_at_call 64; refine (isName_any _ _ hs).mono ?_; rintro e w' ⟨rfl, rfl⟩) | (go_at_call 65; refine (within_any _ _ _ _).mono ?_; rintro e w' ⟨rfl, rfl⟩))
        go_ret
        exact ⟨ret_bool (by simp [svyOk, k0, k1, k2]), by (repeat (first | exact Below.refl _ _ | assumption | (refine Below.alloc ?_ (by first | exact Nat.le_refl _ | (simp; done) | (simp; omega)) _) | (refine below_drewN ?_ _) | (refine Below.trans ?_ (Below.mono (by assumption) (by first | exact Nat.le_refl _ | (simp; done) | (simp; omega) | omega)))))⟩
    · go_enter Tryd.func45, Tryd.ntmps45
      go_wp2_with (first | (go_at_call 64; refine (isName_any _ _ hs).mono ?_; rintro e w' ⟨rfl, rfl⟩) | (go_at_call 65; refine (within_any _ _ _ _).mono ?_; rintro e w' ⟨rfl, rfl⟩))
      go_ret
      exact ⟨ret_bool (by simp [svyOk, k0, k1]), by (repeat (first | exact Below.refl _ _ | assumption | (refine Below.alloc ?_ (by first | exact Nat.le_refl _ | (simp; done) | (simp; omega)) _) | (refine below_drewN ?_ _) | (refine Below.trans ?_ (Below.mono (by assumption) (by first | exact Nat.le_refl _ | (simp; done) | (simp; omega) | omega)))))⟩
  · go_enter Tryd.func45, Tryd.ntmps45
    go_wp2_with (first | (go_at_call 64; refine (isName_any _ _ hs).mono ?_; rintro e w' ⟨rfl, rfl⟩) | (go_at_call 65; refine (within_any _ _ _ _).mono ?_; rintro e w' ⟨rfl, rfl⟩))
    go_ret
    exact ⟨ret_bool (by simp [svyOk, k0]), by (repeat (first | exact Below.refl _ _ | assumption | (refine Below.alloc ?_ (by first | exact Nat.le_refl _ | (simp; done) | (simp; omega)) _) | (refine below_drewN ?_ _) | (refine Below.trans ?_ (Below.mono (by assumption) (by first | exact Nat.le_refl _ | (simp; done) | (simp; omega) | omega)))))⟩
end Go.Proofs.YtdooajiobpjihaaDoor
