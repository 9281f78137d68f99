/- Contracts of resistances and conductances. -/
import Derived.Test.YtoghblpddbpimaaRootC
namespace Go.Proofs.Ytoghblpddbpimaa
set_option linter.unusedVariables false
set_option linter.unusedSimpArgs false
open Go.RowKit
def isRes (r : Int) : Bool := inB r 1 1000000
theorem isRes_t {r : Int} (h : isRes r = true) : 1 ≤ r ∧ r ≤ 1000000 := inB_t h
def cond (r : Int) : Int := rootI (10000000000000000 / r)
def condR (r : Int) : Int × Int := if isRes r = true then (cond r, 0) else (0, 2)
def orifR (r : Int) : Int × Int := if isRes r = true then (rootI (14161000000 / r), 0) else (0, 2)
theorem quo_bnd {a r : Int} (ha : 0 ≤ a) (h : isRes r = true) : 0 ≤ a / r ∧ a / r ≤ a := ediv_bounds ha (by have := isRes_t h; omega) (Int.le_refl _)
theorem cond_bnd {r : Int} (h : isRes r = true) : 100000 ≤ cond r ∧ cond r ≤ 100000000 := by
  have h1 := isRes_t h
  have h2 := quo_bnd (a := 10000000000000000) (by omega) h
  refine ⟨?_, (rootI_bnd (n := 10000000000000000 / r) (M := 100000000) (m := 0) (by omega) (by omega)).2⟩
  refine (rootI_le (by omega)).2 (.inr ?_)
  have h3 : 10000000000 ≤ 10000000000000000 / r := by
    apply Int.le_ediv_of_mul_le (by omega)
    omega
  omega
theorem l03Res_any (r : Int) (w : World) :
    Calls Try.prog 38 #[.int .i64 r] w fun e w' => e = .returned (.bool (isRes r)) ∧ w = w' := by
  go_enter Try.func38, Try.ntmps38
  go_wp2_with (go_at_call 43; refine (l00In_any _ _ _ _).mono ?_; rintro e w' ⟨rfl, rfl⟩)
  go_ret
  exact ⟨rfl, rfl⟩
theorem resistanceOk_any (r : Int) (w : World) :
    Calls Try.prog 33 #[.int .i64 r] w fun e w' => e = .returned (.bool (isRes r)) ∧ w = w' := by
  go_enter Try.func33, Try.ntmps33
  go_wp2_with (go_at_call 32; refine (within_any _ _ _ _).mono ?_; rintro e w' ⟨rfl, rfl⟩)
  go_ret
  exact ⟨rfl, rfl⟩
theorem l08Conductance_any (r : Int) (w : World) (h : isRes r = true) :
    Calls Try.prog 41 #[.int .i64 r] w fun e w' => e = .returned (.int .i64 (cond r)) ∧ w = w' := by
  obtain ⟨h1, h2⟩ := isRes_t h
  obtain ⟨h3, h4⟩ := quo_bnd (a := 10000000000000000) (by omega) h
  have h5 : r ≠ 0 := by omega
  clear h
  go_enter Try.func41, Try.ntmps41
  go_wp2_with (go_at_call 39; refine (l01Root_any _ _ (by omega) (by omega)).mono ?_; rintro e w' ⟨rfl, rfl⟩)
  go_ret
  exact ⟨rfl, rfl⟩
theorem conductance_any (r : Int) (w : World) (h : isRes r = true) :
    Calls Try.prog 42 #[.int .i64 r] w fun e w' => e = .returned (.int .i64 (cond r)) ∧ Below w.heap.size w w' := by
  obtain ⟨h1, h2⟩ := isRes_t h
  obtain ⟨h3, h4⟩ := quo_bnd (a := 10000000000000000) (by omega) h
  have h5 : r ≠ 0 := by omega
  clear h
  go_enter Try.func42, Try.ntmps42
  go_wp2_with (go_at_call 40; refine (rootOf_any _ _ (by omega)).mono ?_; rintro e w' ⟨rfl, hb⟩)
  go_ret
  exact ⟨rfl, hb⟩
theorem specConductanceOf_any (r : Int) (w : World) :
    Calls Try.prog 23 #[.int .i64 r] w fun e w' => e = .returned (.tuple #[.int .i64 (condR r).1, .int .i64 (condR r).2]) ∧ w = w' := by
  rcases Bool.eq_false_or_eq_true (isRes r) with h | h
  all_goals
    go_enter Try.func23, Try.ntmps23
    go_wp2_with (first | (go_at_call 38; refine (l03Res_any _ _).mono ?_; rintro e w' ⟨rfl, rfl⟩) | (go_at_call 41; refine (l08Conductance_any _ _ h).mono ?_; rintro e w' ⟨rfl, rfl⟩))
    go_ret2
    exact ⟨by simp [condR, h], rfl⟩
theorem implConductanceOf_any (r : Int) (w : World) :
    Calls Try.prog 24 #[.int .i64 r] w fun e w' => e = .returned (.tuple #[.int .i64 (condR r).1, .int .i64 (condR r).2]) ∧ Below w.heap.size w w' := by
  rcases Bool.eq_false_or_eq_true (isRes r) with h | h
  all_goals
    go_enter Try.func24, Try.ntmps24
    go_wp2_with (first | (go_at_call 33; refine (resistanceOk_any _ _).mono ?_; rintro e w' ⟨rfl, rfl⟩) | (go_at_call 42; refine (conductance_any _ _ h).mono ?_; rintro e w' ⟨rfl, hb⟩))
    go_ret2
    exact ⟨by simp [condR, h], by first | assumption | exact Below.refl _ _⟩
theorem specOrificeOf_any (r : Int) (w : World) :
    Calls Try.prog 21 #[.int .i64 r] w fun e w' => e = .returned (.tuple #[.int .i64 (orifR r).1, .int .i64 (orifR r).2]) ∧ w = w' := by
  rcases Bool.eq_false_or_eq_true (isRes r) with h | h
  · obtain ⟨h1, h2⟩ := isRes_t h
    obtain ⟨h3, h4⟩ := quo_bnd (a := 14161000000) (by omega) h
    have h5 : r ≠ 0 := by omega
    go_enter Try.func21, Try.ntmps21
    go_wp2_with (first | (go_at_call 38; refine (l03Res_any _ _).mono ?_; rintro e w' ⟨rfl, rfl⟩) | (go_at_call 39; refine (l01Root_any _ _ (by omega) (by omega)).mono ?_; rintro e w' ⟨rfl, rfl⟩))
    go_ret2
    exact ⟨by simp [orifR, h], rfl⟩
  · go_enter Try.func21, Try.ntmps21
    go_wp2_with (go_at_call 38; refine (l03Res_any _ _).mono ?_; rintro e w' ⟨rfl, rfl⟩)
    go_ret2
    exact ⟨by simp [orifR, h], rfl⟩
theorem implOrificeOf_any (r : Int) (w : World) :
    Calls Try.prog 22 #[.int .i64 r] w fun e w' => e = .returned (.tuple #[.int .i64 (orifR r).1, .int .i64 (orifR r).2]) ∧ Below w.heap.size w w' := by
  rcases Bool.eq_false_or_eq_true (isRes r) with h | h
  · obtain ⟨h1, h2⟩ := isRes_t h
    obtain ⟨h3, h4⟩ := quo_bnd (a := 14161000000) (by omega) h
    have h5 : r ≠ 0 := by omega
    go_enter Try.func22, Try.ntmps22
    go_wp2_with (first | (go_at_call 33; refine (resistanceOk_any _ _).mono ?_; rintro e w' ⟨rfl, rfl⟩) | (go_at_call 40; refine (rootOf_any _ _ (by omega)).mono ?_; rintro e w' ⟨rfl, hb⟩))
    go_ret2
    exact ⟨by simp [orifR, h], hb⟩
  · go_enter Try.func22, Try.ntmps22
    go_wp2_with (go_at_call 33; refine (resistanceOk_any _ _).mono ?_; rintro e w' ⟨rfl, rfl⟩)
    go_ret2
    exact ⟨by simp [orifR, h], Below.refl _ _⟩
end Go.Proofs.Ytoghblpddbpimaa
