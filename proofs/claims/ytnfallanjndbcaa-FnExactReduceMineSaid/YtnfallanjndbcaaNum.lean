/- Contracts of the small functions on whole numbers: bounds, absolute value, nearest quotient. -/
import Derived.Test.YtnfallanjndbcaaRows
import Derived.Test.YtnfallanjndbcaaPl
import Derived.WalkKit
import Derived.WalkSpells
import Derived.WalkLawsBesides
import Derived.Deep.QuietTactic
import Derived.BigQuiet
import Derived.Lib.Hide
namespace Go.Proofs.Ytnfallanjndbcaa
set_option linter.unusedVariables false
set_option linter.unusedSimpArgs false
open Go.RowKit
theorem ret_int {k : IntKind} {a b : Int} (h : a = b) : Ending.returned (.int k a) = .returned (.int k b) := by rw [h]
theorem ret_bool {a b : Bool} (h : a = b) : Ending.returned (.bool a) = .returned (.bool b) := by rw [h]
theorem ret_int2 {k k' : IntKind} {a b c d : Int} (h : a = b) (h' : c = d) : Ending.returned (.tuple #[.int k a, .int k' c]) = .returned (.tuple #[.int k b, .int k' d]) := by rw [h, h']

/-- A contract that says nothing of the world but some draws, met inside a quiet region. -/
theorem quietD {P : Program} {f : FuncId} {args : Array Value} {w : World} {a n : Nat} {v : Value}
    (h : Calls P f args (w.drewN n) fun e w' => e = .returned v ∧ ∃ m, w' = (w.drewN n).drewN m) : Calls P f args (w.drewN n) fun e w'' => e = .returned v ∧ ∃ m, w'' = w.drewN m :=
  Calls.quiet_of h
theorem quietS {P : Program} {f : FuncId} {args : Array Value} {w : World} {n : Nat} {v : Value}
    (h : Calls P f args (w.drewN n) fun e w' => e = .returned v ∧ w.drewN n = w') : Calls P f args (w.drewN n) fun e w'' => e = .returned v ∧ ∃ m, w'' = w.drewN m :=
  h.mono fun _ _ ⟨he, hm⟩ => ⟨he, n, hm.symm⟩
theorem abs_any (n : Int) (w : World) (h1 : -9223372036854775807 ≤ n) (h2 : n ≤ 9223372036854775807) :
    Calls Try.prog 60 #[.int .i64 n] w fun e w' => e = .returned (.int .i64 (absI n)) ∧ w = w' := by
  go_enter Try.func60, Try.ntmps60
  go_wp2
  all_goals
    go_ret
    exact ⟨ret_int (by unfold absI; omega), rfl⟩
theorem within_any (n l h : Int) (w : World) :
    Calls Try.prog 33 #[.int .i64 n, .int .i64 l, .int .i64 h] w fun e w' => e = .returned (.bool (inB n l h)) ∧ w = w' := by
  unfold inB
  go_enter Try.func33, Try.ntmps33
  go_wp2
  all_goals
    go_ret
    exact ⟨ret_bool (by simp; omega), rfl⟩
theorem l00In_any (n l h : Int) (w : World) :
    Calls Try.prog 26 #[.int .i64 n, .int .i64 l, .int .i64 h] w fun e w' => e = .returned (.bool (inB n l h)) ∧ w = w' := by
  unfold inB
  go_enter Try.func26, Try.ntmps26
  go_wp2
  all_goals
    go_ret
    exact ⟨ret_bool (by simp; omega), rfl⟩
theorem divRound_any (a b : Int) (w : World) (h1 : -9223372036854775000 ≤ a) (h2 : a ≤ 9223372036854775000) (h3 : 0 < b) (h4 : b ≤ 9223372036854775000) :
    Calls Try.prog 53 #[.int .i64 a, .int .i64 b] w fun e w' => e = .returned (.int .i64 (dr a b)) ∧ ∃ n, w' = w.drewN n := by
  have hb0 : b ≠ 0 := by omega
  have r1 : -b < a.tmod b := Int.lt_tmod_of_pos a h3
  have r2 : a.tmod b < b := Int.tmod_lt_of_pos a h3
  have s1 : absI (a.tmod b) < b := by unfold absI; omega
  have s2 : 0 ≤ absI (a.tmod b) := by unfold absI; omega
  obtain ⟨q1, q2⟩ := tdiv_bounds h3 h1 h2
  have t1 : absI b ≤ b := by unfold absI; omega
  have t2 : b ≤ absI b := by unfold absI; omega
  go_enter Try.func53, Try.ntmps53
  go_wp2
  go_quiet ((go_at_call 60; exact quietS (abs_any _ _ (by omega) (by omega))))
  go_wp2_with (go_at_call 60; refine (abs_any _ _ (by omega) (by omega)).mono ?_; rintro e w' ⟨rfl, rfl⟩)
  · have h5 : (decide (a < 0) == decide (b < 0)) = true := by assumption
    have h6 : 0 ≤ a := by simp at h5; omega
    go_ret
    exact ⟨ret_int (dr_up h3 h6 (by omega)).symm, _, rfl⟩
  · have h5 : (decide (a < 0) == decide (b < 0)) = false := by assumption
    have h6 : a < 0 := by simp at h5; omega
    go_ret
    exact ⟨ret_int (dr_down h3 h6 (by omega)).symm, _, rfl⟩
  · go_ret
    exact ⟨ret_int (dr_near h3 (by omega)).symm, _, rfl⟩
theorem l01Div_any (a b : Int) (w : World) (h1 : -2305843009213693952 ≤ a) (h2 : a ≤ 2305843009213693952) (h3 : 0 < b) (h4 : b ≤ 4611686018427387000) :
    Calls Try.prog 47 #[.int .i64 a, .int .i64 b] w fun e w' => e = .returned (.int .i64 (dr a b)) ∧ w = w' := by
  have h5 : 2 * b ≠ 0 := by omega
  have h6 : 1 ≤ 2 * b := by omega
  by_cases ha : a < 0
  · have h7 : 0 ≤ b - 2 * a := by omega
    obtain ⟨h8, h9⟩ := ediv_bounds (m := 9223372036854775807) h7 (by omega : 0 < 2 * b) (by omega)
    go_enter Try.func47, Try.ntmps47
    go_wp2
    go_ret
    exact ⟨ret_int (by unfold dr; rw [if_pos ha]), rfl⟩
  · have h7 : 0 ≤ 2 * a + b := by omega
    obtain ⟨h8, h9⟩ := ediv_bounds (m := 9223372036854775807) h7 (by omega : 0 < 2 * b) (by omega)
    go_enter Try.func47, Try.ntmps47
    go_wp2
    go_ret
    exact ⟨ret_int (by unfold dr; rw [if_neg (by omega)]), rfl⟩
end Go.Proofs.Ytnfallanjndbcaa
