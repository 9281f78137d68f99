/- Contracts of locks of doors. -/
import Derived.Test.YtapophggndlhaaaNest
import Derived.Test.YtapophggndlhaaaSlc
import Derived.Deep.RegionWith
namespace Go.Proofs.Ytapophggndlhaaa
set_option linter.unusedVariables false
set_option linter.unusedSimpArgs false
open Go.RowKit
theorem quietB' {P : Program} {f : FuncId} {args : Array Value} {w : World} {n : Nat} {b c : Bool}
    (h : Calls P f args (w.drewN n) fun e w' => e = .returned (.bool b) ∧ w.drewN n = w') (hb : b = c) : Calls P f args (w.drewN n) fun e w'' => e = .returned (.bool c) ∧ ∃ m, w'' = w.drewN m :=
  h.mono fun _ _ ⟨he, hm⟩ => ⟨by rw [he, hb], n, hm.symm⟩
def lockN (ls : List (List Int)) (k : Nat) : Nat := (ls.getD k []).length
def lockA (ls : List (List Int)) (k : Nat) : Int := (ls.getD k []).getD 0 0
def lockB (ls : List (List Int)) (k : Nat) : Int := (ls.getD k []).getD 1 0
def lockLt (ls : List (List Int)) (k : Nat) : Bool := decide (lockA ls (k - 1) < lockA ls k ∨ lockA ls (k - 1) = lockA ls k ∧ lockB ls (k - 1) < lockB ls k)
def lkAt (d : Int) (ls : List (List Int)) (k : Nat) : Bool :=
  decide (lockN ls k = 2) && inB (lockB ls k) 0 (d - 1) && inB (lockA ls k) 0 (lockB ls k - 1) && (decide (k = 0) || lockLt ls k)
def locksOk (d : Int) (ls : List (List Int)) : Bool := inB d 0 8 && decide (ls.length ≤ 12) && allUpto ls.length (lkAt d ls)
theorem upto_succ {f : Nat → Bool} {k : Nat} (h : ∀ j, j < k → f j = true) (h1 : f k = true) : ∀ j, j < k + 1 → f j = true := by
  intro j hj
  rcases Nat.lt_succ_iff_lt_or_eq.1 hj with h2 | rfl
  · exact h j h2
  · exact h1
theorem getD_at {α : Type} {l : List α} {k : Nat} {x d : α} (h : l[k]? = some x) : l.getD k d = x := by rw [List.getD_eq_getElem?_getD, h]; rfl
theorem lock_row {ls : List (List Int)} {k : Nat} {x : List Int} (h : ls[k]? = some x) : lockN ls k = x.length ∧ lockA ls k = x.getD 0 0 ∧ lockB ls k = x.getD 1 0 := by
  unfold lockN lockA lockB; rw [getD_at h]; exact ⟨rfl, rfl, rfl⟩
theorem lk_n {d : Int} {ls : List (List Int)} {k : Nat} (h : lockN ls k ≠ 2) : lkAt d ls k = false := by unfold lkAt; rw [decide_eq_false h]; rfl
theorem lk_b {d : Int} {ls : List (List Int)} {k : Nat} (h : inB (lockB ls k) 0 (d - 1) = false) : lkAt d ls k = false := by unfold lkAt; rw [h]; simp
theorem lk_a {d : Int} {ls : List (List Int)} {k : Nat} (h : inB (lockA ls k) 0 (lockB ls k - 1) = false) : lkAt d ls k = false := by unfold lkAt; rw [h]; simp
theorem lk_p {d : Int} {ls : List (List Int)} {k : Nat} (h0 : k ≠ 0) (h : lockLt ls k = false) : lkAt d ls k = false := by unfold lkAt; rw [h, decide_eq_false h0]; simp
theorem lk_y {d : Int} {ls : List (List Int)} {k : Nat} (h1 : lockN ls k = 2) (h2 : inB (lockB ls k) 0 (d - 1) = true) (h3 : inB (lockA ls k) 0 (lockB ls k - 1) = true) (h4 : k = 0 ∨ lockLt ls k = true) : lkAt d ls k = true := by
  unfold lkAt; rw [decide_eq_true h1, h2, h3]
  rcases h4 with h | h
  · rw [decide_eq_true h]; rfl
  · rw [h]; simp
theorem lk_two {d : Int} {ls : List (List Int)} {k : Nat} (h : lkAt d ls k = true) : lockN ls k = 2 ∧ inB (lockB ls k) 0 (d - 1) = true ∧ inB (lockA ls k) 0 (lockB ls k - 1) = true := by
  unfold lkAt at h
  simp only [Bool.and_eq_true, decide_eq_true_eq] at h
  exact ⟨h.1.1.1, h.1.1.2, h.1.2⟩
/-- A row of two numbers, opened. -/
theorem open_two {w : World} {B : Nat} {r : Row} (h : Reads w B 1 r.A r.n (ints r.xs)) (h2 : r.xs.length = 2) :
    ∃ ra, r.A = some ra ∧ r.n = 2 ∧ w.cell? ra = some (.int .i64 (r.xs.getD 0 0)) ∧ w.cell? (ra.add 0) = some (.int .i64 (r.xs.getD 0 0)) ∧ w.cell? ⟨ra.block, ra.off + 1, none⟩ = some (.int .i64 (r.xs.getD 1 0)) := by
  have hn : r.n = 2 := by have := ints_len h; omega
  obtain ⟨ra, u, h3, _, h4, h5⟩ := h.at_ (k := 0) (by omega)
  obtain ⟨ra', u', h6, _, h7, h8⟩ := h.at_ (k := 1) (by omega)
  rw [h3] at h6
  injection h6 with h6
  subst h6
  obtain ⟨b, h9, rfl⟩ := ints_at h4
  obtain ⟨b', h10, rfl⟩ := ints_at h7
  rw [getD_at h9, getD_at h10]
  exact ⟨ra, h3, hn, h5, h5, h8⟩
end Go.Proofs.Ytapophggndlhaaa
