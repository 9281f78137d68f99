/- Contracts of the lists with one number for each junction or each airway. -/
import Derived.Test.YtnfallanjndbcaaMine
import Derived.Test.YtnfallanjndbcaaLst
import Derived.Test.YtnfallanjndbcaaAir
namespace Go.Proofs.Ytnfallanjndbcaa
set_option linter.unusedVariables false
set_option linter.unusedSimpArgs false
open Go.RowKit
def lstOk (N l h : Int) (xs : List Int) : Bool := allIn l h xs && ((xs.length : Int) == N)
theorem lstOk_t {N l h : Int} {xs : List Int} (e : lstOk N l h xs = true) : (xs.length : Int) = N ∧ ∀ x ∈ xs, l ≤ x ∧ x ≤ h := by
  unfold lstOk at e
  rw [Bool.and_eq_true, beq_iff_eq] at e
  exact ⟨e.2, fun x hx => allIn_mem e.1 hx⟩
theorem lst_at {N l h : Int} {xs : List Int} (e : lstOk N l h xs = true) {k : Nat} (hk : (k : Int) < N) : ∃ b, xs[k]? = some b ∧ l ≤ b ∧ b ≤ h := by
  obtain ⟨h1, h2⟩ := lstOk_t e
  have hl : k < xs.length := by omega
  exact ⟨xs[k], List.getElem?_eq_getElem hl, h2 _ (List.getElem_mem hl)⟩
/-- A number of a list, found behind its address. -/
theorem Reads.int_at {w : World} {B n : Nat} {A : Option Addr} {xs : List Int} (hr : Reads w B 1 A n (ints xs)) {k : Nat} {b : Int} (hb : xs[k]? = some b) : ∃ ad, A = some ad ∧ ad.block < B ∧ k < n ∧ w.cell? (ad.add k) = some (.int .i64 b) := by
  have hl := ints_len hr
  have hk : k < xs.length := by
    rcases Nat.lt_or_ge k xs.length with h1 | h1
    · exact h1
    · rw [List.getElem?_eq_none h1] at hb; cases hb
  obtain ⟨ad, u, e, had, hx, hc⟩ := hr.at_ (k := k) (by omega)
  obtain ⟨b', hb', rfl⟩ := ints_at hx
  rw [hb] at hb'
  injection hb' with hb'
  subst hb'
  exact ⟨ad, e, had, by omega, hc⟩
theorem hasList_any (J : Int) (B : Option Addr) (m d : Nat) (A : Option Addr) (n c : Nat) (l h : Int) (xs : List Int) (w : World) (hr : Reads w w.heap.size 1 A n (ints xs)) (hn : n ≤ 1048576) :
    Calls Try.prog 18 #[.agg #[.int .i64 J, .slice B m d], .slice A n c, .int .i64 l, .int .i64 h] w fun e w' => e = .returned (.bool (lstOk m l h xs)) ∧ Below w.heap.size w w' := by
  have HL := Lib.hid (ints_len hr)
  have hb : Below w.heap.size w (w.alloc (.cells #[.int .i64 J, .slice B m d] 31)) := (Below.refl _ _).alloc (Nat.le_refl _) _
  have cc := allWithin_any A n c xs l h _ ((hr.below hb).more hb.size) (by omega)
  clear hb
  rcases Bool.eq_false_or_eq_true ((n : Int) == (m : Int)) with hnj | hnj
  all_goals
    have HN := Lib.hid hnj
    go_enter Try.func18, Try.ntmps18
    go_wp2_with fail; try ((with_reducible refine (cc).mono ?_); rintro e w1 ⟨rfl, hb1⟩; go_wp2)
    go_ret
    refine ⟨ret_bool (by unfold lstOk; rw [HL.out, HN.out]; simp), ?_⟩
    first
    | exact (show Below w.heap.size w _ by (repeat (first | exact Below.refl _ _ | assumption | (refine Below.alloc ?_ (by first | exact Nat.le_refl _ | (simp; done) | (simp; omega)) _) | (refine below_drewN ?_ _) | (refine Below.trans ?_ (Below.mono (by assumption) (by first | exact Nat.le_refl _ | (simp; done) | (simp; omega) | omega)))))).trans (hb1.mono (by simp))
    | (repeat (first | exact Below.refl _ _ | assumption | (refine Below.alloc ?_ (by first | exact Nat.le_refl _ | (simp; done) | (simp; omega)) _) | (refine below_drewN ?_ _) | (refine Below.trans ?_ (Below.mono (by assumption) (by first | exact Nat.le_refl _ | (simp; done) | (simp; omega) | omega)))))
end Go.Proofs.Ytnfallanjndbcaa
