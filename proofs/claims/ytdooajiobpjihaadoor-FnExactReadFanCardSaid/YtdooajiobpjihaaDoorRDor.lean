/- Records of the kind Door: their cells, and the contracts of the laws' helpers on them. -/
import Derived.Test.YtdooajiobpjihaaDoorRec
namespace Go.Proofs.YtdooajiobpjihaaDoor
set_option linter.unusedVariables false
set_option linter.unusedSimpArgs false
open Go.RowKit
structure Dor where
  s : ByteArray
  a : Int
  b : Int
  c : Int
instance : Inhabited Dor := ⟨⟨ByteArray.empty, 0, 0, 0⟩⟩
def Dor.cells (x : Dor) : List Value := [.string x.s, .int .i64 x.a, .int .i64 x.b, .int .i64 x.c]
def Dor.val (x : Dor) : Value := .agg #[.string x.s, .int .i64 x.a, .int .i64 x.b, .int .i64 x.c]
theorem Dor.clen (x : Dor) : x.cells.length = 4 := rfl
def Dor.len (x : Dor) : Nat := x.s.size
theorem Dor.one (x : Dor) : ∀ u ∈ x.cells, u.oneCell' = true := by
  intro u hu
  simp only [Dor.cells, List.mem_cons, List.not_mem_nil, or_false] at hu
  rcases hu with rfl | rfl | rfl | rfl <;> rfl
abbrev Dor.recs (xs : List Dor) : List Value := Go.Proofs.YtdooajiobpjihaaDoor.recs Dor.cells xs
theorem Dor.open_ {w : World} {p : Addr} {x : Dor} (h : Cells w p x.cells) : w.cell? p = some (.string x.s) ∧ w.cell? ⟨p.block, p.off + 1, none⟩ = some (.int .i64 x.a) ∧ w.cell? ⟨p.block, p.off + 2, none⟩ = some (.int .i64 x.b) ∧ w.cell? ⟨p.block, p.off + 3, none⟩ = some (.int .i64 x.c) :=
  ⟨h.z rfl, h.at_ 0 rfl, h.at_ 1 rfl, h.at_ 2 rfl⟩
theorem Dor.shut_ {w : World} {g : Nat} {x : Dor} (h0 : w.cell? ⟨g, 0, none⟩ = some (.string x.s)) (h1 : w.cell? ⟨g, 1, none⟩ = some (.int .i64 x.a)) (h2 : w.cell? ⟨g, 2, none⟩ = some (.int .i64 x.b)) (h3 : w.cell? ⟨g, 3, none⟩ = some (.int .i64 x.c)) : Cells w ⟨g, 0, none⟩ x.cells := by
  intro j u e
  have hj : j < 4 := by
    rcases Nat.lt_or_ge j 4 with h | h
    · exact h
    · rw [List.getElem?_eq_none (by rw [Dor.clen]; exact h)] at e; cases e
  match j, hj with
  | 0, _ => obtain rfl := Option.some.inj e; exact h0
  | 1, _ => obtain rfl := Option.some.inj e; exact h1
  | 2, _ => obtain rfl := Option.some.inj e; exact h2
  | 3, _ => obtain rfl := Option.some.inj e; exact h3
theorem szDor_any (x : Dor) (l : Int) (w : World) (hs : x.s.size ≤ maxLen) (h1 : 0 ≤ l) (h2 : l ≤ 1048576) :
    Calls Tryd.prog 24 #[.agg #[.string x.s, .int .i64 x.a, .int .i64 x.b, .int .i64 x.c], .int .i64 l] w fun e w' => e = .returned (.int .i64 (szI l x.s.size)) ∧ Below w.heap.size w w' := by
  unfold maxLen at hs
  by_cases h : l < x.s.size
  all_goals
    go_enter Tryd.func24, Tryd.ntmps24
    go_wp2
    go_ret
    exact ⟨ret_int (by unfold szI; split <;> omega), (Below.refl _ _).alloc (Nat.le_refl _) _⟩
theorem toDor_any (x : Dor) (w : World) (hs : x.s.size ≤ maxLen) :
    Calls Tryd.prog 26 #[.agg #[.string x.s, .int .i64 x.a, .int .i64 x.b, .int .i64 x.c]] w fun e w' => e = .returned (.agg #[.string x.s, .int .i64 x.a, .int .i64 x.b, .int .i64 x.c]) ∧ Below w.heap.size w w' := by
  go_enter Tryd.func26, Tryd.ntmps26
  go_wp2
  refine bodyPost_ret (v := .agg #[.string x.s, .int .i64 x.a, .int .i64 x.b, .int .i64 x.c]) (by simp [results, Tryd.results26, go_sem]) rfl ⟨rfl, ?_⟩
  (repeat (first | exact Below.refl _ _ | assumption | (refine Below.alloc ?_ (by first | exact Nat.le_refl _ | (simp; done) | (simp; omega)) _) | (refine below_drewN ?_ _) | (refine Below.trans ?_ (Below.mono (by assumption) (by first | exact Nat.le_refl _ | (simp; done) | (simp; omega) | omega)))))
theorem eqDor_any (x : Dor) (w : World) :
    Calls Tryd.prog 14 #[.agg #[.string x.s, .int .i64 x.a, .int .i64 x.b, .int .i64 x.c], .agg #[.string x.s, .int .i64 x.a, .int .i64 x.b, .int .i64 x.c]] w fun e w' => e = .returned (.bool true) ∧ Below w.heap.size w w' := by
  go_enter Tryd.func14, Tryd.ntmps14
  go_wp2
  go_ret
  exact ⟨rfl, by (repeat (first | exact Below.refl _ _ | assumption | (refine Below.alloc ?_ (by first | exact Nat.le_refl _ | (simp; done) | (simp; omega)) _) | (refine below_drewN ?_ _) | (refine Below.trans ?_ (Below.mono (by assumption) (by first | exact Nat.le_refl _ | (simp; done) | (simp; omega) | omega)))))⟩
end Go.Proofs.YtdooajiobpjihaaDoor
