/- Records of the kind Door: their cells, and the contracts of the laws' helpers on them. -/
import Derived.Test.YtnfallanjndbcaaRec
namespace Go.Proofs.Ytnfallanjndbcaa
set_option linter.unusedVariables false
set_option linter.unusedSimpArgs false
open Go.RowKit
structure Dor where
  s : ByteArray
  a : Int
  b : Int
  c : Int
instance : Inhabited Dor := ⟨⟨ByteArray.empty, 0, 0, 0⟩⟩
def Dor.cells (x : Dor) : List Value := [.string x.s, .int .i64 x.a, .int .i64 x.b, .int .i64 x.c]
def Dor.val (x : Dor) : Value := .agg #[.string x.s, .int .i64 x.a, .int .i64 x.b, .int .i64 x.c]
theorem Dor.clen (x : Dor) : x.cells.length = 4 := rfl
def Dor.len (x : Dor) : Nat := x.s.size
theorem Dor.one (x : Dor) : ∀ u ∈ x.cells, u.oneCell' = true := by
  intro u hu
  simp only [Dor.cells, List.mem_cons, List.not_mem_nil, or_false] at hu
  rcases hu with rfl | rfl | rfl | rfl <;> rfl
abbrev Dor.recs (xs : List Dor) : List Value := Go.Proofs.Ytnfallanjndbcaa.recs Dor.cells xs
theorem Dor.open_ {w : World} {p : Addr} {x : Dor} (h : Cells w p x.cells) : w.cell? p = some (.string x.s) ∧ w.cell? ⟨p.block, p.off + 1, none⟩ = some (.int .i64 x.a) ∧ w.cell? ⟨p.block, p.off + 2, none⟩ = some (.int .i64 x.b) ∧ w.cell? ⟨p.block, p.off + 3, none⟩ = some (.int .i64 x.c) :=
  ⟨h.z rfl, h.at_ 0 rfl, h.at_ 1 rfl, h.at_ 2 rfl⟩
theorem Dor.shut_ {w : World} {g : Nat} {x : Dor} (h0 : w.cell? ⟨g, 0, none⟩ = some (.string x.s)) (h1 : w.cell? ⟨g, 1, none⟩ = some (.int .i64 x.a)) (h2 : w.cell? ⟨g, 2, none⟩ = some (.int .i64 x.b)) (h3 : w.cell? ⟨g, 3, none⟩ = some (.int .i64 x.c)) : Cells w ⟨g, 0, none⟩ x.cells := by
  intro j u e
  have hj : j < 4 := by
    rcases Nat.lt_or_ge j 4 with h | h
    · exact h
    · rw [List.getElem?_eq_none (by rw [Dor.clen]; exact h)] at e; cases e
  match j, hj with
  | 0, _ => obtain rfl := Option.some.inj e; exact h0
  | 1, _ => obtain rfl := Option.some.inj e; exact h1
  | 2, _ => obtain rfl := Option.some.inj e; exact h2
  | 3, _ => obtain rfl := Option.some.inj e; exact h3
end Go.Proofs.Ytnfallanjndbcaa
