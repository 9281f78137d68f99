/- Records of the kind Survey: their cells, and the contracts of the laws' helpers on them. -/
import Derived.Test.YtnfallanjndbcaaRec
namespace Go.Proofs.Ytnfallanjndbcaa
set_option linter.unusedVariables false
set_option linter.unusedSimpArgs false
open Go.RowKit
structure Svy where
  s : ByteArray
  d : Int
  e : Int
  f : Int
  g : Int
instance : Inhabited Svy := ⟨⟨ByteArray.empty, 0, 0, 0, 0⟩⟩
def Svy.cells (x : Svy) : List Value := [.string x.s, .int .i64 x.d, .int .i64 x.e, .int .i64 x.f, .int .i64 x.g]
def Svy.val (x : Svy) : Value := .agg #[.string x.s, .int .i64 x.d, .int .i64 x.e, .int .i64 x.f, .int .i64 x.g]
theorem Svy.clen (x : Svy) : x.cells.length = 5 := rfl
def Svy.len (x : Svy) : Nat := x.s.size
theorem Svy.one (x : Svy) : ∀ u ∈ x.cells, u.oneCell' = true := by
  intro u hu
  simp only [Svy.cells, List.mem_cons, List.not_mem_nil, or_false] at hu
  rcases hu with rfl | rfl | rfl | rfl | rfl <;> rfl
abbrev Svy.recs (xs : List Svy) : List Value := Go.Proofs.Ytnfallanjndbcaa.recs Svy.cells xs
theorem Svy.open_ {w : World} {p : Addr} {x : Svy} (h : Cells w p x.cells) : w.cell? p = some (.string x.s) ∧ w.cell? ⟨p.block, p.off + 1, none⟩ = some (.int .i64 x.d) ∧ w.cell? ⟨p.block, p.off + 2, none⟩ = some (.int .i64 x.e) ∧ w.cell? ⟨p.block, p.off + 3, none⟩ = some (.int .i64 x.f) ∧ w.cell? ⟨p.block, p.off + 4, none⟩ = some (.int .i64 x.g) :=
  ⟨h.z rfl, h.at_ 0 rfl, h.at_ 1 rfl, h.at_ 2 rfl, h.at_ 3 rfl⟩
theorem Svy.shut_ {w : World} {g : Nat} {x : Svy} (h0 : w.cell? ⟨g, 0, none⟩ = some (.string x.s)) (h1 : w.cell? ⟨g, 1, none⟩ = some (.int .i64 x.d)) (h2 : w.cell? ⟨g, 2, none⟩ = some (.int .i64 x.e)) (h3 : w.cell? ⟨g, 3, none⟩ = some (.int .i64 x.f)) (h4 : w.cell? ⟨g, 4, none⟩ = some (.int .i64 x.g)) : Cells w ⟨g, 0, none⟩ x.cells := by
  intro j u e
  have hj : j < 5 := by
    rcases Nat.lt_or_ge j 5 with h | h
    · exact h
    · rw [List.getElem?_eq_none (by rw [Svy.clen]; exact h)] at e; cases e
  match j, hj with
  | 0, _ => obtain rfl := Option.some.inj e; exact h0
  | 1, _ => obtain rfl := Option.some.inj e; exact h1
  | 2, _ => obtain rfl := Option.some.inj e; exact h2
  | 3, _ => obtain rfl := Option.some.inj e; exact h3
  | 4, _ => obtain rfl := Option.some.inj e; exact h4
end Go.Proofs.Ytnfallanjndbcaa
