/- Records of the kind Airway: their cells, and the contracts of the laws' helpers on them. -/
import Derived.Test.YtapophggndlhaaaRec
namespace Go.Proofs.Ytapophggndlhaaa
set_option linter.unusedVariables false
set_option linter.unusedSimpArgs false
open Go.RowKit
structure Awy where
  s : ByteArray
  a : Int
  b : Int
  l : Int
  c : Int
  f : Int
  h : Int
instance : Inhabited Awy := ⟨⟨ByteArray.empty, 0, 0, 0, 0, 0, 0⟩⟩
def Awy.cells (x : Awy) : List Value := [.string x.s, .int .i64 x.a, .int .i64 x.b, .int .i64 x.l, .int .i64 x.c, .int .i64 x.f, .int .i64 x.h]
def Awy.val (x : Awy) : Value := .agg #[.string x.s, .int .i64 x.a, .int .i64 x.b, .int .i64 x.l, .int .i64 x.c, .int .i64 x.f, .int .i64 x.h]
theorem Awy.clen (x : Awy) : x.cells.length = 7 := rfl
def Awy.len (x : Awy) : Nat := x.s.size
theorem Awy.one (x : Awy) : ∀ u ∈ x.cells, u.oneCell' = true := by
  intro u hu
  simp only [Awy.cells, List.mem_cons, List.not_mem_nil, or_false] at hu
  rcases hu with rfl | rfl | rfl | rfl | rfl | rfl | rfl <;> rfl
abbrev Awy.recs (xs : List Awy) : List Value := Go.Proofs.Ytapophggndlhaaa.recs Awy.cells xs
theorem Awy.open_ {w : World} {p : Addr} {x : Awy} (h : Cells w p x.cells) : w.cell? p = some (.string x.s) ∧ w.cell? ⟨p.block, p.off + 1, none⟩ = some (.int .i64 x.a) ∧ w.cell? ⟨p.block, p.off + 2, none⟩ = some (.int .i64 x.b) ∧ w.cell? ⟨p.block, p.off + 3, none⟩ = some (.int .i64 x.l) ∧ w.cell? ⟨p.block, p.off + 4, none⟩ = some (.int .i64 x.c) ∧ w.cell? ⟨p.block, p.off + 5, none⟩ = some (.int .i64 x.f) ∧ w.cell? ⟨p.block, p.off + 6, none⟩ = some (.int .i64 x.h) :=
  ⟨h.z rfl, h.at_ 0 rfl, h.at_ 1 rfl, h.at_ 2 rfl, h.at_ 3 rfl, h.at_ 4 rfl, h.at_ 5 rfl⟩
theorem Awy.shut_ {w : World} {g : Nat} {x : Awy} (h0 : w.cell? ⟨g, 0, none⟩ = some (.string x.s)) (h1 : w.cell? ⟨g, 1, none⟩ = some (.int .i64 x.a)) (h2 : w.cell? ⟨g, 2, none⟩ = some (.int .i64 x.b)) (h3 : w.cell? ⟨g, 3, none⟩ = some (.int .i64 x.l)) (h4 : w.cell? ⟨g, 4, none⟩ = some (.int .i64 x.c)) (h5 : w.cell? ⟨g, 5, none⟩ = some (.int .i64 x.f)) (h6 : w.cell? ⟨g, 6, none⟩ = some (.int .i64 x.h)) : Cells w ⟨g, 0, none⟩ x.cells := by
  intro j u e
  have hj : j < 7 := by
    rcases Nat.lt_or_ge j 7 with h | h
    · exact h
    · rw [List.getElem?_eq_none (by rw [Awy.clen]; exact h)] at e; cases e
  match j, hj with
  | 0, _ => obtain rfl := Option.some.inj e; exact h0
  | 1, _ => obtain rfl := Option.some.inj e; exact h1
  | 2, _ => obtain rfl := Option.some.inj e; exact h2
  | 3, _ => obtain rfl := Option.some.inj e; exact h3
  | 4, _ => obtain rfl := Option.some.inj e; exact h4
  | 5, _ => obtain rfl := Option.some.inj e; exact h5
  | 6, _ => obtain rfl := Option.some.inj e; exact h6
end Go.Proofs.Ytapophggndlhaaa
