/- A region that draws its order, whose operations read and whose calls make new memory only: one walk in the order of the text, in the class of worlds below whose old end nothing has turned. -/
import Derived.Below
import Derived.Deep.QuietTactic
import Derived.BigQuiet
import Derived.WalkKit
namespace Go.Proofs.Ytnfallanjndbcaa
set_option linter.unusedVariables false
set_option linter.unusedSimpArgs false
open Go.RowKit
/-- A world below which nothing of W has turned. -/
structure NB (W : World) where
  w : World
  h : Below W.heap.size W w
instance (W : World) : Nonempty (NB W) := ⟨⟨W, Below.refl _ _⟩⟩
theorem wp_region_nb {P : Program} {id : Nat} {Q : Exit → Act → World → Prop} {a : Act} {W : World} {l : List Oper} (hm : P.follows .mixedOrders = true) (hB : Region.lexB .any l.toArray = true)
    (h : wpQuiet P l.toArray (fun w' => ∃ s : NB W, w' = s.w) (fun a' => ∀ w', (∃ s : NB W, w' = s.w) → Q .normal a' w') l a) : (Code.region id l.toArray true).wp P Q a W := by
  refine wp_region_quiet hm hB (C := fun w' => ∃ s : NB W, w' = s.w) ⟨⟨W.drew, (Below.refl _ _).drew⟩, rfl⟩ ?_
  simpa using h
theorem nb_call {P : Program} {f : FuncId} {args : Array Value} {W : World} {s : NB W} {v : Value} (h : Calls P f args s.w fun e w' => e = .returned v ∧ Below s.w.heap.size s.w w') :
    Calls P f args s.w fun e w'' => e = .returned v ∧ ∃ s' : NB W, w'' = s'.w :=
  h.mono fun _ w' ⟨he, hb⟩ => ⟨he, ⟨w', s.h.trans (hb.mono s.h.size)⟩, rfl⟩
theorem nb_same {P : Program} {f : FuncId} {args : Array Value} {W : World} {s : NB W} {v : Value} (h : Calls P f args s.w fun e w' => e = .returned v ∧ s.w = w') :
    Calls P f args s.w fun e w'' => e = .returned v ∧ ∃ s' : NB W, w'' = s'.w :=
  h.mono fun _ w' ⟨he, hb⟩ => ⟨he, s, hb.symm⟩
theorem nb_cell {W : World} {p : Addr} {v : Value} (h : W.cell? p = some v) (hl : p.block < W.heap.size) : ∀ s : NB W, s.w.cell? p = some v := fun s => (s.h.cell hl).trans h
theorem nb_out {W w : World} (h : ∃ s : NB W, w = s.w) : Below W.heap.size W w := by
  obtain ⟨s, rfl⟩ := h
  exact s.h
end Go.Proofs.Ytnfallanjndbcaa
