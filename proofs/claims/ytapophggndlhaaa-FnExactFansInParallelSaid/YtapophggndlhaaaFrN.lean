/- Opening an argument that is a slice of slices of numbers. -/
import Derived.Test.YtapophggndlhaaaFrame
import Derived.Test.YtapophggndlhaaaNest
import Derived.Deep.Matrix
namespace Go.Proofs.Ytapophggndlhaaa
set_option linter.unusedVariables false
set_option linter.unusedSimpArgs false
open Go.ChangeShapes Go.WideShapes Go.ChangeAt Go.RowKit Go.Joins Go.Deep
section
variable {H : Type} {enc : TypeId × Value → H} {P : Program} {W : World} {base : Nat} {t e q : TypeId} {v : Value} {d : DataW H} {p : List MemPlace}
theorem reads_of_cells {A : Option Addr} {L C : Nat} {zs : List Int} (hl : L ≤ C) (hz : zs.length = C) (hn : A = none → C = 0)
    (hc : ∀ a, A = some a → ∀ c, c < C → W.cell? (a.add c) = some (.int .i64 (zs.getD c 0))) : Reads W W.heap.size 1 A L (ints (zs.take L)) := by
  refine ⟨by simp [ints]; omega, fun hL => ?_⟩
  cases A with
  | none => have := hn rfl; omega
  | some a =>
    refine ⟨a, rfl, cell_lt_add (hc a rfl 0 (by omega)), fun j u hj => ?_⟩
    simp only [ints, List.getElem?_map, List.getElem?_take] at hj
    by_cases hjl : j < L
    · rw [if_pos hjl] at hj
      have hjz : j < zs.length := by omega
      rw [List.getElem?_eq_getElem hjz] at hj
      simp only [Option.map_some, Option.some.injEq] at hj
      rw [hc a rfl j (by omega), ← hj, List.getD_eq_getElem?_getD, List.getElem?_eq_getElem hjz]
      rfl
    · rw [if_neg hjl] at hj; simp at hj
theorem op_rowsF {fuel : Nat} {x : DataW H × List MemPlace} (ht : P.underlying t = some (.slice e)) (he : P.underlying e = some (.slice q)) (hq : P.underlying q = some (.int .i64)) (ce : P.cellsOf e = 1) (cq : P.cellsOf q = 1) {c1 : Value} (hf : DataW.trod enc P W 0 (fun _ => true) true fuel t [c1] = some x) :
    ∃ A n c rs, c1 = .slice A n c ∧ n ≤ c ∧ c ≤ maxLen ∧ RSS W W.heap.size A n rs ∧ ∀ r ∈ rs, r.n ≤ maxLen := by
  rcases open_int_rows ht he hq ce cq hf with ⟨hcs, _⟩ | ⟨a, len, cap, A, L, C, Z, hcs, _, hl, hm, _, hrow⟩
  · simp only [List.cons.injEq, and_true] at hcs
    subst hcs
    exact ⟨none, 0, 0, [], rfl, by omega, by simp [maxLen], ⟨Reads.none_, fun r hr => by simp at hr⟩, fun r hr => by simp at hr⟩
  · simp only [List.cons.injEq, and_true] at hcs
    subst hcs
    refine ⟨some a, len, cap, (List.range len).map fun r => ⟨A r, L r, C r, (Z r).take (L r)⟩, rfl, hl, hm, ⟨⟨by simp [rowsV], fun hn => ⟨a, rfl, ?_, ?_⟩⟩, ?_⟩, ?_⟩
    · exact cell_lt_add (hrow 0 (by omega)).1
    · intro j u hj
      simp only [rowsV, List.map_map, List.getElem?_map, List.getElem?_range] at hj
      by_cases hjl : j < len
      · simp [hjl, Row.val] at hj
        rw [(hrow j (by omega)).1, ← hj]
      · simp [hjl] at hj
    · intro r hr
      obtain ⟨j, hj, rfl⟩ := List.mem_map.1 hr
      have hj := List.mem_range.1 hj
      obtain ⟨_, r1, r2, r3, _, r5, r6⟩ := hrow j (by omega)
      exact reads_of_cells r1 r3 r5 fun a' ha c hc => (r6 a' ha).2 c hc
    · intro r hr
      obtain ⟨j, hj, rfl⟩ := List.mem_map.1 hr
      have hj := List.mem_range.1 hj
      obtain ⟨_, r1, r2, _⟩ := hrow j (by omega)
      exact Nat.le_trans r1 r2
/-- A struct of a string, a number and a slice of slices of numbers. -/
theorem op_fan {f0 f1 f2 : Field} (hs : P.underlying t = some (.struct #[f0, f1, f2])) (hone : oneCellFields P #[f0, f1, f2] = true) (hC : P.cellsOf t = 3) (h0 : P.underlying f0.type = some .string) (h1 : P.underlying f1.type = some (.int .i64))
    (ht : P.underlying f2.type = some (.slice e)) (he : P.underlying e = some (.slice q)) (hq : P.underlying q = some (.int .i64)) (ce : P.cellsOf e = 1) (cq : P.cellsOf q = 1) (hv : Value.okWide P W .any base t v) (h : DataW.Trod enc P W 0 (fun _ => true) true t v d p) :
    ∃ s a A n c rs, v = .agg #[.string s, .int .i64 a, .slice A n c] ∧ s.size ≤ maxLen ∧ n ≤ c ∧ c ≤ maxLen ∧ RSS W W.heap.size A n rs ∧ ∀ r ∈ rs, r.n ≤ maxLen := by
  obtain ⟨c0, c1, c2, y0, y1, y2, m, rfl, _, _, t0, t1, t2⟩ := open_agg3 hs hone hC hv h
  obtain ⟨s, e0, _, w0⟩ := DataW.trod_string h0 t0
  obtain ⟨a, e1, _, _⟩ := DataW.trod_int h1 t1
  simp only [List.cons.injEq, and_true] at e0 e1
  subst e0 e1
  obtain ⟨A, n, c, rs, rfl, g1, g2, g3, g4⟩ := op_rowsF ht he hq ce cq t2
  exact ⟨s, a, A, n, c, rs, rfl, w0, g1, g2, g3, g4⟩
theorem op_rows (ht : P.underlying t = some (.slice e)) (he : P.underlying e = some (.slice q)) (hq : P.underlying q = some (.int .i64)) (ce : P.cellsOf e = 1) (cq : P.cellsOf q = 1) (hv : Value.okWide P W .any base t v) (h : DataW.Trod enc P W 0 (fun _ => true) true t v d p) :
    ∃ A n c rs, v = .slice A n c ∧ n ≤ c ∧ c ≤ maxLen ∧ RSS W W.heap.size A n rs ∧ ∀ r ∈ rs, r.n ≤ maxLen := by
  obtain ⟨a0, n0, c0, rfl⟩ := okWide_slice ht hv
  obtain ⟨fuel, hf⟩ := h
  rcases open_int_rows ht he hq ce cq hf with ⟨hcs, _⟩ | ⟨a, len, cap, A, L, C, Z, hcs, _, hl, hm, _, hrow⟩
  · simp only [Value.cells, List.cons.injEq, Value.slice.injEq, and_true] at hcs
    obtain ⟨rfl, rfl, rfl⟩ := hcs
    exact ⟨none, 0, 0, [], rfl, by omega, by simp [maxLen], ⟨Reads.none_, fun r hr => by simp at hr⟩, fun r hr => by simp at hr⟩
  · simp only [Value.cells, List.cons.injEq, Value.slice.injEq, and_true] at hcs
    obtain ⟨rfl, rfl, rfl⟩ := hcs
    refine ⟨some a, n0, c0, (List.range n0).map fun r => ⟨A r, L r, C r, (Z r).take (L r)⟩, rfl, hl, hm, ⟨⟨by simp [rowsV], fun hn => ⟨a, rfl, ?_, ?_⟩⟩, ?_⟩, ?_⟩
    · exact cell_lt_add (hrow 0 (by omega)).1
    · intro j u hj
      simp only [rowsV, List.map_map, List.getElem?_map, List.getElem?_range] at hj
      by_cases hjl : j < n0
      · simp [hjl, Row.val] at hj
        rw [(hrow j (by omega)).1, ← hj]
      · simp [hjl] at hj
    · intro r hr
      obtain ⟨j, hj, rfl⟩ := List.mem_map.1 hr
      have hj := List.mem_range.1 hj
      obtain ⟨_, r1, r2, r3, _, r5, r6⟩ := hrow j (by omega)
      exact reads_of_cells r1 r3 r5 fun a' ha c hc => (r6 a' ha).2 c hc
    · intro r hr
      obtain ⟨j, hj, rfl⟩ := List.mem_map.1 hr
      have hj := List.mem_range.1 hj
      obtain ⟨_, r1, r2, _⟩ := hrow j (by omega)
      exact Nat.le_trans r1 r2
end
end Go.Proofs.Ytapophggndlhaaa
