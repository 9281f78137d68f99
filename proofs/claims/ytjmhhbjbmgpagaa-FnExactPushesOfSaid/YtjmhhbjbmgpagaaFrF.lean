/- Opening an argument that is a slice of fans. -/
import Derived.Test.YtjmhhbjbmgpagaaFrR
import Derived.Test.YtjmhhbjbmgpagaaFrN
import Derived.Test.YtjmhhbjbmgpagaaFans
namespace Go.Proofs.Ytjmhhbjbmgpagaa
set_option linter.unusedVariables false
set_option linter.unusedSimpArgs false
open Go.ChangeShapes Go.WideShapes Go.ChangeAt Go.RowKit Go.Joins Go.Deep
section
variable {H : Type} {enc : TypeId × Value → H} {P : Program} {W : World} {base : Nat} {t e rt rq : TypeId} {v : Value} {d : DataW H} {p : List MemPlace}
theorem op_fans {fuel : Nat} {f0 f1 f2 : Field} {x : DataW H × List MemPlace} (ht : P.underlying t = some (.slice e)) (he : P.underlying e = some (.struct #[f0, f1, f2])) (hone : oneCellFields P #[f0, f1, f2] = true) (hC : P.cellsOf e = 3)
    (h0 : P.underlying f0.type = some .string) (h1 : P.underlying f1.type = some (.int .i64)) (h2 : P.underlying f2.type = some (.slice rt)) (h3 : P.underlying rt = some (.slice rq)) (h4 : P.underlying rq = some (.int .i64)) (ce : P.cellsOf rt = 1) (cq : P.cellsOf rq = 1)
    {a0 : Option Addr} {n0 c0 : Nat} (h : DataW.trod enc P W 0 (fun _ => true) true fuel t [.slice a0 n0 c0] = some x) :
    ∃ xs, n0 ≤ c0 ∧ c0 ≤ maxLen ∧ FSS W W.heap.size a0 n0 xs ∧ ∀ x ∈ xs, Fan.ok0 x := by
  rcases fields_at ht he hone hC h with hcs | ⟨a, len, cap, hcs, hl, hm, hi⟩
  · simp only [List.cons.injEq, Value.slice.injEq, and_true] at hcs
    obtain ⟨rfl, rfl, rfl⟩ := hcs
    exact ⟨[], by omega, by simp [maxLen], ⟨Reads.none_, fun x hx => by simp at hx⟩, fun x hx => by simp at hx⟩
  · simp only [List.cons.injEq, Value.slice.injEq, and_true] at hcs
    obtain ⟨rfl, rfl, rfl⟩ := hcs
    obtain ⟨xs, hxl, hxs⟩ := exists_list (p := fun i (x : Fan) => (x.ok0 ∧ RSS W W.heap.size x.A x.n x.rs) ∧ ∀ j u, x.cells[j]? = some u → W.cell? (a.add (i * 3 + j)) = some u) n0 (fun i hin => by
      obtain ⟨n, hf⟩ := hi i (by omega)
      obtain ⟨u0, y0, g0, k0⟩ := hf 0 f0 rfl
      obtain ⟨s, q0, _, w0⟩ := DataW.trod_string h0 k0
      obtain ⟨u1, y1, g1, k1⟩ := hf 1 f1 rfl
      obtain ⟨m1, q1, _, w1⟩ := DataW.trod_int h1 k1
      obtain ⟨u2, y2, g2, k2⟩ := hf 2 f2 rfl
      obtain ⟨A, nn, c, rs, rfl, r1, r2, r3, r4⟩ := op_rowsF h2 h3 h4 ce cq k2
      simp only [List.cons.injEq, and_true] at q0 q1
      subst q0 q1
      refine ⟨Fan.mk s m1 A nn c rs, ⟨⟨w0, Nat.le_trans r1 r2, r4⟩, r3⟩, fun j u hu => ?_⟩
      have hj : j < 3 := by
        rcases Nat.lt_or_ge j 3 with h1 | h1
        · exact h1
        · rw [List.getElem?_eq_none (by rw [Fan.clen]; exact h1)] at hu; cases hu
      match j, hj with
      | 0, _ => obtain rfl := Option.some.inj hu; exact g0
      | 1, _ => obtain rfl := Option.some.inj hu; exact g1
      | 2, _ => obtain rfl := Option.some.inj hu; exact g2)
    exact ⟨xs, hl, hm, ⟨reads_recs Fan.clen (by omega) hxl fun i x h => (hxs i x h).2, fun x hx => by
      obtain ⟨i, hi⟩ := List.getElem?_of_mem hx
      exact (hxs i x hi).1.2⟩, fun x hx => by
      obtain ⟨i, hi⟩ := List.getElem?_of_mem hx
      exact (hxs i x hi).1.1⟩
theorem op_fansS {f0 f1 f2 : Field} (ht : P.underlying t = some (.slice e)) (he : P.underlying e = some (.struct #[f0, f1, f2])) (hone : oneCellFields P #[f0, f1, f2] = true) (hC : P.cellsOf e = 3)
    (h0 : P.underlying f0.type = some .string) (h1 : P.underlying f1.type = some (.int .i64)) (h2 : P.underlying f2.type = some (.slice rt)) (h3 : P.underlying rt = some (.slice rq)) (h4 : P.underlying rq = some (.int .i64)) (ce : P.cellsOf rt = 1) (cq : P.cellsOf rq = 1)
    (hv : Value.okWide P W .any base t v) (h : DataW.Trod enc P W 0 (fun _ => true) true t v d p) :
    ∃ A n c xs, v = .slice A n c ∧ n ≤ c ∧ c ≤ maxLen ∧ FSS W W.heap.size A n xs ∧ ∀ x ∈ xs, Fan.ok0 x := by
  obtain ⟨a0, n0, c0, rfl⟩ := okWide_slice ht hv
  obtain ⟨fuel, hf⟩ := h
  obtain ⟨xs, h1, h2, h3, h4⟩ := op_fans ht he hone hC h0 h1 h2 h3 h4 ce cq hf
  exact ⟨a0, n0, c0, xs, rfl, h1, h2, h3, h4⟩
end
end Go.Proofs.Ytjmhhbjbmgpagaa
