/- A survey among a law's arguments, read. -/
import Derived.Test.YtdooajiobpjihaaDoorFrame
import Derived.Lib.SmallJoins
namespace Go.Proofs.YtdooajiobpjihaaDoor
set_option linter.unusedVariables false
set_option linter.unusedSimpArgs false
open Go.ChangeShapes Go.WideShapes Go.ChangeAt Go.RowKit Go.Joins Go.Deep
theorem arr5 {α : Type} {xs : Array α} (h : xs.size = 5) : ∃ a b c d e, xs = #[a, b, c, d, e] := by
  obtain ⟨l⟩ := xs
  match l, h with
  | [a, b, c, d, e], _ => exact ⟨a, b, c, d, e, rfl⟩
section
variable {P : Program} {W : World} {H : Type} {enc : TypeId × Value → H} {base : Nat} {t : TypeId} {v : Value} {d : DataW H} {p : List MemPlace}
theorem op_survey {f0 f1 f2 f3 f4 : Field} (hs : P.underlying t = some (.struct #[f0, f1, f2, f3, f4])) (hone : oneCellFields P #[f0, f1, f2, f3, f4] = true) (hC : P.cellsOf t = 5)
    (h0 : P.underlying f0.type = some .string) (h1 : P.underlying f1.type = some (.int .i64)) (h2 : P.underlying f2.type = some (.int .i64)) (h3 : P.underlying f3.type = some (.int .i64)) (h4 : P.underlying f4.type = some (.int .i64))
    (hv : Value.okWide P W .any base t v) (h : DataW.Trod enc P W 0 (fun _ => true) true t v d p) :
    ∃ s a b c e, v = .agg #[.string s, .int .i64 a, .int .i64 b, .int .i64 c, .int .i64 e] ∧ s.size ≤ maxLen := by
  obtain ⟨cs, rfl, hsz⟩ := okWide_struct hs hv
  obtain ⟨c0, c1, c2, c3, c4, rfl⟩ := arr5 (hsz.trans hC)
  obtain ⟨fuel, hf⟩ := h
  obtain ⟨xs, n, _, _, _, hlen, hg⟩ := DataW.trod_struct hs hf
  obtain ⟨o0, k0⟩ := hone_of hone 0 f0 rfl
  obtain ⟨o1, k1⟩ := hone_of hone 1 f1 rfl
  obtain ⟨o2, k2⟩ := hone_of hone 2 f2 rfl
  obtain ⟨o3, k3⟩ := hone_of hone 3 f3 rfl
  obtain ⟨o4, k4⟩ := hone_of hone 4 f4 rfl
  match xs, hlen with
  | [y0, y1, y2, y3, y4], _ =>
    have r0 : DataW.trod enc P W 0 (fun _ => true) true n f0.type [c0] = some y0 := by simpa [Value.cells, o0, k0] using hg 0 f0 rfl
    have r1 : DataW.trod enc P W 0 (fun _ => true) true n f1.type [c1] = some y1 := by simpa [Value.cells, o1, k1] using hg 1 f1 rfl
    have r2 : DataW.trod enc P W 0 (fun _ => true) true n f2.type [c2] = some y2 := by simpa [Value.cells, o2, k2] using hg 2 f2 rfl
    have r3 : DataW.trod enc P W 0 (fun _ => true) true n f3.type [c3] = some y3 := by simpa [Value.cells, o3, k3] using hg 3 f3 rfl
    have r4 : DataW.trod enc P W 0 (fun _ => true) true n f4.type [c4] = some y4 := by simpa [Value.cells, o4, k4] using hg 4 f4 rfl
    obtain ⟨s, e0, _, w0⟩ := DataW.trod_string h0 r0
    obtain ⟨a, e1, _, w1⟩ := DataW.trod_int h1 r1
    obtain ⟨b, e2, _, w2⟩ := DataW.trod_int h2 r2
    obtain ⟨c, e3, _, w3⟩ := DataW.trod_int h3 r3
    obtain ⟨e, e4, _, w4⟩ := DataW.trod_int h4 r4
    simp only [List.cons.injEq, and_true] at e0 e1 e2 e3 e4
    subst e0 e1 e2 e3 e4
    exact ⟨s, a, b, c, e, rfl, w0⟩
end
end Go.Proofs.YtdooajiobpjihaaDoor
