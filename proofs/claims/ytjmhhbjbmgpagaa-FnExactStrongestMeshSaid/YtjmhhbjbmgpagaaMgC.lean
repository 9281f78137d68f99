/- Several texts in one: RDor RSvy FrR Svs SvL SvC SvG SvO Fan FanH MkR. -/
import Derived.Test.YtjmhhbjbmgpagaaMgB
import Derived.Test.YtjmhhbjbmgpagaaMgA
import Derived.Deep.Slices
import Derived.Deep.Fields
import Derived.ChangeSame
import Derived.Lib.SliceRun
/- Records of the kind Door: their cells, and the contracts of the laws' helpers on them. -/
namespace Go.Proofs.Ytjmhhbjbmgpagaa
set_option linter.unusedVariables false
set_option linter.unusedSimpArgs false
open Go.RowKit
structure Dor where
  s : ByteArray
  a : Int
  b : Int
  c : Int
instance : Inhabited Dor := ⟨⟨ByteArray.empty, 0, 0, 0⟩⟩
def Dor.cells (x : Dor) : List Value := [.string x.s, .int .i64 x.a, .int .i64 x.b, .int .i64 x.c]
def Dor.val (x : Dor) : Value := .agg #[.string x.s, .int .i64 x.a, .int .i64 x.b, .int .i64 x.c]
theorem Dor.clen (x : Dor) : x.cells.length = 4 := rfl
def Dor.len (x : Dor) : Nat := x.s.size
theorem Dor.one (x : Dor) : ∀ u ∈ x.cells, u.oneCell' = true := by
  intro u hu
  simp only [Dor.cells, List.mem_cons, List.not_mem_nil, or_false] at hu
  rcases hu with rfl | rfl | rfl | rfl <;> rfl
abbrev Dor.recs (xs : List Dor) : List Value := Go.Proofs.Ytjmhhbjbmgpagaa.recs Dor.cells xs
theorem Dor.open_ {w : World} {p : Addr} {x : Dor} (h : Cells w p x.cells) : w.cell? p = some (.string x.s) ∧ w.cell? ⟨p.block, p.off + 1, none⟩ = some (.int .i64 x.a) ∧ w.cell? ⟨p.block, p.off + 2, none⟩ = some (.int .i64 x.b) ∧ w.cell? ⟨p.block, p.off + 3, none⟩ = some (.int .i64 x.c) :=
  ⟨h.z rfl, h.at_ 0 rfl, h.at_ 1 rfl, h.at_ 2 rfl⟩
theorem Dor.shut_ {w : World} {g : Nat} {x : Dor} (h0 : w.cell? ⟨g, 0, none⟩ = some (.string x.s)) (h1 : w.cell? ⟨g, 1, none⟩ = some (.int .i64 x.a)) (h2 : w.cell? ⟨g, 2, none⟩ = some (.int .i64 x.b)) (h3 : w.cell? ⟨g, 3, none⟩ = some (.int .i64 x.c)) : Cells w ⟨g, 0, none⟩ x.cells := by
  intro j u e
  have hj : j < 4 := by
    rcases Nat.lt_or_ge j 4 with h | h
    · exact h
    · rw [List.getElem?_eq_none (by rw [Dor.clen]; exact h)] at e; cases e
  match j, hj with
  | 0, _ => obtain rfl := Option.some.inj e; exact h0
  | 1, _ => obtain rfl := Option.some.inj e; exact h1
  | 2, _ => obtain rfl := Option.some.inj e; exact h2
  | 3, _ => obtain rfl := Option.some.inj e; exact h3
end Go.Proofs.Ytjmhhbjbmgpagaa

/- Records of the kind Survey: their cells, and the contracts of the laws' helpers on them. -/
namespace Go.Proofs.Ytjmhhbjbmgpagaa
set_option linter.unusedVariables false
set_option linter.unusedSimpArgs false
open Go.RowKit
structure Svy where
  s : ByteArray
  d : Int
  e : Int
  f : Int
  g : Int
instance : Inhabited Svy := ⟨⟨ByteArray.empty, 0, 0, 0, 0⟩⟩
def Svy.cells (x : Svy) : List Value := [.string x.s, .int .i64 x.d, .int .i64 x.e, .int .i64 x.f, .int .i64 x.g]
def Svy.val (x : Svy) : Value := .agg #[.string x.s, .int .i64 x.d, .int .i64 x.e, .int .i64 x.f, .int .i64 x.g]
theorem Svy.clen (x : Svy) : x.cells.length = 5 := rfl
def Svy.len (x : Svy) : Nat := x.s.size
theorem Svy.one (x : Svy) : ∀ u ∈ x.cells, u.oneCell' = true := by
  intro u hu
  simp only [Svy.cells, List.mem_cons, List.not_mem_nil, or_false] at hu
  rcases hu with rfl | rfl | rfl | rfl | rfl <;> rfl
abbrev Svy.recs (xs : List Svy) : List Value := Go.Proofs.Ytjmhhbjbmgpagaa.recs Svy.cells xs
theorem Svy.open_ {w : World} {p : Addr} {x : Svy} (h : Cells w p x.cells) : w.cell? p = some (.string x.s) ∧ w.cell? ⟨p.block, p.off + 1, none⟩ = some (.int .i64 x.d) ∧ w.cell? ⟨p.block, p.off + 2, none⟩ = some (.int .i64 x.e) ∧ w.cell? ⟨p.block, p.off + 3, none⟩ = some (.int .i64 x.f) ∧ w.cell? ⟨p.block, p.off + 4, none⟩ = some (.int .i64 x.g) :=
  ⟨h.z rfl, h.at_ 0 rfl, h.at_ 1 rfl, h.at_ 2 rfl, h.at_ 3 rfl⟩
theorem Svy.shut_ {w : World} {g : Nat} {x : Svy} (h0 : w.cell? ⟨g, 0, none⟩ = some (.string x.s)) (h1 : w.cell? ⟨g, 1, none⟩ = some (.int .i64 x.d)) (h2 : w.cell? ⟨g, 2, none⟩ = some (.int .i64 x.e)) (h3 : w.cell? ⟨g, 3, none⟩ = some (.int .i64 x.f)) (h4 : w.cell? ⟨g, 4, none⟩ = some (.int .i64 x.g)) : Cells w ⟨g, 0, none⟩ x.cells := by
  intro j u e
  have hj : j < 5 := by
    rcases Nat.lt_or_ge j 5 with h | h
    · exact h
    · rw [List.getElem?_eq_none (by rw [Svy.clen]; exact h)] at e; cases e
  match j, hj with
  | 0, _ => obtain rfl := Option.some.inj e; exact h0
  | 1, _ => obtain rfl := Option.some.inj e; exact h1
  | 2, _ => obtain rfl := Option.some.inj e; exact h2
  | 3, _ => obtain rfl := Option.some.inj e; exact h3
  | 4, _ => obtain rfl := Option.some.inj e; exact h4
end Go.Proofs.Ytjmhhbjbmgpagaa

/- Opening arguments that are slices of records. -/
namespace Go.Proofs.Ytjmhhbjbmgpagaa
set_option linter.unusedVariables false
set_option linter.unusedSimpArgs false
open Go.ChangeShapes Go.WideShapes Go.ChangeAt Go.RowKit Go.Joins Go.Deep
theorem exists_list {α : Type} [Inhabited α] {p : Nat → α → Prop} : ∀ n : Nat, (∀ i, i < n → ∃ x, p i x) → ∃ xs : List α, xs.length = n ∧ ∀ i x, xs[i]? = some x → p i x
  | 0, _ => ⟨[], rfl, fun i x h => by simp at h⟩
  | n + 1, h => by
    obtain ⟨xs, hl, hp⟩ := exists_list (p := p) n (fun i hi => h i (by omega))
    obtain ⟨x, hx⟩ := h n (by omega)
    refine ⟨xs ++ [x], by simp [hl], fun i y hy => ?_⟩
    rcases Nat.lt_or_ge i n with hi | hi
    · rw [List.getElem?_append_left (by omega)] at hy; exact hp i y hy
    · rw [List.getElem?_append_right (by omega), hl] at hy
      have hi' : i = n := by
        rcases Nat.lt_or_ge (i - n) 1 with h1 | h1
        · omega
        · rw [List.getElem?_eq_none (by simp; omega)] at hy; cases hy
      subst hi'
      simp at hy
      subst hy; exact hx
section
variable {H : Type} {enc : TypeId × Value → H} {P : Program} {W : World} {base : Nat} {t e : TypeId} {v : Value} {d : DataW H} {p : List MemPlace}
/-- The cells of a slice of structs of one-cell fields, field by field. -/
theorem fields_at {fs : Array Field} {fuel : Nat} {cs : List Value} {x : DataW H × List MemPlace} (ht : P.underlying t = some (.slice e)) (he : P.underlying e = some (.struct fs)) (hone : oneCellFields P fs = true) (hC : P.cellsOf e = fs.size)
    (h : DataW.trod enc P W 0 (fun _ => true) true fuel t cs = some x) :
    cs = [.slice none 0 0] ∨ ∃ (a : Addr) (len cap : Nat), cs = [.slice (some a) len cap] ∧ len ≤ cap ∧ cap ≤ maxLen ∧
      ∀ i, i < cap → ∃ n : Nat, ∀ (j : Nat) (f : Field), fs[j]? = some f → ∃ (u : Value) (y : DataW H × List MemPlace), W.cell? (a.add (i * fs.size + j)) = some u ∧ DataW.trod enc P W 0 (fun _ => true) true n f.type [u] = some y := by
  rcases open_slice ht h with h0 | ⟨a, len, cap, m, n, D, Pl, hcs, _, hl, hm, hmm, _, hi⟩
  · exact .inl h0.1
  · refine .inr ⟨a, len, cap, hcs, hl, hm, fun i hic => ?_⟩
    have him : i < m := by simp only [if_true] at hmm; omega
    obtain ⟨cs', hc, ht'⟩ := hi i him
    rw [hC] at hc
    obtain ⟨ys, n', _, _, _, hyl, hf⟩ := DataW.trod_struct he ht'
    obtain ⟨_, hcl, hat⟩ := World.cells?_some hc
    refine ⟨n', fun j f hj => ?_⟩
    obtain ⟨ho, hk⟩ := hone_of hone j f hj
    have hjl : j < fs.size := (Array.getElem?_eq_some_iff.1 hj).1
    have h1 := hf j f hj
    rw [ho, hk] at h1
    have hone' : (cs'.drop j).take 1 = [cs'[j]'(by omega)] := by
      rw [List.drop_eq_getElem_cons (by omega)]; rfl
    rw [hone'] at h1
    have hys : ys[j]? = some (ys[j]'(by omega)) := List.getElem?_eq_getElem (by omega)
    refine ⟨_, _, ?_, h1.trans hys⟩
    rw [← Go.Deep.add_add, hat j hjl, List.getElem?_eq_getElem (by omega)]
/-- Records that lie one behind the other are a slice of records. -/
theorem reads_recs {α : Type} {f : α → List Value} {z : Nat} (hz : ∀ x, (f x).length = z) (hzp : 0 < z) {a : Addr} {n : Nat} {xs : List α} (hl : xs.length = n) (hx : ∀ i x, xs[i]? = some x → ∀ j u, (f x)[j]? = some u → W.cell? (a.add (i * z + j)) = some u) :
    Reads W W.heap.size z (some a) n (Go.Proofs.Ytjmhhbjbmgpagaa.recs f xs) := by
  refine ⟨by rw [recs_len hz, hl], fun hn => ⟨a, rfl, ?_, fun j u hu => ?_⟩⟩
  · have h0 : xs[0]? = some (xs[0]'(by omega)) := List.getElem?_eq_getElem (by omega)
    have hlen := hz (xs[0]'(by omega))
    exact cell_lt_add (hx 0 _ h0 0 _ (List.getElem?_eq_getElem (by omega)))
  · have hj : j < n * z := by
      rcases Nat.lt_or_ge j (n * z) with h1 | h1
      · exact h1
      · rw [List.getElem?_eq_none (by rw [recs_len hz, hl]; exact h1)] at hu; cases hu
    have hq : j / z < n := Nat.div_lt_of_lt_mul (by rw [Nat.mul_comm]; exact hj)
    have hr : j % z < z := Nat.mod_lt _ hzp
    have hjz : j = j / z * z + j % z := by rw [Nat.mul_comm]; exact (Nat.div_add_mod j z).symm
    have h0 : xs[j / z]? = some (xs[j / z]'(by omega)) := List.getElem?_eq_getElem (by omega)
    rw [hjz] at hu ⊢
    rw [recs_at hz h0 hr] at hu
    exact hx _ _ h0 _ u hu
end
section
variable {H : Type} {enc : TypeId × Value → H} {P : Program} {W : World} {base : Nat} {t e : TypeId} {v : Value} {d : DataW H} {p : List MemPlace}
theorem op_svys {fuel : Nat} {f0 f1 f2 f3 f4 : Field} {x : DataW H × List MemPlace} (ht : P.underlying t = some (.slice e)) (he : P.underlying e = some (.struct #[f0, f1, f2, f3, f4])) (hone : oneCellFields P #[f0, f1, f2, f3, f4] = true) (hC : P.cellsOf e = 5)
    (h0 : P.underlying f0.type = some .string) (h1 : P.underlying f1.type = some (.int .i64)) (h2 : P.underlying f2.type = some (.int .i64)) (h3 : P.underlying f3.type = some (.int .i64)) (h4 : P.underlying f4.type = some (.int .i64)) {a0 : Option Addr} {n0 c0 : Nat} (h : DataW.trod enc P W 0 (fun _ => true) true fuel t [.slice a0 n0 c0] = some x) :
    ∃ xs, n0 ≤ c0 ∧ c0 ≤ maxLen ∧ Reads W W.heap.size 5 a0 n0 (Svy.recs xs) ∧ ∀ x ∈ xs, x.s.size ≤ maxLen := by
  rcases fields_at ht he hone hC h with hcs | ⟨a, len, cap, hcs, hl, hm, hi⟩
  · simp only [List.cons.injEq, Value.slice.injEq, and_true] at hcs
    obtain ⟨rfl, rfl, rfl⟩ := hcs
    exact ⟨[], by omega, by simp [maxLen], Reads.none_, fun x hx => by simp at hx⟩
  · simp only [List.cons.injEq, Value.slice.injEq, and_true] at hcs
    obtain ⟨rfl, rfl, rfl⟩ := hcs
    obtain ⟨xs, hxl, hxs⟩ := exists_list (p := fun i (x : Svy) => x.s.size ≤ maxLen ∧ ∀ j u, x.cells[j]? = some u → W.cell? (a.add (i * 5 + j)) = some u) n0 (fun i hin => by
      obtain ⟨n, hf⟩ := hi i (by omega)
      obtain ⟨u0, y0, g0, k0⟩ := hf 0 f0 rfl
      obtain ⟨s, q0, _, w0⟩ := DataW.trod_string h0 k0
      obtain ⟨u1, y1, g1, k1⟩ := hf 1 f1 rfl
      obtain ⟨m1, q1, _, w1⟩ := DataW.trod_int h1 k1
      obtain ⟨u2, y2, g2, k2⟩ := hf 2 f2 rfl
      obtain ⟨m2, q2, _, w2⟩ := DataW.trod_int h2 k2
      obtain ⟨u3, y3, g3, k3⟩ := hf 3 f3 rfl
      obtain ⟨m3, q3, _, w3⟩ := DataW.trod_int h3 k3
      obtain ⟨u4, y4, g4, k4⟩ := hf 4 f4 rfl
      obtain ⟨m4, q4, _, w4⟩ := DataW.trod_int h4 k4
      simp only [List.cons.injEq, and_true] at q0 q1 q2 q3 q4
      subst q0 q1 q2 q3 q4
      refine ⟨⟨s, m1, m2, m3, m4⟩, w0, fun j u hu => ?_⟩
      have hj : j < 5 := by
        rcases Nat.lt_or_ge j 5 with h1 | h1
        · exact h1
        · rw [List.getElem?_eq_none (by rw [Svy.clen]; exact h1)] at hu; cases hu
      match j, hj with
      | 0, _ => obtain rfl := Option.some.inj hu; exact g0
      | 1, _ => obtain rfl := Option.some.inj hu; exact g1
      | 2, _ => obtain rfl := Option.some.inj hu; exact g2
      | 3, _ => obtain rfl := Option.some.inj hu; exact g3
      | 4, _ => obtain rfl := Option.some.inj hu; exact g4)
    exact ⟨xs, hl, hm, reads_recs Svy.clen (by omega) hxl fun i x h => (hxs i x h).2, fun x hx => by
      obtain ⟨i, hi⟩ := List.getElem?_of_mem hx
      exact (hxs i x hi).1⟩
theorem op_svysS {f0 f1 f2 f3 f4 : Field} (ht : P.underlying t = some (.slice e)) (he : P.underlying e = some (.struct #[f0, f1, f2, f3, f4])) (hone : oneCellFields P #[f0, f1, f2, f3, f4] = true) (hC : P.cellsOf e = 5)
    (h0 : P.underlying f0.type = some .string) (h1 : P.underlying f1.type = some (.int .i64)) (h2 : P.underlying f2.type = some (.int .i64)) (h3 : P.underlying f3.type = some (.int .i64)) (h4 : P.underlying f4.type = some (.int .i64)) (hv : Value.okWide P W .any base t v) (h : DataW.Trod enc P W 0 (fun _ => true) true t v d p) :
    ∃ A n c xs, v = .slice A n c ∧ n ≤ c ∧ c ≤ maxLen ∧ Reads W W.heap.size 5 A n (Svy.recs xs) ∧ ∀ x ∈ xs, x.s.size ≤ maxLen := by
  obtain ⟨a0, n0, c0, rfl⟩ := okWide_slice ht hv
  obtain ⟨fuel, hf⟩ := h
  obtain ⟨xs, h1, h2, h3, h4⟩ := op_svys ht he hone hC h0 h1 h2 h3 h4 hf
  exact ⟨a0, n0, c0, xs, rfl, h1, h2, h3, h4⟩
end
section
variable {H : Type} {enc : TypeId × Value → H} {P : Program} {W : World} {base : Nat} {t e : TypeId} {v : Value} {d : DataW H} {p : List MemPlace}
theorem op_awys {fuel : Nat} {f0 f1 f2 f3 f4 f5 f6 : Field} {x : DataW H × List MemPlace} (ht : P.underlying t = some (.slice e)) (he : P.underlying e = some (.struct #[f0, f1, f2, f3, f4, f5, f6])) (hone : oneCellFields P #[f0, f1, f2, f3, f4, f5, f6] = true) (hC : P.cellsOf e = 7)
    (h0 : P.underlying f0.type = some .string) (h1 : P.underlying f1.type = some (.int .i64)) (h2 : P.underlying f2.type = some (.int .i64)) (h3 : P.underlying f3.type = some (.int .i64)) (h4 : P.underlying f4.type = some (.int .i64)) (h5 : P.underlying f5.type = some (.int .i64)) (h6 : P.underlying f6.type = some (.int .i64)) {a0 : Option Addr} {n0 c0 : Nat} (h : DataW.trod enc P W 0 (fun _ => true) true fuel t [.slice a0 n0 c0] = some x) :
    ∃ xs, n0 ≤ c0 ∧ c0 ≤ maxLen ∧ Reads W W.heap.size 7 a0 n0 (Awy.recs xs) ∧ ∀ x ∈ xs, x.s.size ≤ maxLen := by
  rcases fields_at ht he hone hC h with hcs | ⟨a, len, cap, hcs, hl, hm, hi⟩
  · simp only [List.cons.injEq, Value.slice.injEq, and_true] at hcs
    obtain ⟨rfl, rfl, rfl⟩ := hcs
    exact ⟨[], by omega, by simp [maxLen], Reads.none_, fun x hx => by simp at hx⟩
  · simp only [List.cons.injEq, Value.slice.injEq, and_true] at hcs
    obtain ⟨rfl, rfl, rfl⟩ := hcs
    obtain ⟨xs, hxl, hxs⟩ := exists_list (p := fun i (x : Awy) => x.s.size ≤ maxLen ∧ ∀ j u, x.cells[j]? = some u → W.cell? (a.add (i * 7 + j)) = some u) n0 (fun i hin => by
      obtain ⟨n, hf⟩ := hi i (by omega)
      obtain ⟨u0, y0, g0, k0⟩ := hf 0 f0 rfl
      obtain ⟨s, q0, _, w0⟩ := DataW.trod_string h0 k0
      obtain ⟨u1, y1, g1, k1⟩ := hf 1 f1 rfl
      obtain ⟨m1, q1, _, w1⟩ := DataW.trod_int h1 k1
      obtain ⟨u2, y2, g2, k2⟩ := hf 2 f2 rfl
      obtain ⟨m2, q2, _, w2⟩ := DataW.trod_int h2 k2
      obtain ⟨u3, y3, g3, k3⟩ := hf 3 f3 rfl
      obtain ⟨m3, q3, _, w3⟩ := DataW.trod_int h3 k3
      obtain ⟨u4, y4, g4, k4⟩ := hf 4 f4 rfl
      obtain ⟨m4, q4, _, w4⟩ := DataW.trod_int h4 k4
      obtain ⟨u5, y5, g5, k5⟩ := hf 5 f5 rfl
      obtain ⟨m5, q5, _, w5⟩ := DataW.trod_int h5 k5
      obtain ⟨u6, y6, g6, k6⟩ := hf 6 f6 rfl
      obtain ⟨m6, q6, _, w6⟩ := DataW.trod_int h6 k6
      simp only [List.cons.injEq, and_true] at q0 q1 q2 q3 q4 q5 q6
      subst q0 q1 q2 q3 q4 q5 q6
      refine ⟨⟨s, m1, m2, m3, m4, m5, m6⟩, w0, fun j u hu => ?_⟩
      have hj : j < 7 := by
        rcases Nat.lt_or_ge j 7 with h1 | h1
        · exact h1
        · rw [List.getElem?_eq_none (by rw [Awy.clen]; exact h1)] at hu; cases hu
      match j, hj with
      | 0, _ => obtain rfl := Option.some.inj hu; exact g0
      | 1, _ => obtain rfl := Option.some.inj hu; exact g1
      | 2, _ => obtain rfl := Option.some.inj hu; exact g2
      | 3, _ => obtain rfl := Option.some.inj hu; exact g3
      | 4, _ => obtain rfl := Option.some.inj hu; exact g4
      | 5, _ => obtain rfl := Option.some.inj hu; exact g5
      | 6, _ => obtain rfl := Option.some.inj hu; exact g6)
    exact ⟨xs, hl, hm, reads_recs Awy.clen (by omega) hxl fun i x h => (hxs i x h).2, fun x hx => by
      obtain ⟨i, hi⟩ := List.getElem?_of_mem hx
      exact (hxs i x hi).1⟩
theorem op_awysS {f0 f1 f2 f3 f4 f5 f6 : Field} (ht : P.underlying t = some (.slice e)) (he : P.underlying e = some (.struct #[f0, f1, f2, f3, f4, f5, f6])) (hone : oneCellFields P #[f0, f1, f2, f3, f4, f5, f6] = true) (hC : P.cellsOf e = 7)
    (h0 : P.underlying f0.type = some .string) (h1 : P.underlying f1.type = some (.int .i64)) (h2 : P.underlying f2.type = some (.int .i64)) (h3 : P.underlying f3.type = some (.int .i64)) (h4 : P.underlying f4.type = some (.int .i64)) (h5 : P.underlying f5.type = some (.int .i64)) (h6 : P.underlying f6.type = some (.int .i64)) (hv : Value.okWide P W .any base t v) (h : DataW.Trod enc P W 0 (fun _ => true) true t v d p) :
    ∃ A n c xs, v = .slice A n c ∧ n ≤ c ∧ c ≤ maxLen ∧ Reads W W.heap.size 7 A n (Awy.recs xs) ∧ ∀ x ∈ xs, x.s.size ≤ maxLen := by
  obtain ⟨a0, n0, c0, rfl⟩ := okWide_slice ht hv
  obtain ⟨fuel, hf⟩ := h
  obtain ⟨xs, h1, h2, h3, h4⟩ := op_awys ht he hone hC h0 h1 h2 h3 h4 h5 h6 hf
  exact ⟨a0, n0, c0, xs, rfl, h1, h2, h3, h4⟩
end
section
variable {H : Type} {enc : TypeId × Value → H} {P : Program} {W : World} {base : Nat} {t e : TypeId} {v : Value} {d : DataW H} {p : List MemPlace}
theorem op_dors {fuel : Nat} {f0 f1 f2 f3 : Field} {x : DataW H × List MemPlace} (ht : P.underlying t = some (.slice e)) (he : P.underlying e = some (.struct #[f0, f1, f2, f3])) (hone : oneCellFields P #[f0, f1, f2, f3] = true) (hC : P.cellsOf e = 4)
    (h0 : P.underlying f0.type = some .string) (h1 : P.underlying f1.type = some (.int .i64)) (h2 : P.underlying f2.type = some (.int .i64)) (h3 : P.underlying f3.type = some (.int .i64)) {a0 : Option Addr} {n0 c0 : Nat} (h : DataW.trod enc P W 0 (fun _ => true) true fuel t [.slice a0 n0 c0] = some x) :
    ∃ xs, n0 ≤ c0 ∧ c0 ≤ maxLen ∧ Reads W W.heap.size 4 a0 n0 (Dor.recs xs) ∧ ∀ x ∈ xs, x.s.size ≤ maxLen := by
  rcases fields_at ht he hone hC h with hcs | ⟨a, len, cap, hcs, hl, hm, hi⟩
  · simp only [List.cons.injEq, Value.slice.injEq, and_true] at hcs
    obtain ⟨rfl, rfl, rfl⟩ := hcs
    exact ⟨[], by omega, by simp [maxLen], Reads.none_, fun x hx => by simp at hx⟩
  · simp only [List.cons.injEq, Value.slice.injEq, and_true] at hcs
    obtain ⟨rfl, rfl, rfl⟩ := hcs
    obtain ⟨xs, hxl, hxs⟩ := exists_list (p := fun i (x : Dor) => x.s.size ≤ maxLen ∧ ∀ j u, x.cells[j]? = some u → W.cell? (a.add (i * 4 + j)) = some u) n0 (fun i hin => by
      obtain ⟨n, hf⟩ := hi i (by omega)
      obtain ⟨u0, y0, g0, k0⟩ := hf 0 f0 rfl
      obtain ⟨s, q0, _, w0⟩ := DataW.trod_string h0 k0
      obtain ⟨u1, y1, g1, k1⟩ := hf 1 f1 rfl
      obtain ⟨m1, q1, _, w1⟩ := DataW.trod_int h1 k1
      obtain ⟨u2, y2, g2, k2⟩ := hf 2 f2 rfl
      obtain ⟨m2, q2, _, w2⟩ := DataW.trod_int h2 k2
      obtain ⟨u3, y3, g3, k3⟩ := hf 3 f3 rfl
      obtain ⟨m3, q3, _, w3⟩ := DataW.trod_int h3 k3
      simp only [List.cons.injEq, and_true] at q0 q1 q2 q3
      subst q0 q1 q2 q3
      refine ⟨⟨s, m1, m2, m3⟩, w0, fun j u hu => ?_⟩
      have hj : j < 4 := by
        rcases Nat.lt_or_ge j 4 with h1 | h1
        · exact h1
        · rw [List.getElem?_eq_none (by rw [Dor.clen]; exact h1)] at hu; cases hu
      match j, hj with
      | 0, _ => obtain rfl := Option.some.inj hu; exact g0
      | 1, _ => obtain rfl := Option.some.inj hu; exact g1
      | 2, _ => obtain rfl := Option.some.inj hu; exact g2
      | 3, _ => obtain rfl := Option.some.inj hu; exact g3)
    exact ⟨xs, hl, hm, reads_recs Dor.clen (by omega) hxl fun i x h => (hxs i x h).2, fun x hx => by
      obtain ⟨i, hi⟩ := List.getElem?_of_mem hx
      exact (hxs i x hi).1⟩
theorem op_dorsS {f0 f1 f2 f3 : Field} (ht : P.underlying t = some (.slice e)) (he : P.underlying e = some (.struct #[f0, f1, f2, f3])) (hone : oneCellFields P #[f0, f1, f2, f3] = true) (hC : P.cellsOf e = 4)
    (h0 : P.underlying f0.type = some .string) (h1 : P.underlying f1.type = some (.int .i64)) (h2 : P.underlying f2.type = some (.int .i64)) (h3 : P.underlying f3.type = some (.int .i64)) (hv : Value.okWide P W .any base t v) (h : DataW.Trod enc P W 0 (fun _ => true) true t v d p) :
    ∃ A n c xs, v = .slice A n c ∧ n ≤ c ∧ c ≤ maxLen ∧ Reads W W.heap.size 4 A n (Dor.recs xs) ∧ ∀ x ∈ xs, x.s.size ≤ maxLen := by
  obtain ⟨a0, n0, c0, rfl⟩ := okWide_slice ht hv
  obtain ⟨fuel, hf⟩ := h
  obtain ⟨xs, h1, h2, h3, h4⟩ := op_dors ht he hone hC h0 h1 h2 h3 hf
  exact ⟨a0, n0, c0, xs, rfl, h1, h2, h3, h4⟩
end
section
variable {H : Type} {enc : TypeId × Value → H} {P : Program} {W : World} {base : Nat} {t e q : TypeId} {v : Value} {d : DataW H} {p : List MemPlace}
/-- A struct of a number and of a slice of airways. -/
theorem op_mine {k0 k1 f0 f1 f2 f3 f4 f5 f6 : Field} (hs : P.underlying t = some (.struct #[k0, k1])) (hone2 : oneCellFields P #[k0, k1] = true) (hC2 : P.cellsOf t = 2) (hk0 : P.underlying k0.type = some (.int .i64)) (ht : P.underlying k1.type = some (.slice e))
    (he : P.underlying e = some (.struct #[f0, f1, f2, f3, f4, f5, f6])) (hone : oneCellFields P #[f0, f1, f2, f3, f4, f5, f6] = true) (hC : P.cellsOf e = 7)
    (h0 : P.underlying f0.type = some .string) (h1 : P.underlying f1.type = some (.int .i64)) (h2 : P.underlying f2.type = some (.int .i64)) (h3 : P.underlying f3.type = some (.int .i64)) (h4 : P.underlying f4.type = some (.int .i64)) (h5 : P.underlying f5.type = some (.int .i64)) (h6 : P.underlying f6.type = some (.int .i64))
    (hv : Value.okWide P W .any base t v) (h : DataW.Trod enc P W 0 (fun _ => true) true t v d p) :
    ∃ J A n c xs, v = .agg #[.int .i64 J, .slice A n c] ∧ n ≤ c ∧ c ≤ maxLen ∧ Reads W W.heap.size 7 A n (Awy.recs xs) ∧ ∀ x ∈ xs, x.s.size ≤ maxLen := by
  obtain ⟨c0, c1, y0, y1, m, rfl, _, _, t0, t1⟩ := open_agg2 hs hone2 hC2 hv h
  obtain ⟨J, e0, _, _⟩ := DataW.trod_int hk0 t0
  simp only [List.cons.injEq, and_true] at e0
  subst e0
  have hsl : ∃ a0 n0 cc, c1 = .slice a0 n0 cc := by
    rcases open_slice ht t1 with ⟨hcs, _⟩ | ⟨a, len, cap, _, _, _, _, hcs, _⟩
    · simp only [List.cons.injEq, and_true] at hcs; exact ⟨_, _, _, hcs⟩
    · simp only [List.cons.injEq, and_true] at hcs; exact ⟨_, _, _, hcs⟩
  obtain ⟨a0, n0, cc, rfl⟩ := hsl
  obtain ⟨xs, g1, g2, g3, g4⟩ := op_awys ht he hone hC h0 h1 h2 h3 h4 h5 h6 t1
  exact ⟨J, a0, n0, cc, xs, rfl, g1, g2, g3, g4⟩
end
end Go.Proofs.Ytjmhhbjbmgpagaa

/- Contracts of a survey and of lists of surveys: validity, bounds, the indices of an airway, common bounds. -/
namespace Go.Proofs.Ytjmhhbjbmgpagaa
set_option linter.unusedVariables false
set_option linter.unusedSimpArgs false
open Go.RowKit
theorem quietA {P : Program} {f : FuncId} {args : Array Value} {w : World} {a n : Nat} {v : Value}
    (h : Calls P f args (w.drewN (a + n)) fun e w' => e = .returned v ∧ w.drewN (a + n) = w') :
    Calls P f args (w.drewN (a + n)) fun e w'' => e = .returned v ∧ ∃ m, w'' = w.drewN (a + m) :=
  h.mono fun _ _ ⟨he, hm⟩ => ⟨he, n, hm.symm⟩
def svyOk (x : Svy) : Bool := isName x.s && inB x.d 0 10000 && inB x.e 0 10000 && inB x.f 1 100000 && inB x.g 0 (x.f - 1)
theorem svyOk_t {x : Svy} (h : svyOk x = true) : 0 ≤ x.d ∧ x.d ≤ 10000 ∧ 0 ≤ x.e ∧ x.e ≤ 10000 ∧ 1 ≤ x.f ∧ x.f ≤ 100000 ∧ 0 ≤ x.g ∧ x.g ≤ x.f - 1 ∧ x.s.size ≤ 10 := by
  unfold svyOk at h
  simp only [Bool.and_eq_true] at h
  have h1 := inB_t h.1.1.1.2
  have h2 := inB_t h.1.1.2
  have h3 := inB_t h.1.2
  have h4 := inB_t h.2
  have h5 := isName_size h.1.1.1.1
  omega
def asR (n : Int) : Int := min (max n 1) 1000000
theorem asR_bnd (n : Int) : 1 ≤ asR n ∧ asR n ≤ 1000000 := by unfold asR; omega
def lowOf (x : Svy) : Int := asR (max (x.d - x.e) 0 * 10000000000 / ((x.f + x.g) * (x.f + x.g)))
def highOf (x : Svy) : Int := asR (((x.d + x.e) * 10000000000 + (x.f - x.g) * (x.f - x.g) - 1) / ((x.f - x.g) * (x.f - x.g)))
theorem sq_bnd {m M : Int} (h1 : 1 ≤ m) (h2 : m ≤ M) : 1 ≤ m * m ∧ m * m ≤ M * M := by
  have a : 1 * 1 ≤ m * m := Int.mul_le_mul h1 h1 (by omega) (by omega)
  have b : m * m ≤ M * M := Int.mul_le_mul h2 h2 (by omega) (by omega)
  omega
end Go.Proofs.Ytjmhhbjbmgpagaa

/- Contracts of lists of surveys: validity, the surveys of an airway, common bounds. -/
namespace Go.Proofs.Ytjmhhbjbmgpagaa
set_option linter.unusedVariables false
set_option linter.unusedSimpArgs false
open Go.RowKit
def svysOk (xs : List Svy) : Bool := xs.all svyOk && decide (xs.length ≤ 16)
theorem svysOk_t {xs : List Svy} (h : svysOk xs = true) : (∀ x ∈ xs, svyOk x = true) ∧ xs.length ≤ 16 := by
  unfold svysOk at h
  simp only [Bool.and_eq_true, decide_eq_true_eq, List.all_eq_true] at h
  exact h
def strEq (a b : ByteArray) : Bool := a.toList == b.toList
def hitS (xs : List Svy) (s : ByteArray) (k : Nat) : Bool := match xs[k]? with | some x => strEq x.s s | none => false
def ofAt (xs : List Svy) (s : ByteArray) : Nat → List Int
  | 0 => []
  | k + 1 => if hitS xs s k = true then ofAt xs s k ++ [(k : Int)] else ofAt xs s k
theorem hit_of {xs : List Svy} {s : ByteArray} {k : Nat} {x : Svy} (h : xs[k]? = some x) : hitS xs s k = strEq x.s s := by unfold hitS; rw [h]
theorem ofAt_y {xs : List Svy} {s : ByteArray} {k : Nat} (h : hitS xs s k = true) : ofAt xs s (k + 1) = ofAt xs s k ++ [(k : Int)] := by simp [ofAt, h]
theorem ofAt_n {xs : List Svy} {s : ByteArray} {k : Nat} (h : hitS xs s k = false) : ofAt xs s (k + 1) = ofAt xs s k := by simp [ofAt, h]
theorem ofAt_len (xs : List Svy) (s : ByteArray) : ∀ k, (ofAt xs s k).length ≤ k
  | 0 => by simp [ofAt]
  | k + 1 => by
    have h := ofAt_len xs s k
    simp only [ofAt]
    split <;> simp <;> omega
theorem ofAt_mem {xs : List Svy} {s : ByteArray} {i : Int} : ∀ k, i ∈ ofAt xs s k → ∃ j : Nat, i = j ∧ j < k ∧ hitS xs s j = true
  | 0, h => by simp [ofAt] at h
  | k + 1, h => by
    simp only [ofAt] at h
    split at h
    · rename_i hk
      rw [List.mem_append, List.mem_singleton] at h
      rcases h with h | h
      · obtain ⟨j, h1, h2, h3⟩ := ofAt_mem k h
        exact ⟨j, h1, by omega, h3⟩
      · exact ⟨k, h, by omega, hk⟩
    · obtain ⟨j, h1, h2, h3⟩ := ofAt_mem k h
      exact ⟨j, h1, by omega, h3⟩
/-- The surveys of an airway, by their indices. -/
def svOf (xs : List Svy) (s : ByteArray) : List Int := ofAt xs s xs.length
theorem svOf_mem {xs : List Svy} {s : ByteArray} {i : Int} (h : i ∈ svOf xs s) : ∃ (j : Nat) (x : Svy), i = j ∧ xs[j]? = some x := by
  obtain ⟨j, h1, h2, h3⟩ := ofAt_mem _ h
  exact ⟨j, xs[j], h1, List.getElem?_eq_getElem h2⟩
/-- The survey with an index. -/
def svAt (xs : List Svy) (i : Int) : Svy := xs.getD i.toNat default
theorem svAt_eq {xs : List Svy} {j : Nat} {x : Svy} (h : xs[j]? = some x) : svAt xs j = x := by
  unfold svAt; rw [Int.toNat_natCast, List.getD_eq_getElem?_getD, h]; rfl
def cmAt (xs : List Svy) (is : List Int) : Nat → Int × Int
  | 0 => (1, 1000000)
  | k + 1 => (max (cmAt xs is k).1 (lowOf (svAt xs (is.getD k 0))), min (cmAt xs is k).2 (highOf (svAt xs (is.getD k 0))))
theorem cmAt_at {xs : List Svy} {is : List Int} {k : Nat} {i : Int} {x : Svy} (h : is[k]? = some i) (hx : svAt xs i = x) :
    cmAt xs is (k + 1) = (max (cmAt xs is k).1 (lowOf x), min (cmAt xs is k).2 (highOf x)) := by
  have e : is.getD k 0 = i := by rw [List.getD_eq_getElem?_getD, h]; rfl
  simp only [cmAt, e, hx]
def comR (xs : List Svy) (s : ByteArray) : Int × Int × Int :=
  if svysOk xs = true then (if (svOf xs s).length = 0 then (0, 0, 3) else
    if (cmAt xs (svOf xs s) (svOf xs s).length).2 < (cmAt xs (svOf xs s) (svOf xs s).length).1 then (0, 0, 6) else ((cmAt xs (svOf xs s) (svOf xs s).length).1, (cmAt xs (svOf xs s) (svOf xs s).length).2, 0)) else (0, 0, 1)
theorem comR_1 {xs : List Svy} {s : ByteArray} (h : svysOk xs = false) : comR xs s = (0, 0, 1) := by unfold comR; rw [h]; rfl
theorem comR_2 {xs : List Svy} {s : ByteArray} (h : svysOk xs = true) (h0 : (svOf xs s).length = 0) : comR xs s = (0, 0, 3) := by unfold comR; rw [if_pos h, if_pos h0]
theorem comR_3 {xs : List Svy} {s : ByteArray} (h : svysOk xs = true) (h0 : (svOf xs s).length ≠ 0) (h1 : (cmAt xs (svOf xs s) (svOf xs s).length).2 < (cmAt xs (svOf xs s) (svOf xs s).length).1) : comR xs s = (0, 0, 6) := by
  unfold comR; rw [if_pos h, if_neg h0, if_pos h1]
theorem comR_4 {xs : List Svy} {s : ByteArray} (h : svysOk xs = true) (h0 : (svOf xs s).length ≠ 0) (h1 : ¬ (cmAt xs (svOf xs s) (svOf xs s).length).2 < (cmAt xs (svOf xs s) (svOf xs s).length).1) :
    comR xs s = ((cmAt xs (svOf xs s) (svOf xs s).length).1, (cmAt xs (svOf xs s) (svOf xs s).length).2, 0) := by
  unfold comR; rw [if_pos h, if_neg h0, if_neg h1]
theorem ret_int3 {a b c a' b' c' : Int} (h : a = a') (h' : b = b') (h'' : c = c') : Ending.returned (.tuple #[.int .i64 a, .int .i64 b, .int .i64 c]) = .returned (.tuple #[.int .i64 a', .int .i64 b', .int .i64 c']) := by rw [h, h', h'']
end Go.Proofs.Ytjmhhbjbmgpagaa

/- Contracts of the bounds that all surveys of an airway have. -/
namespace Go.Proofs.Ytjmhhbjbmgpagaa
set_option linter.unusedVariables false
set_option linter.unusedSimpArgs false
open Go.RowKit
theorem cmAt_bnd (xs : List Svy) (is : List Int) : ∀ k, 1 ≤ (cmAt xs is k).1 ∧ (cmAt xs is k).1 ≤ 1000000 ∧ 1 ≤ (cmAt xs is k).2 ∧ (cmAt xs is k).2 ≤ 1000000
  | 0 => by simp [cmAt]
  | k + 1 => by
    have h := cmAt_bnd xs is k
    have h1 := asR_bnd (max ((svAt xs (is.getD k 0)).d - (svAt xs (is.getD k 0)).e) 0 * 10000000000 / (((svAt xs (is.getD k 0)).f + (svAt xs (is.getD k 0)).g) * ((svAt xs (is.getD k 0)).f + (svAt xs (is.getD k 0)).g)))
    have e1 : 1 ≤ lowOf (svAt xs (is.getD k 0)) ∧ lowOf (svAt xs (is.getD k 0)) ≤ 1000000 := h1
    have e2 : 1 ≤ highOf (svAt xs (is.getD k 0)) ∧ highOf (svAt xs (is.getD k 0)) ≤ 1000000 := asR_bnd _
    simp only [cmAt]
    omega
theorem low_bnd (x : Svy) : 1 ≤ lowOf x ∧ lowOf x ≤ 1000000 := asR_bnd _
theorem high_bnd (x : Svy) : 1 ≤ highOf x ∧ highOf x ≤ 1000000 := asR_bnd _
/-- An index of a list of indices leads to a record of the slice. -/
theorem open_at {w : World} {B n m : Nat} {A D : Option Addr} {xs : List Svy} {is : List Int} (hr : Reads w B 5 A n (Svy.recs xs)) (hs : Reads w B 1 D m (ints is)) (hi : ∀ i ∈ is, ∃ (j : Nat) (x : Svy), i = j ∧ xs[j]? = some x) {k : Nat} (hk : k < m) :
    ∃ (sd ad : Addr) (j : Nat) (x : Svy), D = some sd ∧ A = some ad ∧ j < n ∧ is[k]? = some (j : Int) ∧ w.cell? (sd.add k) = some (.int .i64 (j : Int)) ∧ xs[j]? = some x ∧ svAt xs (j : Int) = x ∧ Cells w (ad.add (j * 5)) x.cells := by
  obtain ⟨sd, u, rfl, _, hx, hc⟩ := hs.at_ hk
  obtain ⟨i, hi1, rfl⟩ := ints_at hx
  obtain ⟨j, x, rfl, hxj⟩ := hi i (mem_of_at hi1)
  have hl := recs_rlen Svy.clen (by omega) hr
  have hj : j < n := by
    rcases Nat.lt_or_ge j xs.length with h | h
    · omega
    · rw [List.getElem?_eq_none h] at hxj; cases hxj
  obtain ⟨ad, x', rfl, _, hx', hc'⟩ := hr.rec_at Svy.clen (by omega) hj
  obtain rfl : x = x' := by rw [hxj] at hx'; exact Option.some.inj hx'
  exact ⟨sd, ad, j, x, rfl, rfl, hj, hi1, hc, hxj, svAt_eq hxj, hc'⟩
end Go.Proofs.Ytjmhhbjbmgpagaa

/- Contracts of the surveys that agree: a list with some numbers struck out, the largest agreement. -/
namespace Go.Proofs.Ytjmhhbjbmgpagaa
set_option linter.unusedVariables false
set_option linter.unusedSimpArgs false
open Go.RowKit
end Go.Proofs.Ytjmhhbjbmgpagaa

/- Contracts of the largest agreement and of odd surveys. -/
namespace Go.Proofs.Ytjmhhbjbmgpagaa
set_option linter.unusedVariables false
set_option linter.unusedSimpArgs false
open Go.RowKit
def hasI (xs : List Int) (v : Int) : Bool := xs.any fun x => x == v
set_option maxHeartbeats 800000 in
theorem l00Has_any (A : Option Addr) (n c : Nat) (xs : List Int) (v : Int) (w : World) (hr : Reads w w.heap.size 1 A n (ints xs)) (hn : n ≤ 1048576) :
    Calls Try.prog 104 #[.slice A n c, .int .i64 v] w fun e w' => e = .returned (.bool (hasI xs v)) ∧ w = w' := by
  have HL := Lib.hid (ints_len hr)
  go_enter Try.func104, Try.ntmps104
  go_wp2
  go_loop [5] (fun i => ∃ k : Nat, k ≤ n ∧ i = .int .i64 k ∧ Hid ((xs.take k).any (fun x => x == v) = false)) (fun i => n - (intOf i).toNat)
  case atStart => exact ⟨0, by omega, rfl, by simp [Hid]⟩
  case round =>
    obtain ⟨k, hk, rfl, HK⟩ := hrel
    by_cases hlt : k < n
    · obtain ⟨ad, u, rfl, had, hx, hc⟩ := hr.at_ hlt
      obtain ⟨b, hb, rfl⟩ := ints_at hx
      have HX := Lib.hid hb
      clear hb hx
      cases hp : b == v
      · have HP := Lib.hid hp
        go_wp2
        go_round
        case rel => exact ⟨k + 1, by omega, by go_num, any_take HX.out HK.out HP.out⟩
        case measure => simp [intOf]; omega
      · have HP := Lib.hid hp
        go_wp2
        go_ret
        exact ⟨ret_bool (by unfold hasI; rw [List.any_eq_true.2 ⟨b, mem_of_at HX.out, HP.out⟩]), rfl⟩
    · have e : k = n := by omega
      subst e
      go_wp2
      go_ret
      have hall : xs.any (fun x => x == v) = false := by have := HK.out; rwa [List.take_of_length_le (by rw [HL.out]; omega)] at this
      exact ⟨ret_bool (by unfold hasI; rw [hall]), rfl⟩
set_option maxHeartbeats 800000 in
theorem index_any (A : Option Addr) (n c : Nat) (xs : List Int) (v : Int) (w : World) (hr : Reads w w.heap.size 1 A n (ints xs)) (hn : n ≤ 1048576) :
    Calls Try.prog 150 #[.slice A n c, .int .i64 v] w fun e w' => e = .returned (.int .i64 (idxI (fun x => x == v) xs)) ∧ w = w' := by
  have HL := Lib.hid (ints_len hr)
  go_enter Try.func150, Try.ntmps150
  go_wp2
  go_loop [8] (fun i => ∃ k : Nat, k ≤ n ∧ i = .int .i64 k ∧ Hid ((xs.take k).any (fun x => x == v) = false)) (fun i => n - (intOf i).toNat)
  case atStart => exact ⟨0, by omega, rfl, by simp [Hid]⟩
  case round =>
    obtain ⟨k, hk, rfl, HK⟩ := hrel
    by_cases hlt : k < n
    · obtain ⟨ad, u, rfl, had, hx, hc⟩ := hr.at_ hlt
      obtain ⟨b, hb, rfl⟩ := ints_at hx
      have HX := Lib.hid hb
      clear hb hx
      cases hp : b == v
      · have HP := Lib.hid hp
        have hp2 : (v == b) = false := by rw [← hp]; exact Bool.eq_iff_iff.2 (by simp only [beq_iff_eq]; exact eq_comm)
        clear hp
        go_wp2
        go_round
        case rel => exact ⟨k + 1, by omega, by go_num, any_take HX.out HK.out HP.out⟩
        case measure => simp [intOf]; omega
      · have HP := Lib.hid hp
        have hp2 : (v == b) = true := by rw [← hp]; exact Bool.eq_iff_iff.2 (by simp only [beq_iff_eq]; exact eq_comm)
        clear hp
        go_wp2
        go_ret
        exact ⟨ret_int (idx_at HX.out HP.out HK.out).symm, rfl⟩
    · have e : k = n := by omega
      subst e
      go_wp2
      go_ret
      have hall : xs.any (fun x => x == v) = false := by have := HK.out; rwa [List.take_of_length_le (by rw [HL.out]; omega)] at this
      exact ⟨ret_int (idx_none hall).symm, rfl⟩
theorem contains_any (A : Option Addr) (n c : Nat) (xs : List Int) (v : Int) (w : World) (hr : Reads w w.heap.size 1 A n (ints xs)) (hn : n ≤ 1048576) :
    Calls Try.prog 109 #[.slice A n c, .int .i64 v] w fun e w' => e = .returned (.bool (hasI xs v)) ∧ w = w' := by
  have HD := Lib.hid (idx_any (p := fun x => x == v) (xs := xs))
  go_enter Try.func109, Try.ntmps109
  go_wp2_with fail; ((with_reducible refine (index_any A n c xs v _ hr hn).mono ?_); rintro e w' ⟨rfl, rfl⟩)
  go_wp2
  go_ret
  exact ⟨ret_bool HD.out, rfl⟩
end Go.Proofs.Ytjmhhbjbmgpagaa

/- Contracts of a fan: its curve, its validity; equal fans. -/
namespace Go.Proofs.Ytjmhhbjbmgpagaa
set_option linter.unusedVariables false
set_option linter.unusedSimpArgs false
open Go.RowKit
theorem upto_one {f : Nat → Bool} (h : f 0 = true) : ∀ j, j < 1 → f j = true := by
  intro j hj
  obtain rfl : j = 0 := by omega
  exact h
def crvAt (ls : List (List Int)) (k : Nat) : Bool :=
  decide (lockN ls k = 2) && inB (lockA ls k) 0 100000 && inB (lockB ls k) 0 10000 && (decide (k = 0) || decide (lockA ls (k - 1) < lockA ls k ∧ lockB ls k ≤ lockB ls (k - 1)))
def crvOk (ls : List (List Int)) : Bool := decide (2 ≤ ls.length ∧ ls.length ≤ 8) && allUpto ls.length (crvAt ls)
theorem crv_n {ls : List (List Int)} {k : Nat} (h : lockN ls k ≠ 2) : crvAt ls k = false := by unfold crvAt; rw [decide_eq_false h]; rfl
theorem crv_a {ls : List (List Int)} {k : Nat} (h : inB (lockA ls k) 0 100000 = false) : crvAt ls k = false := by unfold crvAt; rw [h]; simp
theorem crv_b {ls : List (List Int)} {k : Nat} (h : inB (lockB ls k) 0 10000 = false) : crvAt ls k = false := by unfold crvAt; rw [h]; simp
theorem crv_x {ls : List (List Int)} {k : Nat} (h0 : k ≠ 0) (h : lockA ls k ≤ lockA ls (k - 1)) : crvAt ls k = false := by
  unfold crvAt; rw [decide_eq_false h0, decide_eq_false (show ¬ (lockA ls (k - 1) < lockA ls k ∧ lockB ls k ≤ lockB ls (k - 1)) by omega)]; simp
theorem crv_y {ls : List (List Int)} {k : Nat} (h0 : k ≠ 0) (h : lockB ls (k - 1) < lockB ls k) : crvAt ls k = false := by
  unfold crvAt; rw [decide_eq_false h0, decide_eq_false (show ¬ (lockA ls (k - 1) < lockA ls k ∧ lockB ls k ≤ lockB ls (k - 1)) by omega)]; simp
theorem crv_ok {ls : List (List Int)} {k : Nat} (h1 : lockN ls k = 2) (h2 : inB (lockA ls k) 0 100000 = true) (h3 : inB (lockB ls k) 0 10000 = true) (h4 : k = 0 ∨ (lockA ls (k - 1) < lockA ls k ∧ lockB ls k ≤ lockB ls (k - 1))) : crvAt ls k = true := by
  unfold crvAt; rw [decide_eq_true h1, h2, h3]
  rcases h4 with h | h
  · rw [decide_eq_true h]; rfl
  · rw [decide_eq_true h]; simp
theorem crv_t {ls : List (List Int)} {k : Nat} (h : crvAt ls k = true) : lockN ls k = 2 ∧ 0 ≤ lockA ls k ∧ lockA ls k ≤ 100000 ∧ 0 ≤ lockB ls k ∧ lockB ls k ≤ 10000 ∧ (k = 0 ∨ (lockA ls (k - 1) < lockA ls k ∧ lockB ls k ≤ lockB ls (k - 1))) := by
  unfold crvAt at h
  simp only [Bool.and_eq_true, Bool.or_eq_true, decide_eq_true_eq] at h
  have h1 := inB_t h.1.1.2
  have h2 := inB_t h.1.2
  exact ⟨h.1.1.1, h1.1, h1.2, h2.1, h2.2, h.2⟩
theorem crv_two {ls : List (List Int)} {k : Nat} (h : crvAt ls k = true) : lockN ls k = 2 := (crv_t h).1
theorem crv_some {ls : List (List Int)} {k : Nat} (hk : k < ls.length) (h : crvAt ls k = false) : crvOk ls = false := by unfold crvOk; rw [allUpto_f hk h, Bool.and_false]
theorem crvOk_t {ls : List (List Int)} (h : crvOk ls = true) : 2 ≤ ls.length ∧ ls.length ≤ 8 ∧ ∀ k, k < ls.length → crvAt ls k = true := by
  unfold crvOk at h
  simp only [Bool.and_eq_true, decide_eq_true_eq] at h
  exact ⟨h.1.1, h.1.2, fun k hk => allUpto_get h.2 hk⟩
def fanOk (s : ByteArray) (a : Int) (ls : List (List Int)) : Bool := isName s && inB a 0 23 && crvOk ls
theorem fanOk_t {s : ByteArray} {a : Int} {ls : List (List Int)} (h : fanOk s a ls = true) : isName s = true ∧ (0 ≤ a ∧ a ≤ 23) ∧ crvOk ls = true := by
  unfold fanOk at h
  simp only [Bool.and_eq_true] at h
  exact ⟨h.1.1, inB_t h.1.2, h.2⟩
set_option maxHeartbeats 6400000 in
set_option maxRecDepth 100000 in
theorem l06Curve_any (A : Option Addr) (n c : Nat) (rs : List Row) (w : World) (hr : RSS w w.heap.size A n rs) (hn : n ≤ 1048576) (hrn : ∀ r ∈ rs, r.n ≤ 1048576) :
    Calls Try.prog 155 #[.slice A n c] w fun e w' => e = .returned (.bool (crvOk (dat rs))) ∧ Below w.heap.size w w' := by
  have HM := Lib.hid hrn
  clear hrn
  have HLn : Hid ((dat rs).length = n) := show (dat rs).length = n by rw [dat_len]; exact hr.len
  go_enter Try.func155, Try.ntmps155
  go_wp2
  go_loopw [3] (fun i wr => ∃ (k : Nat), k ≤ n ∧ i = .int .i64 k ∧ Hid (∀ j, j < k → crvAt (dat rs) j = true) ∧ Below w.heap.size w wr) (fun i _ => n - (intOf i).toNat)
  case atStart => exact ⟨0, by omega, rfl, fun j hj => absurd hj (Nat.not_lt_zero _), Below.refl _ _⟩
  case round =>
    obtain ⟨k, hk, rfl, HK, hbw⟩ := hrel
    by_cases hlt : k < n
    · obtain ⟨ad, r, rfl, hx, hc, hrr⟩ := (hr.below hbw).at_ hlt
      obtain ⟨x1, x2, x3⟩ := lock_row (dat_at hx)
      have hlr := ints_len hrr
      by_cases h2 : r.xs.length = 2
      · obtain ⟨ra, hra, hn2, c0, c0', c1⟩ := open_two hrr h2
        rw [← x2] at c0 c0'
        rw [← x3] at c1
        rw [hra] at hc
        have X1 : Hid (lockN (dat rs) k = 2) := x1.trans h2
        have hrn2 : ((r.n : Int) != 2) = false := by rw [hn2]; rfl
        have hrn0 : (0 : Int) < (r.n : Int) := by omega
        have hrn1 : (1 : Int) < (r.n : Int) := by omega
        clear x1 x2 x3 hra hn2 hlr h2
        rcases Bool.eq_false_or_eq_true (inB (lockA (dat rs) k) 0 100000) with hA | hA
        · rcases Bool.eq_false_or_eq_true (inB (lockB (dat rs) k) 0 10000) with hB | hB
          · rcases Nat.eq_zero_or_pos k with h0 | hpos
            · subst h0
              have hcz : wr.cell? ad = some (.slice (some ra) r.n r.c) := hc
              have HY : Hid (crvAt (dat rs) 0 = true) := crv_ok X1.out hA hB (.inl rfl)
              go_wp2
              go_quiet (((go_at_call 77; first | exact quietB' (l00In_any _ _ _ _) hA | exact quietB' (l00In_any _ _ _ _) hB)))
              go_wp2
              go_roundw
              case rel => exact ⟨1, by omega, by go_num, upto_one HY.out, below_drewN hbw _⟩
              case measure => simp [intOf]; omega
            · obtain ⟨j, hj⟩ : ∃ j, Hid (k = j + 1) := ⟨k - 1, show k = k - 1 + 1 by omega⟩
              have hjn : j < n := by have := hj.out; omega
              have hwj : IntKind.i64.wrap ((k : Int) - 1) = (j : Int) := by have := hj.out; rw [IntWalk.i64_in _ (by omega)]; omega
              have hjk : Hid (k - 1 = j) := show k - 1 = j by have := hj.out; omega
              have hk0 : decide ((0 : Int) < (k : Int)) = true := decide_eq_true (by omega)
              have hjI : (j : Int) < (n : Int) := by omega
              obtain ⟨ad', q, e1, hx', hcq, hqq⟩ := (hr.below hbw).at_ hjn
              injection e1 with e1
              subst e1
              obtain ⟨y1, y2, y3⟩ := lock_row (dat_at hx')
              have z1 := crv_two (HK.out j (by have := hj.out; omega))
              obtain ⟨qa, hQ, qn2, q0, q0', q1⟩ := open_two hqq (by rw [← y1]; exact z1)
              rw [← y2] at q0 q0'
              rw [← y3] at q1
              rw [hQ] at hcq
              have hqn0 : (0 : Int) < (q.n : Int) := by omega
              have hqn1 : (1 : Int) < (q.n : Int) := by omega
              clear y1 y2 y3 z1 hQ qn2 hx'
              by_cases m1 : lockA (dat rs) k ≤ lockA (dat rs) j
              · have d1 : decide (lockA (dat rs) k ≤ lockA (dat rs) j) = true := decide_eq_true m1
                have HY : Hid (crvAt (dat rs) k = false) := crv_x (by have := hj.out; omega) (by rw [hjk.out]; omega)
                go_wp2
                go_quiet (((go_at_call 77; first | exact quietB' (l00In_any _ _ _ _) hA | exact quietB' (l00In_any _ _ _ _) hB)))
                go_wp2
                go_ret
                exact ⟨ret_bool ((crv_some (by rw [HLn.out]; exact hlt) HY.out).symm), below_drewN hbw _⟩
              · have d1 : decide (lockA (dat rs) k ≤ lockA (dat rs) j) = false := decide_eq_false m1
                by_cases m2 : lockB (dat rs) j < lockB (dat rs) k
                · have d2 : decide (lockB (dat rs) j < lockB (dat rs) k) = true := decide_eq_true m2
                  have HY : Hid (crvAt (dat rs) k = false) := crv_y (by have := hj.out; omega) (by rw [hjk.out]; omega)
                  go_wp2
                  go_quiet (((go_at_call 77; first | exact quietB' (l00In_any _ _ _ _) hA | exact quietB' (l00In_any _ _ _ _) hB)))
                  go_wp2
                  go_ret
                  exact ⟨ret_bool ((crv_some (by rw [HLn.out]; exact hlt) HY.out).symm), below_drewN hbw _⟩
                · have d2 : decide (lockB (dat rs) j < lockB (dat rs) k) = false := decide_eq_false m2
                  have HY : Hid (crvAt (dat rs) k = true) := crv_ok X1.out hA hB (.inr (by rw [hjk.out]; omega))
                  go_wp2
                  go_quiet (((go_at_call 77; first | exact quietB' (l00In_any _ _ _ _) hA | exact quietB' (l00In_any _ _ _ _) hB)))
                  go_wp2
                  go_roundw
                  case rel => exact ⟨k + 1, by omega, by go_num, upto_succ HK.out HY.out, below_drewN hbw _⟩
                  case measure => simp [intOf]; omega
          · have HY : Hid (crvAt (dat rs) k = false) := crv_b hB
            go_wp2
            go_quiet (((go_at_call 77; first | exact quietB' (l00In_any _ _ _ _) hA | exact quietB' (l00In_any _ _ _ _) hB)))
            go_wp2
            go_ret
            exact ⟨ret_bool ((crv_some (by rw [HLn.out]; exact hlt) HY.out).symm), below_drewN hbw _⟩
        · have HY : Hid (crvAt (dat rs) k = false) := crv_a hA
          have hB := hA
          go_wp2
          go_quiet (((go_at_call 77; first | exact quietB' (l00In_any _ _ _ _) hA | exact quietB' (l00In_any _ _ _ _) hB)))
          go_wp2
          go_ret
          exact ⟨ret_bool ((crv_some (by rw [HLn.out]; exact hlt) HY.out).symm), below_drewN hbw _⟩
      · have HY : Hid (crvAt (dat rs) k = false) := crv_n (by rw [x1]; exact h2)
        have hrn2 : ((r.n : Int) != 2) = true := by rw [bne_iff_ne]; omega
        clear x1 x2 x3
        go_wp2
        go_quiet (fail)
        go_wp2
        go_ret
        exact ⟨ret_bool ((crv_some (by rw [HLn.out]; exact hlt) HY.out).symm), below_drewN hbw _⟩
    · have e : k = n := by omega
      subst e
      have HV : Hid (crvOk (dat rs) = decide (2 ≤ k ∧ k ≤ 8)) := show crvOk (dat rs) = _ by unfold crvOk; rw [HLn.out, allUpto_t HK.out, Bool.and_true]
      by_cases h2 : 2 ≤ k
      · go_wp2
        go_ret
        exact ⟨ret_bool (by rw [HV.out]; exact Bool.eq_iff_iff.2 (by simp only [decide_eq_true_eq]; omega)), hbw⟩
      · go_wp2
        go_ret
        exact ⟨ret_bool (by rw [HV.out]; exact (decide_eq_false (by omega)).symm), hbw⟩
theorem l06Ok_any (s : ByteArray) (a : Int) (A : Option Addr) (n c : Nat) (rs : List Row) (p : Addr) (w : World) (hs : s.size ≤ maxLen) (hr : RSS w w.heap.size A n rs) (hn : n ≤ 1048576) (hrn : ∀ r ∈ rs, r.n ≤ 1048576) (hc : Cells w p [.string s, .int .i64 a, .slice A n c]) :
    Calls Try.prog 115 #[.pointer (some p)] w fun e w' => e = .returned (.bool (fanOk s a (dat rs))) ∧ Below w.heap.size w w' := by
  have h0 := hc.z rfl
  have h1 := hc.at_ 0 rfl
  have h2 := hc.at_ 1 rfl
  have cc := l06Curve_any A n c rs w hr hn hrn
  clear hc hrn
  rcases Bool.eq_false_or_eq_true (isName s) with k0 | k0
  · rcases Bool.eq_false_or_eq_true (inB a 0 23) with k1 | k1
    · have HV : Hid (fanOk s a (dat rs) = crvOk (dat rs)) := show _ = _ by unfold fanOk; rw [k0, k1]; rfl
      go_enter Try.func115, Try.ntmps115
      go_wp2_with fail; ((with_reducible refine (l01Name_any _ _ hs).mono ?_); rintro e w' ⟨rfl, rfl⟩)
      go_wp2_with fail; ((with_reducible refine (l00In_any _ _ _ _).mono ?_); rintro e w' ⟨rfl, rfl⟩)
      go_wp2_with fail; ((with_reducible refine cc.mono ?_); rintro e w1 ⟨rfl, hb1⟩)
      go_wp2
      go_ret
      exact ⟨ret_bool HV.out.symm, hb1⟩
    · have HV : Hid (fanOk s a (dat rs) = false) := show _ = _ by unfold fanOk; rw [k1]; simp
      go_enter Try.func115, Try.ntmps115
      go_wp2_with fail; ((with_reducible refine (l01Name_any _ _ hs).mono ?_); rintro e w' ⟨rfl, rfl⟩)
      go_wp2_with fail; ((with_reducible refine (l00In_any _ _ _ _).mono ?_); rintro e w' ⟨rfl, rfl⟩)
      go_wp2
      go_ret
      exact ⟨ret_bool HV.out.symm, Below.refl _ _⟩
  · have HV : Hid (fanOk s a (dat rs) = false) := show _ = _ by unfold fanOk; rw [k0]; simp
    go_enter Try.func115, Try.ntmps115
    go_wp2_with fail; ((with_reducible refine (l01Name_any _ _ hs).mono ?_); rintro e w' ⟨rfl, rfl⟩)
    go_wp2
    go_ret
    exact ⟨ret_bool HV.out.symm, Below.refl _ _⟩
set_option maxHeartbeats 6400000 in
set_option maxRecDepth 100000 in
theorem implValidFan_any (s : ByteArray) (a : Int) (A : Option Addr) (n c : Nat) (rs : List Row) (w : World) (hs : s.size ≤ maxLen) (hr1 : RSS w w.heap.size A n rs) (hn : n ≤ 1048576) (hrn : ∀ r ∈ rs, r.n ≤ 1048576) :
    Calls Try.prog 118 #[.agg #[.string s, .int .i64 a, .slice A n c]] w fun e w' => e = .returned (.bool (fanOk s a (dat rs))) ∧ Below w.heap.size w w' := by
  have HM := Lib.hid hrn
  clear hrn
  have HLn : Hid ((dat rs).length = n) := show (dat rs).length = n by rw [dat_len]; exact hr1.len
  have hr : RSS (w.alloc (.cells #[.string s, .int .i64 a, .slice A n c] 85)) (w.heap.size + 1) A n rs := (hr1.below ((Below.refl _ _).alloc (Nat.le_refl _) _)).more (by omega)
  rcases Bool.eq_false_or_eq_true (isName s) with k0 | k0
  · rcases Bool.eq_false_or_eq_true (inB a 0 23) with k1 | k1
    · by_cases h2 : 2 ≤ n
      · by_cases h8 : n ≤ 8
        · have HE : Hid (fanOk s a (dat rs) = allUpto n (crvAt (dat rs))) := show _ = _ by unfold fanOk crvOk; rw [k0, k1, HLn.out, decide_eq_true (And.intro h2 h8)]; simp
          go_enter Try.func118, Try.ntmps118
          go_wp2_with fail; ((with_reducible refine (isName_any _ _ hs).mono ?_); rintro e w' ⟨rfl, rfl⟩)
          go_wp2_with fail; ((with_reducible refine (within_any _ _ _ _).mono ?_); rintro e w' ⟨rfl, rfl⟩)
          go_wp2
          go_loopw [30] (fun i wr => ∃ (k : Nat), k ≤ n ∧ i = .int .i64 k ∧ Hid (∀ j, j < k → crvAt (dat rs) j = true) ∧ Below (w.heap.size + 1) (w.alloc (.cells #[.string s, .int .i64 a, .slice A n c] 85)) wr) (fun i _ => n - (intOf i).toNat)
          case atStart => exact ⟨0, by omega, rfl, fun j hj => absurd hj (Nat.not_lt_zero _), Below.refl _ _⟩
          case round =>
            obtain ⟨k, hk, rfl, HK, hbw⟩ := hrel
            have Bw : Below w.heap.size w wr := ((Below.refl _ _).alloc (Nat.le_refl _) _).trans (hbw.mono (by omega))
            by_cases hlt : k < n
            · obtain ⟨ad, r, rfl, hx, hc, hrr⟩ := (hr.below hbw).at_ hlt
              obtain ⟨x1, x2, x3⟩ := lock_row (dat_at hx)
              have hlr := ints_len hrr
              have hbox : wr.cell? ⟨w.heap.size, 2, none⟩ = some (.slice (some ad) n c) := (hbw.cell (p := ⟨w.heap.size, 2, none⟩) (by show w.heap.size < _; omega)).trans (by go_simp)
              by_cases h2 : r.xs.length = 2
              · obtain ⟨ra, hra, hn2, c0, c0', c1⟩ := open_two hrr h2
                rw [← x2] at c0 c0'
                rw [← x3] at c1
                rw [hra] at hc
                have X1 : Hid (lockN (dat rs) k = 2) := x1.trans h2
                have hrn2 : ((r.n : Int) != 2) = false := by rw [hn2]; rfl
                have hrn0 : (0 : Int) < (r.n : Int) := by omega
                have hrn1 : (1 : Int) < (r.n : Int) := by omega
                clear x1 x2 x3 hra hn2 hlr h2
                rcases Bool.eq_false_or_eq_true (inB (lockA (dat rs) k) 0 100000) with hA | hA
                · rcases Bool.eq_false_or_eq_true (inB (lockB (dat rs) k) 0 10000) with hB | hB
                  · rcases Nat.eq_zero_or_pos k with h0 | hpos
                    · subst h0
                      have hcz : wr.cell? ad = some (.slice (some ra) r.n r.c) := hc
                      have HY : Hid (crvAt (dat rs) 0 = true) := crv_ok X1.out hA hB (.inl rfl)
                      go_wp2
                      go_quiet (((go_at_call 97; first | exact quietB' (within_any _ _ _ _) hA | exact quietB' (within_any _ _ _ _) hB)))
                      go_wp2
                      go_roundw
                      case rel => exact ⟨1, by omega, by go_num, upto_one HY.out, below_drewN hbw _⟩
                      case measure => simp [intOf]; omega
                    · obtain ⟨j, hj⟩ : ∃ j, Hid (k = j + 1) := ⟨k - 1, show k = k - 1 + 1 by omega⟩
                      have hjn : j < n := by have := hj.out; omega
                      have hwj : IntKind.i64.wrap ((k : Int) - 1) = (j : Int) := by have := hj.out; rw [IntWalk.i64_in _ (by omega)]; omega
                      have hjk : Hid (k - 1 = j) := show k - 1 = j by have := hj.out; omega
                      have hk0 : decide ((0 : Int) < (k : Int)) = true := decide_eq_true (by omega)
                      have hjI : (j : Int) < (n : Int) := by omega
                      obtain ⟨ad', q, e1, hx', hcq, hqq⟩ := (hr.below hbw).at_ hjn
                      injection e1 with e1
                      subst e1
                      obtain ⟨y1, y2, y3⟩ := lock_row (dat_at hx')
                      have z1 := crv_two (HK.out j (by have := hj.out; omega))
                      obtain ⟨qa, hQ, qn2, q0, q0', q1⟩ := open_two hqq (by rw [← y1]; exact z1)
                      rw [← y2] at q0 q0'
                      rw [← y3] at q1
                      rw [hQ] at hcq
                      have hqn0 : (0 : Int) < (q.n : Int) := by omega
                      have hqn1 : (1 : Int) < (q.n : Int) := by omega
                      clear y1 y2 y3 z1 hQ qn2 hx'
                      by_cases m1 : lockA (dat rs) k ≤ lockA (dat rs) j
                      · have d1 : decide (lockA (dat rs) k ≤ lockA (dat rs) j) = true := decide_eq_true m1
                        have HY : Hid (crvAt (dat rs) k = false) := crv_x (by have := hj.out; omega) (by rw [hjk.out]; omega)
                        go_wp2
                        go_quiet (((go_at_call 97; first | exact quietB' (within_any _ _ _ _) hA | exact quietB' (within_any _ _ _ _) hB)))
                        go_wp2
                        go_ret
                        exact ⟨ret_bool (by rw [HE.out, allUpto_f hlt HY.out]), below_drewN Bw _⟩
                      · have d1 : decide (lockA (dat rs) k ≤ lockA (dat rs) j) = false := decide_eq_false m1
                        by_cases m2 : lockB (dat rs) j < lockB (dat rs) k
                        · have d2 : decide (lockB (dat rs) j < lockB (dat rs) k) = true := decide_eq_true m2
                          have HY : Hid (crvAt (dat rs) k = false) := crv_y (by have := hj.out; omega) (by rw [hjk.out]; omega)
                          go_wp2
                          go_quiet (((go_at_call 97; first | exact quietB' (within_any _ _ _ _) hA | exact quietB' (within_any _ _ _ _) hB)))
                          go_wp2
                          go_ret
                          exact ⟨ret_bool (by rw [HE.out, allUpto_f hlt HY.out]), below_drewN Bw _⟩
                        · have d2 : decide (lockB (dat rs) j < lockB (dat rs) k) = false := decide_eq_false m2
                          have HY : Hid (crvAt (dat rs) k = true) := crv_ok X1.out hA hB (.inr (by rw [hjk.out]; omega))
                          go_wp2
                          go_quiet (((go_at_call 97; first | exact quietB' (within_any _ _ _ _) hA | exact quietB' (within_any _ _ _ _) hB)))
                          go_wp2
                          go_roundw
                          case rel => exact ⟨k + 1, by omega, by go_num, upto_succ HK.out HY.out, below_drewN hbw _⟩
                          case measure => simp [intOf]; omega
                  · have HY : Hid (crvAt (dat rs) k = false) := crv_b hB
                    go_wp2
                    go_quiet (((go_at_call 97; first | exact quietB' (within_any _ _ _ _) hA | exact quietB' (within_any _ _ _ _) hB)))
                    go_wp2
                    go_ret
                    exact ⟨ret_bool (by rw [HE.out, allUpto_f hlt HY.out]), below_drewN Bw _⟩
                · have HY : Hid (crvAt (dat rs) k = false) := crv_a hA
                  have hB := hA
                  go_wp2
                  go_quiet (((go_at_call 97; first | exact quietB' (within_any _ _ _ _) hA | exact quietB' (within_any _ _ _ _) hB)))
                  go_wp2
                  go_ret
                  exact ⟨ret_bool (by rw [HE.out, allUpto_f hlt HY.out]), below_drewN Bw _⟩
              · have HY : Hid (crvAt (dat rs) k = false) := crv_n (by rw [x1]; exact h2)
                have hrn2 : ((r.n : Int) != 2) = true := by rw [bne_iff_ne]; omega
                clear x1 x2 x3
                go_wp2
                go_quiet (fail)
                go_wp2
                go_ret
                exact ⟨ret_bool (by rw [HE.out, allUpto_f hlt HY.out]), below_drewN Bw _⟩
            · have e : k = n := by omega
              subst e
              go_wp2
              go_ret
              exact ⟨ret_bool (by rw [HE.out, allUpto_t HK.out]), Bw⟩
        · have HV : Hid (fanOk s a (dat rs) = false) := show _ = _ by unfold fanOk crvOk; rw [HLn.out, decide_eq_false (show ¬ (2 ≤ n ∧ n ≤ 8) by omega)]; simp
          go_enter Try.func118, Try.ntmps118
          go_wp2_with fail; ((with_reducible refine (isName_any _ _ hs).mono ?_); rintro e w' ⟨rfl, rfl⟩)
          go_wp2_with fail; ((with_reducible refine (within_any _ _ _ _).mono ?_); rintro e w' ⟨rfl, rfl⟩)
          go_wp2
          go_ret
          exact ⟨ret_bool HV.out.symm, by (repeat (first | exact Below.refl _ _ | assumption | (refine Below.alloc ?_ (by first | exact Nat.le_refl _ | (simp; done) | (simp; omega)) _) | (refine below_drewN ?_ _) | (refine Below.trans ?_ (Below.mono (by assumption) (by first | exact Nat.le_refl _ | (simp; done) | (simp; omega) | omega)))))⟩
      · have HV : Hid (fanOk s a (dat rs) = false) := show _ = _ by unfold fanOk crvOk; rw [HLn.out, decide_eq_false (show ¬ (2 ≤ n ∧ n ≤ 8) by omega)]; simp
        go_enter Try.func118, Try.ntmps118
        go_wp2_with fail; ((with_reducible refine (isName_any _ _ hs).mono ?_); rintro e w' ⟨rfl, rfl⟩)
        go_wp2_with fail; ((with_reducible refine (within_any _ _ _ _).mono ?_); rintro e w' ⟨rfl, rfl⟩)
        go_wp2
        go_ret
        exact ⟨ret_bool HV.out.symm, by (repeat (first | exact Below.refl _ _ | assumption | (refine Below.alloc ?_ (by first | exact Nat.le_refl _ | (simp; done) | (simp; omega)) _) | (refine below_drewN ?_ _) | (refine Below.trans ?_ (Below.mono (by assumption) (by first | exact Nat.le_refl _ | (simp; done) | (simp; omega) | omega)))))⟩
    · have HV : Hid (fanOk s a (dat rs) = false) := show _ = _ by unfold fanOk; rw [k1]; simp
      go_enter Try.func118, Try.ntmps118
      go_wp2_with fail; ((with_reducible refine (isName_any _ _ hs).mono ?_); rintro e w' ⟨rfl, rfl⟩)
      go_wp2_with fail; ((with_reducible refine (within_any _ _ _ _).mono ?_); rintro e w' ⟨rfl, rfl⟩)
      go_wp2
      go_ret
      exact ⟨ret_bool HV.out.symm, by (repeat (first | exact Below.refl _ _ | assumption | (refine Below.alloc ?_ (by first | exact Nat.le_refl _ | (simp; done) | (simp; omega)) _) | (refine below_drewN ?_ _) | (refine Below.trans ?_ (Below.mono (by assumption) (by first | exact Nat.le_refl _ | (simp; done) | (simp; omega) | omega)))))⟩
  · have HV : Hid (fanOk s a (dat rs) = false) := show _ = _ by unfold fanOk; rw [k0]; simp
    go_enter Try.func118, Try.ntmps118
    go_wp2_with fail; ((with_reducible refine (isName_any _ _ hs).mono ?_); rintro e w' ⟨rfl, rfl⟩)
    go_wp2
    go_ret
    exact ⟨ret_bool HV.out.symm, by (repeat (first | exact Below.refl _ _ | assumption | (refine Below.alloc ?_ (by first | exact Nat.le_refl _ | (simp; done) | (simp; omega)) _) | (refine below_drewN ?_ _) | (refine Below.trans ?_ (Below.mono (by assumption) (by first | exact Nat.le_refl _ | (simp; done) | (simp; omega) | omega)))))⟩
end Go.Proofs.Ytjmhhbjbmgpagaa

/- The laws' own helpers on fans and mines: size, copy, compare, mark. -/
namespace Go.Proofs.Ytjmhhbjbmgpagaa
set_option linter.unusedVariables false
set_option linter.unusedSimpArgs false
open Go.RowKit
theorem szFan_any (s : ByteArray) (a : Int) (A : Option Addr) (n c : Nat) (rs : List Row) (l : Int) (w : World) (hs : s.size ≤ maxLen) (hr : RSS w w.heap.size A n rs) (h1 : 0 ≤ l) (h2 : l ≤ 1048576) (hn : n ≤ maxLen) (hrn : ∀ r ∈ rs, r.n ≤ maxLen) :
    Calls Try.prog 60 #[.agg #[.string s, .int .i64 a, .slice A n c], .int .i64 l] w fun e w' => e = .returned (.int .i64 (szI l (s.size + (n + tot rs)))) ∧ Below w.heap.size w w' := by
  have HM := Lib.hid hrn
  have t0 := tot_nonneg rs
  have HR : Hid (∀ W, Below w.heap.size w W → RSS W W.heap.size A n rs) := fun W hb => (hr.below hb).more hb.size
  have hn0 : n ≤ maxLen := hn
  have hs' := hs
  unfold maxLen at hs
  clear hrn
  by_cases hl : l < s.size
  · have HS := Lib.hid (szI_n (l := l) (s := s.size + (n + tot rs)) (by omega))
    go_enter Try.func60, Try.ntmps60
    go_wp2
    go_ret
    exact ⟨ret_int HS.out.symm, by (repeat (first | exact Below.refl _ _ | assumption | (refine Below.alloc ?_ (by first | exact Nat.le_refl _ | (simp; done) | (simp; omega)) _) | (refine below_drewN ?_ _) | (refine Below.trans ?_ (Below.mono (by assumption) (by first | exact Nat.le_refl _ | (simp; done) | (simp; omega) | omega)))))⟩
  · by_cases hl2 : l - s.size < n + tot rs
    · have HS := Lib.hid (szI_n (l := l) (s := s.size + (n + tot rs)) (by omega))
      have H2 : Hid (szI (l - s.size) (n + tot rs) = -1) := szI_n hl2
      go_enter Try.func60, Try.ntmps60
      go_wp2_with fail; ((with_reducible refine (szRows_any A n c rs _ _ (HR.out _ (by (repeat (first | exact Below.refl _ _ | assumption | (refine Below.alloc ?_ (by first | exact Nat.le_refl _ | (simp; done) | (simp; omega)) _) | (refine below_drewN ?_ _) | (refine Below.trans ?_ (Below.mono (by assumption) (by first | exact Nat.le_refl _ | (simp; done) | (simp; omega) | omega))))))) (by omega) (by omega) hn0 HM.out).mono ?_); rintro e w1 ⟨rfl, hb1⟩)
      rw [H2.out]
      go_wp2
      go_ret
      exact ⟨ret_int HS.out.symm, ((Below.refl _ _).alloc (Nat.le_refl _) _).trans (hb1.mono (by simp))⟩
    · have HS := Lib.hid (szI_y (l := l) (s := s.size + (n + tot rs)) (by omega))
      have H2 : Hid (szI (l - s.size) (n + tot rs) = l - s.size - (n + tot rs)) := szI_y hl2
      go_enter Try.func60, Try.ntmps60
      go_wp2_with fail; ((with_reducible refine (szRows_any A n c rs _ _ (HR.out _ (by (repeat (first | exact Below.refl _ _ | assumption | (refine Below.alloc ?_ (by first | exact Nat.le_refl _ | (simp; done) | (simp; omega)) _) | (refine below_drewN ?_ _) | (refine Below.trans ?_ (Below.mono (by assumption) (by first | exact Nat.le_refl _ | (simp; done) | (simp; omega) | omega))))))) (by omega) (by omega) hn0 HM.out).mono ?_); rintro e w1 ⟨rfl, hb1⟩)
      rw [H2.out]
      go_wp2
      go_ret
      exact ⟨ret_int (by rw [HS.out]; omega), ((Below.refl _ _).alloc (Nat.le_refl _) _).trans (hb1.mono (by simp))⟩
theorem OSS.setLow {w : World} {lo n c : Nat} {A : Option Addr} {rs : List Row} (h : OSS w lo A n c rs) {p : Addr} (hp : p.block < lo) (u : Value) : OSS (w.setCell p u) lo A n c rs :=
  ⟨ownsRow_setCell_below h.out hp u, fun r hr => ownsRow_setCell_below (h.row r hr) hp u, h.apart⟩
set_option maxHeartbeats 800000 in
theorem toFan_any (s : ByteArray) (a : Int) (A : Option Addr) (n c : Nat) (rs : List Row) (w : World) (hs : s.size ≤ maxLen) (hr : RSS w w.heap.size A n rs) (hn : n ≤ 1048576) (hrn : ∀ r ∈ rs, r.n ≤ 1048576) :
    Calls Try.prog 65 #[.agg #[.string s, .int .i64 a, .slice A n c]] w fun e w' => ∃ A' rs', e = .returned (.agg #[.string s, .int .i64 a, .slice A' n n]) ∧ OSS w' w.heap.size A' n n rs' ∧ dat rs' = dat rs ∧ Below w.heap.size w w' := by
  have HM := Lib.hid hrn
  have HR : Hid (∀ W, Below w.heap.size w W → RSS W W.heap.size A n rs) := fun W hb => (hr.below hb).more hb.size
  clear hrn
  go_enter Try.func65, Try.ntmps65
  go_wp2_with fail; ((with_reducible refine (toInt64SS_any A n c rs _ (HR.out _ (by (repeat (first | exact Below.refl _ _ | assumption | (refine Below.alloc ?_ (by first | exact Nat.le_refl _ | (simp; done) | (simp; omega)) _) | (refine below_drewN ?_ _) | (refine Below.trans ?_ (Below.mono (by assumption) (by first | exact Nat.le_refl _ | (simp; done) | (simp; omega) | omega))))))) hn HM.out).mono ?_); rintro e w1 ⟨rs1, rfl, o1, D1, hb1⟩)
  obtain ⟨hc1, hf1⟩ := bcell hb1
  have zz : w.heap.size + 3 ≤ w1.heap.size := by have h := hb1.size; simp at h; omega
  have z1 : w.heap.size + 1 < w1.heap.size := by omega
  have z2 : w.heap.size + 2 < w1.heap.size := by omega
  have o2 : OSS w1 (w.heap.size + 3) (some ⟨w.heap.size + 1 + 1 + 1, 0, none⟩) n n rs1 := by simpa using o1
  have B1 : Below w.heap.size w w1 := (show Below w.heap.size w _ by (repeat (first | exact Below.refl _ _ | assumption | (refine Below.alloc ?_ (by first | exact Nat.le_refl _ | (simp; done) | (simp; omega)) _) | (refine below_drewN ?_ _) | (refine Below.trans ?_ (Below.mono (by assumption) (by first | exact Nat.le_refl _ | (simp; done) | (simp; omega) | omega)))))).trans (hb1.mono (by simp; omega))
  have O2 := Lib.hid o2
  clear o1 o2
  go_wp2
  refine bodyPost_ret (v := .agg #[.string s, .int .i64 a, .slice (some ⟨w.heap.size + 1 + 1 + 1, 0, none⟩) n n]) (by simp [results, Try.results65, go_sem, hc1, z1, z2]) rfl ⟨_, rs1, rfl, ?_, D1, ?_⟩
  · refine OSS.base (lo := w.heap.size + 3) ?_ (by omega)
    repeat (refine OSS.setLow ?_ (by first | (simp; done) | (simp; omega)) _)
    exact O2.out
  · repeat (first | exact B1 | (refine Below.setCell ?_ (by first | (simp; done) | (simp; omega)) _))
set_option maxHeartbeats 800000 in
theorem eqFan_b (s : ByteArray) (a : Int) (A B : Option Addr) (n c d : Nat) (rs qs : List Row) (w : World) (hr : RSS w w.heap.size A n rs) (hq : RSS w w.heap.size B n qs) (hd : dat rs = dat qs) (hn : n ≤ 1099511627776) (hrn : ∀ r ∈ rs, r.n ≤ 1099511627776) :
    Calls Try.prog 70 #[.agg #[.string s, .int .i64 a, .slice A n c], .agg #[.string s, .int .i64 a, .slice B n d]] w fun e w' => e = .returned (.bool true) ∧ Below w.heap.size w w' := by
  have HM := Lib.hid hrn
  have HD := Lib.hid hd
  have HR : Hid (∀ W, Below w.heap.size w W → RSS W W.heap.size A n rs) := fun W hb => (hr.below hb).more hb.size
  have HQ : Hid (∀ W, Below w.heap.size w W → RSS W W.heap.size B n qs) := fun W hb => (hq.below hb).more hb.size
  clear hrn hd
  go_enter Try.func70, Try.ntmps70
  go_wp2_with fail; ((with_reducible refine (eqInt64SS_b A B n c d rs qs _ (HR.out _ (by (repeat (first | exact Below.refl _ _ | assumption | (refine Below.alloc ?_ (by first | exact Nat.le_refl _ | (simp; done) | (simp; omega)) _) | (refine below_drewN ?_ _) | (refine Below.trans ?_ (Below.mono (by assumption) (by first | exact Nat.le_refl _ | (simp; done) | (simp; omega) | omega))))))) (HQ.out _ (by (repeat (first | exact Below.refl _ _ | assumption | (refine Below.alloc ?_ (by first | exact Nat.le_refl _ | (simp; done) | (simp; omega)) _) | (refine below_drewN ?_ _) | (refine Below.trans ?_ (Below.mono (by assumption) (by first | exact Nat.le_refl _ | (simp; done) | (simp; omega) | omega))))))) HD.out hn HM.out).mono ?_); rintro e w1 ⟨rfl, hb1⟩)
  go_wp2
  go_ret
  exact ⟨rfl, (show Below w.heap.size w _ by (repeat (first | exact Below.refl _ _ | assumption | (refine Below.alloc ?_ (by first | exact Nat.le_refl _ | (simp; done) | (simp; omega)) _) | (refine below_drewN ?_ _) | (refine Below.trans ?_ (Below.mono (by assumption) (by first | exact Nat.le_refl _ | (simp; done) | (simp; omega) | omega)))))).trans (hb1.mono (by simp; omega))⟩
theorem szMine_any (J : Int) (A : Option Addr) (n c : Nat) (xs : List Awy) (l : Int) (w : World) (hr : Reads w w.heap.size 7 A n (Awy.recs xs)) (h1 : 0 ≤ l) (h2 : l ≤ 1048576) (hn : n ≤ maxLen) (hxs : ∀ x ∈ xs, x.s.size ≤ maxLen) :
    Calls Try.prog 10 #[.agg #[.int .i64 J, .slice A n c], .int .i64 l] w fun e w' => e = .returned (.int .i64 (szI l (n + sumN Awy.len xs))) ∧ Below w.heap.size w w' := by
  have HM := Lib.hid hxs
  have t0 := sumN_nonneg Awy.len xs
  have HR : Hid (∀ W, Below w.heap.size w W → Reads W W.heap.size 7 A n (Awy.recs xs)) := fun W hb => (hr.below hb).more hb.size
  clear hxs
  by_cases hl : l < n + sumN Awy.len xs
  · have H2 : Hid (szI l (n + sumN Awy.len xs) = -1) := szI_n hl
    go_enter Try.func10, Try.ntmps10
    go_wp2_with fail; ((with_reducible refine (szAwyS_any A n c xs _ _ (HR.out _ (by (repeat (first | exact Below.refl _ _ | assumption | (refine Below.alloc ?_ (by first | exact Nat.le_refl _ | (simp; done) | (simp; omega)) _) | (refine below_drewN ?_ _) | (refine Below.trans ?_ (Below.mono (by assumption) (by first | exact Nat.le_refl _ | (simp; done) | (simp; omega) | omega))))))) h1 h2 hn HM.out).mono ?_); rintro e w1 ⟨rfl, hb1⟩)
    rw [H2.out]
    go_wp2
    go_ret
    exact ⟨ret_int H2.out.symm, ((Below.refl _ _).alloc (Nat.le_refl _) _).trans (hb1.mono (by simp))⟩
  · have H2 : Hid (szI l (n + sumN Awy.len xs) = l - (n + sumN Awy.len xs)) := szI_y hl
    go_enter Try.func10, Try.ntmps10
    go_wp2_with fail; ((with_reducible refine (szAwyS_any A n c xs _ _ (HR.out _ (by (repeat (first | exact Below.refl _ _ | assumption | (refine Below.alloc ?_ (by first | exact Nat.le_refl _ | (simp; done) | (simp; omega)) _) | (refine below_drewN ?_ _) | (refine Below.trans ?_ (Below.mono (by assumption) (by first | exact Nat.le_refl _ | (simp; done) | (simp; omega) | omega))))))) h1 h2 hn HM.out).mono ?_); rintro e w1 ⟨rfl, hb1⟩)
    rw [H2.out]
    go_wp2
    go_ret
    exact ⟨ret_int H2.out.symm, ((Below.refl _ _).alloc (Nat.le_refl _) _).trans (hb1.mono (by simp))⟩
set_option maxHeartbeats 800000 in
theorem toMine_any (J : Int) (A : Option Addr) (n c : Nat) (xs : List Awy) (w : World) (hr : Reads w w.heap.size 7 A n (Awy.recs xs)) (hn : n ≤ 1048576) (hxs : ∀ x ∈ xs, x.s.size ≤ maxLen) :
    Calls Try.prog 12 #[.agg #[.int .i64 J, .slice A n c]] w fun e w' => ∃ A', e = .returned (.agg #[.int .i64 J, .slice A' n n]) ∧ w'.ownsRow w.heap.size 99 7 (.slice A' n n) n (Awy.recs xs) ∧ Below w.heap.size w w' := by
  have HM := Lib.hid hxs
  have HR : Hid (∀ W, Below w.heap.size w W → Reads W W.heap.size 7 A n (Awy.recs xs)) := fun W hb => (hr.below hb).more hb.size
  clear hxs
  go_enter Try.func12, Try.ntmps12
  go_wp2_with fail; ((with_reducible refine (toAwyS_any A n c xs _ (HR.out _ (by (repeat (first | exact Below.refl _ _ | assumption | (refine Below.alloc ?_ (by first | exact Nat.le_refl _ | (simp; done) | (simp; omega)) _) | (refine below_drewN ?_ _) | (refine Below.trans ?_ (Below.mono (by assumption) (by first | exact Nat.le_refl _ | (simp; done) | (simp; omega) | omega))))))) hn HM.out).mono ?_); rintro e w1 ⟨rfl, o1, hb1⟩)
  obtain ⟨hc1, hf1⟩ := bcell hb1
  have zz : w.heap.size + 3 ≤ w1.heap.size := by have h := hb1.size; simp at h; omega
  have z1 : w.heap.size + 1 < w1.heap.size := by omega
  have z2 : w.heap.size + 2 < w1.heap.size := by omega
  have o2 : w1.ownsRow (w.heap.size + 3) 99 7 (.slice (some ⟨w.heap.size + 1 + 1 + 1, 0, none⟩) n n) n (Awy.recs xs) := by simpa using o1
  have B1 : Below w.heap.size w w1 := (show Below w.heap.size w _ by (repeat (first | exact Below.refl _ _ | assumption | (refine Below.alloc ?_ (by first | exact Nat.le_refl _ | (simp; done) | (simp; omega)) _) | (refine below_drewN ?_ _) | (refine Below.trans ?_ (Below.mono (by assumption) (by first | exact Nat.le_refl _ | (simp; done) | (simp; omega) | omega)))))).trans (hb1.mono (by simp; omega))
  have O2 := Lib.hid o2
  clear o1 o2
  go_wp2
  refine bodyPost_ret (v := .agg #[.int .i64 J, .slice (some ⟨w.heap.size + 1 + 1 + 1, 0, none⟩) n n]) (by simp [results, Try.results12, go_sem, hc1, z1, z2]) rfl ⟨_, rfl, ?_, ?_⟩
  · refine own_base (base := w.heap.size + 3) ?_ (by omega)
    repeat (refine ownsRow_setCell_below ?_ (by first | (simp; done) | (simp; omega)) _)
    exact O2.out
  · repeat (first | exact B1 | (refine Below.setCell ?_ (by first | (simp; done) | (simp; omega)) _))
theorem eqMine_b (J : Int) (A B : Option Addr) (n c d : Nat) (xs : List Awy) (w : World) (hr : Reads w w.heap.size 7 A n (Awy.recs xs)) (hq : Reads w w.heap.size 7 B n (Awy.recs xs)) (hn : n ≤ 1099511627776) :
    Calls Try.prog 15 #[.agg #[.int .i64 J, .slice A n c], .agg #[.int .i64 J, .slice B n d]] w fun e w' => e = .returned (.bool true) ∧ Below w.heap.size w w' := by
  have HR : Hid (∀ W, Below w.heap.size w W → Reads W W.heap.size 7 A n (Awy.recs xs)) := fun W hb => (hr.below hb).more hb.size
  have HQ : Hid (∀ W, Below w.heap.size w W → Reads W W.heap.size 7 B n (Awy.recs xs)) := fun W hb => (hq.below hb).more hb.size
  go_enter Try.func15, Try.ntmps15
  go_wp2_with fail; ((with_reducible refine (eqAwyS_b A B n c d xs _ (HR.out _ (by (repeat (first | exact Below.refl _ _ | assumption | (refine Below.alloc ?_ (by first | exact Nat.le_refl _ | (simp; done) | (simp; omega)) _) | (refine below_drewN ?_ _) | (refine Below.trans ?_ (Below.mono (by assumption) (by first | exact Nat.le_refl _ | (simp; done) | (simp; omega) | omega))))))) (HQ.out _ (by (repeat (first | exact Below.refl _ _ | assumption | (refine Below.alloc ?_ (by first | exact Nat.le_refl _ | (simp; done) | (simp; omega)) _) | (refine below_drewN ?_ _) | (refine Below.trans ?_ (Below.mono (by assumption) (by first | exact Nat.le_refl _ | (simp; done) | (simp; omega) | omega))))))) hn).mono ?_); rintro e w1 ⟨rfl, hb1⟩)
  go_wp2
  go_ret
  exact ⟨rfl, (show Below w.heap.size w _ by (repeat (first | exact Below.refl _ _ | assumption | (refine Below.alloc ?_ (by first | exact Nat.le_refl _ | (simp; done) | (simp; omega)) _) | (refine below_drewN ?_ _) | (refine Below.trans ?_ (Below.mono (by assumption) (by first | exact Nat.le_refl _ | (simp; done) | (simp; omega) | omega)))))).trans (hb1.mono (by simp; omega))⟩
theorem markMine_any (J : Int) (A : Option Addr) (n c : Nat) (xs : List Value) (k : Int) (base : Nat) (w : World) (hown : w.ownsRow base 99 7 (.slice A n c) n xs) (hn : n ≤ 1048576) (hk0 : 0 ≤ k) (hk1 : k ≤ 1073741824) :
    Calls Try.prog 19 #[.agg #[.int .i64 J, .slice A n c], .int .i64 k] w fun e w' => e = .returned (.int .i64 (k + 7 * n)) ∧ w.grownBy w' (Value.ownBlock (.slice A n c)) := by
  have HO : Hid (∀ W, Below w.heap.size w W → W.ownsRow base 99 7 (.slice A n c) n xs) := fun W hb => own_below hown hb
  clear hown
  go_enter Try.func19, Try.ntmps19
  go_wp2_with fail; ((with_reducible refine (markAwyS_any A n c xs k base _ (HO.out _ (by (repeat (first | exact Below.refl _ _ | assumption | (refine Below.alloc ?_ (by first | exact Nat.le_refl _ | (simp; done) | (simp; omega)) _) | (refine below_drewN ?_ _) | (refine Below.trans ?_ (Below.mono (by assumption) (by first | exact Nat.le_refl _ | (simp; done) | (simp; omega) | omega))))))) hn hk0 hk1).mono ?_); rintro e w1 ⟨rfl, hb1⟩)
  go_wp2
  go_ret
  exact ⟨rfl, (only_of_below ((Below.refl _ _).alloc (Nat.le_refl _) _) _).trans hb1⟩
end Go.Proofs.Ytjmhhbjbmgpagaa

/- Contracts of the laws' own marks on rows of numbers and on a fan's curve. -/
namespace Go.Proofs.Ytjmhhbjbmgpagaa
set_option linter.unusedVariables false
set_option linter.unusedSimpArgs false
open Go.RowKit
/-- Rows that hold running numbers from k on. -/
def numR (rs : List Row) (k : Int) : List Row := rs.mapIdx fun i r => ⟨r.A, r.n, r.c, marksInt64S (k + tot (rs.take i)) r.n⟩
theorem numR_at {rs : List Row} {k : Int} {i : Nat} {q : Row} (h : (numR rs k)[i]? = some q) : ∃ r, rs[i]? = some r ∧ q = ⟨r.A, r.n, r.c, marksInt64S (k + tot (rs.take i)) r.n⟩ := by
  unfold numR at h
  rw [List.getElem?_mapIdx] at h
  cases e : rs[i]? with
  | none => rw [e] at h; simp at h
  | some r => rw [e] at h; simp at h; exact ⟨r, rfl, h.symm⟩
theorem numR_vals (rs : List Row) (k : Int) : rowsV (numR rs k) = rowsV rs := by
  apply List.ext_getElem?
  intro i
  unfold rowsV numR
  rw [List.getElem?_map, List.getElem?_map, List.getElem?_mapIdx]
  cases rs[i]? <;> rfl
theorem own_ne {w : World} {b1 e1 z1 n1 b2 e2 z2 n2 : Nat} {v1 v2 : Value} {xs1 xs2 : List Value} (h1 : w.ownsRow b1 e1 z1 v1 n1 xs1) (h2 : w.ownsRow b2 e2 z2 v2 n2 xs2) (hne : e1 ≠ e2) : ∀ k, v1.ownBlock = some k → v2.ownBlock = some k → False := by
  intro k k1 k2
  rcases h1.2 with ⟨rfl, _⟩ | ⟨g, cap, cur, rfl, _, g1, _⟩
  · simp [Value.ownBlock] at k1
  · rcases h2.2 with ⟨rfl, _⟩ | ⟨g', cap', cur', rfl, _, g2, _⟩
    · simp [Value.ownBlock] at k2
    · simp [Value.ownBlock] at k1 k2
      subst k1 k2
      rw [g1] at g2
      injection g2 with g2
      injection g2 with _ ht
      exact hne ht
def totD : List (List Int) → Int
  | [] => 0
  | x :: t => x.length + totD t
theorem tot_dat {w : World} {B : Nat} : ∀ {rs : List Row}, (∀ r ∈ rs, Reads w B 1 r.A r.n (ints r.xs)) → tot rs = totD (dat rs)
  | [], _ => rfl
  | r :: t, h => by
    have h1 := tot_dat (rs := t) fun q hq => h q (List.mem_cons_of_mem _ hq)
    have h2 := ints_len (h r (List.mem_cons_self ..))
    simp only [tot, dat, List.map_cons, totD]
    rw [h1, h2]; rfl
theorem tot_eq {w w' : World} {B B' n m : Nat} {A A' : Option Addr} {rs rs' : List Row} (h : RSS w B A n rs) (h' : RSS w' B' A' m rs') (hd : dat rs' = dat rs) : tot rs' = tot rs := by
  rw [tot_dat h.row, tot_dat h'.row, hd]
theorem apart_at {rs : List Row} (h : rs.Pairwise fun r s => ∀ k, r.val.ownBlock = some k → s.val.ownBlock = some k → False) {i j : Nat} {r s : Row} (hi : rs[i]? = some r) (hj : rs[j]? = some s) (hne : i ≠ j) : ∀ k, r.val.ownBlock = some k → s.val.ownBlock = some k → False := by
  have li : i < rs.length := by
    rcases Nat.lt_or_ge i rs.length with h1 | h1
    · exact h1
    · rw [List.getElem?_eq_none h1] at hi; cases hi
  have lj : j < rs.length := by
    rcases Nat.lt_or_ge j rs.length with h1 | h1
    · exact h1
    · rw [List.getElem?_eq_none h1] at hj; cases hj
  rw [List.getElem?_eq_getElem li] at hi
  rw [List.getElem?_eq_getElem lj] at hj
  obtain rfl := Option.some.inj hi
  obtain rfl := Option.some.inj hj
  rw [List.pairwise_iff_getElem] at h
  intro k h1 h2
  rcases Nat.lt_or_gt_of_ne hne with g | g
  · exact h i j li lj g k h1 h2
  · exact h j i lj li g k h2 h1
theorem len_of_at {α : Type} {xs : List α} {i : Nat} {x : α} (h : xs[i]? = some x) : i < xs.length := by
  rcases Nat.lt_or_ge i xs.length with h1 | h1
  · exact h1
  · rw [List.getElem?_eq_none h1] at h; cases h
/-- How rows stand while the first j of them are marked. -/
structure Mrk (w : World) (lo hi : Nat) (A : Option Addr) (n c : Nat) (rs : List Row) (k : Int) (j : Nat) : Prop where
  out : w.ownsRow lo 25 1 (.slice A n c) n (rowsV rs)
  did : ∀ i r, i < j → rs[i]? = some r → w.ownsRow lo 2 1 r.val r.n (ints (marksInt64S (k + tot (rs.take i)) r.n))
  due : ∀ i r, j ≤ i → rs[i]? = some r → w.ownsRow lo 2 1 r.val r.n (ints r.xs)
theorem Mrk.start {w : World} {lo hi n c : Nat} {A : Option Addr} {rs : List Row} (k : Int) (h : Oss w lo hi A n c rs) : Mrk w lo hi A n c rs k 0 :=
  ⟨h.oss.out, fun i r hi => absurd hi (Nat.not_lt_zero _), fun i r _ hr => h.oss.row r (List.mem_of_getElem? hr)⟩
theorem Mrk.row {w : World} {lo hi n c j : Nat} {A : Option Addr} {rs : List Row} {k : Int} (h : Mrk w lo hi A n c rs k j) {i : Nat} {r : Row} (hr : rs[i]? = some r) : ∃ ys, w.ownsRow lo 2 1 r.val r.n ys := by
  rcases Nat.lt_or_ge i j with g | g
  · exact ⟨_, h.did i r g hr⟩
  · exact ⟨_, h.due i r g hr⟩
theorem Mrk.step {w w' : World} {lo hi n c j : Nat} {A : Option Addr} {rs : List Row} {k : Int} {r : Row} (h : Mrk w lo hi A n c rs k j) (hp : rs.Pairwise fun r s => ∀ k, r.val.ownBlock = some k → s.val.ownBlock = some k → False)
    (hr : rs[j]? = some r) (ho : w'.ownsRow lo 2 1 r.val r.n (ints (marksInt64S (k + tot (rs.take j)) r.n))) (hg : w.grownBy w' r.val.ownBlock) : Mrk w' lo hi A n c rs k (j + 1) := by
  refine ⟨own_keep h.out hg fun g g1 g2 => own_ne h.out (h.due j r (Nat.le_refl _) hr) (by decide) g g1 g2, fun i q hi hq => ?_, fun i q hi hq => ?_⟩
  · rcases Nat.lt_succ_iff_lt_or_eq.1 hi with g | rfl
    · exact own_keep (h.did i q g hq) hg fun b g1 g2 => apart_at hp hq hr (by omega) b g1 g2
    · rw [hr] at hq; obtain rfl := Option.some.inj hq; exact ho
  · exact own_keep (h.due i q (by omega) hq) hg fun g g1 g2 => apart_at hp hq hr (by omega) g g1 g2
theorem Mrk.done {w w0 : World} {lo hi n c : Nat} {A : Option Addr} {rs : List Row} {k : Int} {j : Nat} (h : Mrk w lo hi A n c rs k j) (hj : rs.length ≤ j) (h0 : Oss w0 lo hi A n c rs) : Oss w lo hi A n c (numR rs k) := by
  refine ⟨⟨by rw [numR_vals]; exact h.out, fun q hq => ?_, ?_⟩, h0.top, fun q hq => ?_⟩
  · obtain ⟨i, hi⟩ := List.getElem?_of_mem hq
    obtain ⟨r, hr, rfl⟩ := numR_at hi
    exact h.did i r (Nat.lt_of_lt_of_le (len_of_at hr) hj) hr
  · rw [List.pairwise_iff_getElem]
    intro i j hi hj hij
    obtain ⟨r, hr, e1⟩ := numR_at (List.getElem?_eq_getElem hi)
    obtain ⟨s, hs, e2⟩ := numR_at (List.getElem?_eq_getElem hj)
    rw [e1, e2]
    have h9 := apart_at h0.oss.apart hr hs (Nat.ne_of_lt hij)
    exact h9
  · obtain ⟨i, hi⟩ := List.getElem?_of_mem hq
    obtain ⟨r, hr, rfl⟩ := numR_at hi
    exact h0.rtop r (List.mem_of_getElem? hr)
set_option maxHeartbeats 800000 in
theorem markInt64SS_any (lo hi : Nat) (A : Option Addr) (n c : Nat) (rs : List Row) (k : Int) (w : World) (h : Oss w lo hi A n c rs) (hn : n ≤ 1048576) (hrn : ∀ r ∈ rs, r.n ≤ 1048576) (ht : tot rs ≤ 1048576) (hk0 : 0 ≤ k) (hk1 : k ≤ 1073741824) :
    Calls Try.prog 72 #[.slice A n c, .int .i64 k] w fun e w' => e = .returned (.int .i64 (k + tot rs)) ∧ Oss w' lo hi A n c (numR rs k) ∧ Chg lo hi w w' := by
  have HO := Lib.hid h
  have HM := Lib.hid hrn
  have HL := Lib.hid h.reads.len
  clear h hrn
  go_enter Try.func72, Try.ntmps72
  go_wp2
  go_loopw [1, 5] (fun kk i wr => ∃ (j : Nat), j ≤ n ∧ kk = .int .i64 (k + tot (rs.take j)) ∧ i = .int .i64 j ∧ Hid (Mrk wr lo hi A n c rs k j) ∧ Hid (Chg lo hi w wr)) (fun _ i _ => n - (intOf i).toNat)
  case atStart => exact ⟨0, by omega, by simp [tot], rfl, Mrk.start k HO.out, Chg.refl _ _ _⟩
  case round =>
    obtain ⟨j, hj, rfl, rfl, HK, HG⟩ := hrel
    have p0 := tot_nonneg (rs.take j)
    have p1 := tot_take rs j
    by_cases hlt : j < n
    · have hrd : Reads wr wr.heap.size 1 A n (rowsV rs) := Reads.of_own HK.out.out
      obtain ⟨ad, u, rfl, had, hx, hc⟩ := hrd.at_ hlt
      obtain ⟨r, hr, rfl⟩ := rowsV_at hx
      have HX := Lib.hid (tot_snoc hr)
      have HR := Lib.hid hr
      have hm := HM.out r (List.mem_of_getElem? hr)
      have ho := HK.out.due j r (Nat.le_refl _) hr
      have cc := markInt64S_any r.A r.n r.c _ (k + tot (rs.take j)) lo wr ho (by omega) (by omega) (by omega)
      have hc' : wr.cell? (ad.add j) = some (.slice r.A r.n r.c) := hc
      clear hx hr hc ho hrd
      go_wp2_with fail; ((with_reducible refine cc.mono ?_); rintro e w1 ⟨rfl, ho1, hg1⟩)
      clear cc
      have HK1 := Lib.hid (HK.out.step (hi := hi) HO.out.oss.apart HR.out ho1 hg1)
      have HG1 := Lib.hid (HG.out.trans (Chg.of_grown (lo := lo) (hi := hi) hg1 fun g e => ⟨((HO.out.oss.row r (List.mem_of_getElem? HR.out)).lt g e).1, HO.out.rtop r (List.mem_of_getElem? HR.out) g e⟩))
      clear ho1 hg1
      go_wp2
      go_roundw
      case rel => exact ⟨j + 1, by omega, by rw [HX.out]; exact congrArg (Value.int .i64) (by omega), by go_num, HK1.out, HG1.out⟩
      case measure => simp [intOf]; omega
    · have e : j = n := by omega
      subst e
      have HT : Hid (rs.take j = rs) := List.take_of_length_le (by rw [HL.out]; omega)
      go_wp2
      go_ret
      exact ⟨ret_int (by rw [HT.out]), HK.out.done (by rw [HL.out]; exact Nat.le_refl _) HO.out, HG.out⟩
end Go.Proofs.Ytjmhhbjbmgpagaa
