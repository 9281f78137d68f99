/- Opening arguments that are slices of records. -/
import Derived.Test.YtnfallanjndbcaaFrame
import Derived.Test.YtnfallanjndbcaaRSvy
import Derived.Test.YtnfallanjndbcaaRAwy
import Derived.Test.YtnfallanjndbcaaRDor
import Derived.Deep.Slices
import Derived.Deep.Fields
import Derived.ChangeSame
namespace Go.Proofs.Ytnfallanjndbcaa
set_option linter.unusedVariables false
set_option linter.unusedSimpArgs false
open Go.ChangeShapes Go.WideShapes Go.ChangeAt Go.RowKit Go.Joins Go.Deep
theorem exists_list {α : Type} [Inhabited α] {p : Nat → α → Prop} : ∀ n : Nat, (∀ i, i < n → ∃ x, p i x) → ∃ xs : List α, xs.length = n ∧ ∀ i x, xs[i]? = some x → p i x
  | 0, _ => ⟨[], rfl, fun i x h => by simp at h⟩
  | n + 1, h => by
    obtain ⟨xs, hl, hp⟩ := exists_list (p := p) n (fun i hi => h i (by omega))
    obtain ⟨x, hx⟩ := h n (by omega)
    refine ⟨xs ++ [x], by simp [hl], fun i y hy => ?_⟩
    rcases Nat.lt_or_ge i n with hi | hi
    · rw [List.getElem?_append_left (by omega)] at hy; exact hp i y hy
    · rw [List.getElem?_append_right (by omega), hl] at hy
      have hi' : i = n := by
        rcases Nat.lt_or_ge (i - n) 1 with h1 | h1
        · omega
        · rw [List.getElem?_eq_none (by simp; omega)] at hy; cases hy
      subst hi'
      simp at hy
      subst hy; exact hx
section
variable {H : Type} {enc : TypeId × Value → H} {P : Program} {W : World} {base : Nat} {t e : TypeId} {v : Value} {d : DataW H} {p : List MemPlace}
/-- The cells of a slice of structs of one-cell fields, field by field. -/
theorem fields_at {fs : Array Field} {fuel : Nat} {cs : List Value} {x : DataW H × List MemPlace} (ht : P.underlying t = some (.slice e)) (he : P.underlying e = some (.struct fs)) (hone : oneCellFields P fs = true) (hC : P.cellsOf e = fs.size)
    (h : DataW.trod enc P W 0 (fun _ => true) true fuel t cs = some x) :
    cs = [.slice none 0 0] ∨ ∃ (a : Addr) (len cap : Nat), cs = [.slice (some a) len cap] ∧ len ≤ cap ∧ cap ≤ maxLen ∧
      ∀ i, i < cap → ∃ n : Nat, ∀ (j : Nat) (f : Field), fs[j]? = some f → ∃ (u : Value) (y : DataW H × List MemPlace), W.cell? (a.add (i * fs.size + j)) = some u ∧ DataW.trod enc P W 0 (fun _ => true) true n f.type [u] = some y := by
  rcases open_slice ht h with h0 | ⟨a, len, cap, m, n, D, Pl, hcs, _, hl, hm, hmm, _, hi⟩
  · exact .inl h0.1
  · refine .inr ⟨a, len, cap, hcs, hl, hm, fun i hic => ?_⟩
    have him : i < m := by simp only [if_true] at hmm; omega
    obtain ⟨cs', hc, ht'⟩ := hi i him
    rw [hC] at hc
    obtain ⟨ys, n', _, _, _, hyl, hf⟩ := DataW.trod_struct he ht'
    obtain ⟨_, hcl, hat⟩ := World.cells?_some hc
    refine ⟨n', fun j f hj => ?_⟩
    obtain ⟨ho, hk⟩ := hone_of hone j f hj
    have hjl : j < fs.size := (Array.getElem?_eq_some_iff.1 hj).1
    have h1 := hf j f hj
    rw [ho, hk] at h1
    have hone' : (cs'.drop j).take 1 = [cs'[j]'(by omega)] := by
      rw [List.drop_eq_getElem_cons (by omega)]; rfl
    rw [hone'] at h1
    have hys : ys[j]? = some (ys[j]'(by omega)) := List.getElem?_eq_getElem (by omega)
    refine ⟨_, _, ?_, h1.trans hys⟩
    rw [← Go.Deep.add_add, hat j hjl, List.getElem?_eq_getElem (by omega)]
/-- Records that lie one behind the other are a slice of records. -/
theorem reads_recs {α : Type} {f : α → List Value} {z : Nat} (hz : ∀ x, (f x).length = z) (hzp : 0 < z) {a : Addr} {n : Nat} {xs : List α} (hl : xs.length = n) (hx : ∀ i x, xs[i]? = some x → ∀ j u, (f x)[j]? = some u → W.cell? (a.add (i * z + j)) = some u) :
    Reads W W.heap.size z (some a) n (Go.Proofs.Ytnfallanjndbcaa.recs f xs) := by
  refine ⟨by rw [recs_len hz, hl], fun hn => ⟨a, rfl, ?_, fun j u hu => ?_⟩⟩
  · have h0 : xs[0]? = some (xs[0]'(by omega)) := List.getElem?_eq_getElem (by omega)
    have hlen := hz (xs[0]'(by omega))
    exact cell_lt_add (hx 0 _ h0 0 _ (List.getElem?_eq_getElem (by omega)))
  · have hj : j < n * z := by
      rcases Nat.lt_or_ge j (n * z) with h1 | h1
      · exact h1
      · rw [List.getElem?_eq_none (by rw [recs_len hz, hl]; exact h1)] at hu; cases hu
    have hq : j / z < n := Nat.div_lt_of_lt_mul (by rw [Nat.mul_comm]; exact hj)
    have hr : j % z < z := Nat.mod_lt _ hzp
    have hjz : j = j / z * z + j % z := by rw [Nat.mul_comm]; exact (Nat.div_add_mod j z).symm
    have h0 : xs[j / z]? = some (xs[j / z]'(by omega)) := List.getElem?_eq_getElem (by omega)
    rw [hjz] at hu ⊢
    rw [recs_at hz h0 hr] at hu
    exact hx _ _ h0 _ u hu
end
section
variable {H : Type} {enc : TypeId × Value → H} {P : Program} {W : World} {base : Nat} {t e : TypeId} {v : Value} {d : DataW H} {p : List MemPlace}
theorem op_svys {fuel : Nat} {f0 f1 f2 f3 f4 : Field} {x : DataW H × List MemPlace} (ht : P.underlying t = some (.slice e)) (he : P.underlying e = some (.struct #[f0, f1, f2, f3, f4])) (hone : oneCellFields P #[f0, f1, f2, f3, f4] = true) (hC : P.cellsOf e = 5)
    (h0 : P.underlying f0.type = some .string) (h1 : P.underlying f1.type = some (.int .i64)) (h2 : P.underlying f2.type = some (.int .i64)) (h3 : P.underlying f3.type = some (.int .i64)) (h4 : P.underlying f4.type = some (.int .i64)) {a0 : Option Addr} {n0 c0 : Nat} (h : DataW.trod enc P W 0 (fun _ => true) true fuel t [.slice a0 n0 c0] = some x) :
    ∃ xs, n0 ≤ c0 ∧ c0 ≤ maxLen ∧ Reads W W.heap.size 5 a0 n0 (Svy.recs xs) ∧ ∀ x ∈ xs, x.s.size ≤ maxLen := by
  rcases fields_at ht he hone hC h with hcs | ⟨a, len, cap, hcs, hl, hm, hi⟩
  · simp only [List.cons.injEq, Value.slice.injEq, and_true] at hcs
    obtain ⟨rfl, rfl, rfl⟩ := hcs
    exact ⟨[], by omega, by simp [maxLen], Reads.none_, fun x hx => by simp at hx⟩
  · simp only [List.cons.injEq, Value.slice.injEq, and_true] at hcs
    obtain ⟨rfl, rfl, rfl⟩ := hcs
    obtain ⟨xs, hxl, hxs⟩ := exists_list (p := fun i (x : Svy) => x.s.size ≤ maxLen ∧ ∀ j u, x.cells[j]? = some u → W.cell? (a.add (i * 5 + j)) = some u) n0 (fun i hin => by
      obtain ⟨n, hf⟩ := hi i (by omega)
      obtain ⟨u0, y0, g0, k0⟩ := hf 0 f0 rfl
      obtain ⟨s, q0, _, w0⟩ := DataW.trod_string h0 k0
      obtain ⟨u1, y1, g1, k1⟩ := hf 1 f1 rfl
      obtain ⟨m1, q1, _, w1⟩ := DataW.trod_int h1 k1
      obtain ⟨u2, y2, g2, k2⟩ := hf 2 f2 rfl
      obtain ⟨m2, q2, _, w2⟩ := DataW.trod_int h2 k2
      obtain ⟨u3, y3, g3, k3⟩ := hf 3 f3 rfl
      obtain ⟨m3, q3, _, w3⟩ := DataW.trod_int h3 k3
      obtain ⟨u4, y4, g4, k4⟩ := hf 4 f4 rfl
      obtain ⟨m4, q4, _, w4⟩ := DataW.trod_int h4 k4
      simp only [List.cons.injEq, and_true] at q0 q1 q2 q3 q4
      subst q0 q1 q2 q3 q4
      refine ⟨⟨s, m1, m2, m3, m4⟩, w0, fun j u hu => ?_⟩
      have hj : j < 5 := by
        rcases Nat.lt_or_ge j 5 with h1 | h1
        · exact h1
        · rw [List.getElem?_eq_none (by rw [Svy.clen]; exact h1)] at hu; cases hu
      match j, hj with
      | 0, _ => obtain rfl := Option.some.inj hu; exact g0
      | 1, _ => obtain rfl := Option.some.inj hu; exact g1
      | 2, _ => obtain rfl := Option.some.inj hu; exact g2
      | 3, _ => obtain rfl := Option.some.inj hu; exact g3
      | 4, _ => obtain rfl := Option.some.inj hu; exact g4)
    exact ⟨xs, hl, hm, reads_recs Svy.clen (by omega) hxl fun i x h => (hxs i x h).2, fun x hx => by
      obtain ⟨i, hi⟩ := List.getElem?_of_mem hx
      exact (hxs i x hi).1⟩
theorem op_svysS {f0 f1 f2 f3 f4 : Field} (ht : P.underlying t = some (.slice e)) (he : P.underlying e = some (.struct #[f0, f1, f2, f3, f4])) (hone : oneCellFields P #[f0, f1, f2, f3, f4] = true) (hC : P.cellsOf e = 5)
    (h0 : P.underlying f0.type = some .string) (h1 : P.underlying f1.type = some (.int .i64)) (h2 : P.underlying f2.type = some (.int .i64)) (h3 : P.underlying f3.type = some (.int .i64)) (h4 : P.underlying f4.type = some (.int .i64)) (hv : Value.okWide P W .any base t v) (h : DataW.Trod enc P W 0 (fun _ => true) true t v d p) :
    ∃ A n c xs, v = .slice A n c ∧ n ≤ c ∧ c ≤ maxLen ∧ Reads W W.heap.size 5 A n (Svy.recs xs) ∧ ∀ x ∈ xs, x.s.size ≤ maxLen := by
  obtain ⟨a0, n0, c0, rfl⟩ := okWide_slice ht hv
  obtain ⟨fuel, hf⟩ := h
  obtain ⟨xs, h1, h2, h3, h4⟩ := op_svys ht he hone hC h0 h1 h2 h3 h4 hf
  exact ⟨a0, n0, c0, xs, rfl, h1, h2, h3, h4⟩
end
section
variable {H : Type} {enc : TypeId × Value → H} {P : Program} {W : World} {base : Nat} {t e : TypeId} {v : Value} {d : DataW H} {p : List MemPlace}
theorem op_awys {fuel : Nat} {f0 f1 f2 f3 f4 f5 f6 : Field} {x : DataW H × List MemPlace} (ht : P.underlying t = some (.slice e)) (he : P.underlying e = some (.struct #[f0, f1, f2, f3, f4, f5, f6])) (hone : oneCellFields P #[f0, f1, f2, f3, f4, f5, f6] = true) (hC : P.cellsOf e = 7)
    (h0 : P.underlying f0.type = some .string) (h1 : P.underlying f1.type = some (.int .i64)) (h2 : P.underlying f2.type = some (.int .i64)) (h3 : P.underlying f3.type = some (.int .i64)) (h4 : P.underlying f4.type = some (.int .i64)) (h5 : P.underlying f5.type = some (.int .i64)) (h6 : P.underlying f6.type = some (.int .i64)) {a0 : Option Addr} {n0 c0 : Nat} (h : DataW.trod enc P W 0 (fun _ => true) true fuel t [.slice a0 n0 c0] = some x) :
    ∃ xs, n0 ≤ c0 ∧ c0 ≤ maxLen ∧ Reads W W.heap.size 7 a0 n0 (Awy.recs xs) ∧ ∀ x ∈ xs, x.s.size ≤ maxLen := by
  rcases fields_at ht he hone hC h with hcs | ⟨a, len, cap, hcs, hl, hm, hi⟩
  · simp only [List.cons.injEq, Value.slice.injEq, and_true] at hcs
    obtain ⟨rfl, rfl, rfl⟩ := hcs
    exact ⟨[], by omega, by simp [maxLen], Reads.none_, fun x hx => by simp at hx⟩
  · simp only [List.cons.injEq, Value.slice.injEq, and_true] at hcs
    obtain ⟨rfl, rfl, rfl⟩ := hcs
    obtain ⟨xs, hxl, hxs⟩ := exists_list (p := fun i (x : Awy) => x.s.size ≤ maxLen ∧ ∀ j u, x.cells[j]? = some u → W.cell? (a.add (i * 7 + j)) = some u) n0 (fun i hin => by
      obtain ⟨n, hf⟩ := hi i (by omega)
      obtain ⟨u0, y0, g0, k0⟩ := hf 0 f0 rfl
      obtain ⟨s, q0, _, w0⟩ := DataW.trod_string h0 k0
      obtain ⟨u1, y1, g1, k1⟩ := hf 1 f1 rfl
      obtain ⟨m1, q1, _, w1⟩ := DataW.trod_int h1 k1
      obtain ⟨u2, y2, g2, k2⟩ := hf 2 f2 rfl
      obtain ⟨m2, q2, _, w2⟩ := DataW.trod_int h2 k2
      obtain ⟨u3, y3, g3, k3⟩ := hf 3 f3 rfl
      obtain ⟨m3, q3, _, w3⟩ := DataW.trod_int h3 k3
      obtain ⟨u4, y4, g4, k4⟩ := hf 4 f4 rfl
      obtain ⟨m4, q4, _, w4⟩ := DataW.trod_int h4 k4
      obtain ⟨u5, y5, g5, k5⟩ := hf 5 f5 rfl
      obtain ⟨m5, q5, _, w5⟩ := DataW.trod_int h5 k5
      obtain ⟨u6, y6, g6, k6⟩ := hf 6 f6 rfl
      obtain ⟨m6, q6, _, w6⟩ := DataW.trod_int h6 k6
      simp only [List.cons.injEq, and_true] at q0 q1 q2 q3 q4 q5 q6
      subst q0 q1 q2 q3 q4 q5 q6
      refine ⟨⟨s, m1, m2, m3, m4, m5, m6⟩, w0, fun j u hu => ?_⟩
      have hj : j < 7 := by
        rcases Nat.lt_or_ge j 7 with h1 | h1
        · exact h1
        · rw [List.getElem?_eq_none (by rw [Awy.clen]; exact h1)] at hu; cases hu
      match j, hj with
      | 0, _ => obtain rfl := Option.some.inj hu; exact g0
      | 1, _ => obtain rfl := Option.some.inj hu; exact g1
      | 2, _ => obtain rfl := Option.some.inj hu; exact g2
      | 3, _ => obtain rfl := Option.some.inj hu; exact g3
      | 4, _ => obtain rfl := Option.some.inj hu; exact g4
      | 5, _ => obtain rfl := Option.some.inj hu; exact g5
      | 6, _ => obtain rfl := Option.some.inj hu; exact g6)
    exact ⟨xs, hl, hm, reads_recs Awy.clen (by omega) hxl fun i x h => (hxs i x h).2, fun x hx => by
      obtain ⟨i, hi⟩ := List.getElem?_of_mem hx
      exact (hxs i x hi).1⟩
theorem op_awysS {f0 f1 f2 f3 f4 f5 f6 : Field} (ht : P.underlying t = some (.slice e)) (he : P.underlying e = some (.struct #[f0, f1, f2, f3, f4, f5, f6])) (hone : oneCellFields P #[f0, f1, f2, f3, f4, f5, f6] = true) (hC : P.cellsOf e = 7)
    (h0 : P.underlying f0.type = some .string) (h1 : P.underlying f1.type = some (.int .i64)) (h2 : P.underlying f2.type = some (.int .i64)) (h3 : P.underlying f3.type = some (.int .i64)) (h4 : P.underlying f4.type = some (.int .i64)) (h5 : P.underlying f5.type = some (.int .i64)) (h6 : P.underlying f6.type = some (.int .i64)) (hv : Value.okWide P W .any base t v) (h : DataW.Trod enc P W 0 (fun _ => true) true t v d p) :
    ∃ A n c xs, v = .slice A n c ∧ n ≤ c ∧ c ≤ maxLen ∧ Reads W W.heap.size 7 A n (Awy.recs xs) ∧ ∀ x ∈ xs, x.s.size ≤ maxLen := by
  obtain ⟨a0, n0, c0, rfl⟩ := okWide_slice ht hv
  obtain ⟨fuel, hf⟩ := h
  obtain ⟨xs, h1, h2, h3, h4⟩ := op_awys ht he hone hC h0 h1 h2 h3 h4 h5 h6 hf
  exact ⟨a0, n0, c0, xs, rfl, h1, h2, h3, h4⟩
end
section
variable {H : Type} {enc : TypeId × Value → H} {P : Program} {W : World} {base : Nat} {t e : TypeId} {v : Value} {d : DataW H} {p : List MemPlace}
theorem op_dors {fuel : Nat} {f0 f1 f2 f3 : Field} {x : DataW H × List MemPlace} (ht : P.underlying t = some (.slice e)) (he : P.underlying e = some (.struct #[f0, f1, f2, f3])) (hone : oneCellFields P #[f0, f1, f2, f3] = true) (hC : P.cellsOf e = 4)
    (h0 : P.underlying f0.type = some .string) (h1 : P.underlying f1.type = some (.int .i64)) (h2 : P.underlying f2.type = some (.int .i64)) (h3 : P.underlying f3.type = some (.int .i64)) {a0 : Option Addr} {n0 c0 : Nat} (h : DataW.trod enc P W 0 (fun _ => true) true fuel t [.slice a0 n0 c0] = some x) :
    ∃ xs, n0 ≤ c0 ∧ c0 ≤ maxLen ∧ Reads W W.heap.size 4 a0 n0 (Dor.recs xs) ∧ ∀ x ∈ xs, x.s.size ≤ maxLen := by
  rcases fields_at ht he hone hC h with hcs | ⟨a, len, cap, hcs, hl, hm, hi⟩
  · simp only [List.cons.injEq, Value.slice.injEq, and_true] at hcs
    obtain ⟨rfl, rfl, rfl⟩ := hcs
    exact ⟨[], by omega, by simp [maxLen], Reads.none_, fun x hx => by simp at hx⟩
  · simp only [List.cons.injEq, Value.slice.injEq, and_true] at hcs
    obtain ⟨rfl, rfl, rfl⟩ := hcs
    obtain ⟨xs, hxl, hxs⟩ := exists_list (p := fun i (x : Dor) => x.s.size ≤ maxLen ∧ ∀ j u, x.cells[j]? = some u → W.cell? (a.add (i * 4 + j)) = some u) n0 (fun i hin => by
      obtain ⟨n, hf⟩ := hi i (by omega)
      obtain ⟨u0, y0, g0, k0⟩ := hf 0 f0 rfl
      obtain ⟨s, q0, _, w0⟩ := DataW.trod_string h0 k0
      obtain ⟨u1, y1, g1, k1⟩ := hf 1 f1 rfl
      obtain ⟨m1, q1, _, w1⟩ := DataW.trod_int h1 k1
      obtain ⟨u2, y2, g2, k2⟩ := hf 2 f2 rfl
      obtain ⟨m2, q2, _, w2⟩ := DataW.trod_int h2 k2
      obtain ⟨u3, y3, g3, k3⟩ := hf 3 f3 rfl
      obtain ⟨m3, q3, _, w3⟩ := DataW.trod_int h3 k3
      simp only [List.cons.injEq, and_true] at q0 q1 q2 q3
      subst q0 q1 q2 q3
      refine ⟨⟨s, m1, m2, m3⟩, w0, fun j u hu => ?_⟩
      have hj : j < 4 := by
        rcases Nat.lt_or_ge j 4 with h1 | h1
        · exact h1
        · rw [List.getElem?_eq_none (by rw [Dor.clen]; exact h1)] at hu; cases hu
      match j, hj with
      | 0, _ => obtain rfl := Option.some.inj hu; exact g0
      | 1, _ => obtain rfl := Option.some.inj hu; exact g1
      | 2, _ => obtain rfl := Option.some.inj hu; exact g2
      | 3, _ => obtain rfl := Option.some.inj hu; exact g3)
    exact ⟨xs, hl, hm, reads_recs Dor.clen (by omega) hxl fun i x h => (hxs i x h).2, fun x hx => by
      obtain ⟨i, hi⟩ := List.getElem?_of_mem hx
      exact (hxs i x hi).1⟩
theorem op_dorsS {f0 f1 f2 f3 : Field} (ht : P.underlying t = some (.slice e)) (he : P.underlying e = some (.struct #[f0, f1, f2, f3])) (hone : oneCellFields P #[f0, f1, f2, f3] = true) (hC : P.cellsOf e = 4)
    (h0 : P.underlying f0.type = some .string) (h1 : P.underlying f1.type = some (.int .i64)) (h2 : P.underlying f2.type = some (.int .i64)) (h3 : P.underlying f3.type = some (.int .i64)) (hv : Value.okWide P W .any base t v) (h : DataW.Trod enc P W 0 (fun _ => true) true t v d p) :
    ∃ A n c xs, v = .slice A n c ∧ n ≤ c ∧ c ≤ maxLen ∧ Reads W W.heap.size 4 A n (Dor.recs xs) ∧ ∀ x ∈ xs, x.s.size ≤ maxLen := by
  obtain ⟨a0, n0, c0, rfl⟩ := okWide_slice ht hv
  obtain ⟨fuel, hf⟩ := h
  obtain ⟨xs, h1, h2, h3, h4⟩ := op_dors ht he hone hC h0 h1 h2 h3 hf
  exact ⟨a0, n0, c0, xs, rfl, h1, h2, h3, h4⟩
end
section
variable {H : Type} {enc : TypeId × Value → H} {P : Program} {W : World} {base : Nat} {t e q : TypeId} {v : Value} {d : DataW H} {p : List MemPlace}
/-- A struct of a number and of a slice of airways. -/
theorem op_mine {k0 k1 f0 f1 f2 f3 f4 f5 f6 : Field} (hs : P.underlying t = some (.struct #[k0, k1])) (hone2 : oneCellFields P #[k0, k1] = true) (hC2 : P.cellsOf t = 2) (hk0 : P.underlying k0.type = some (.int .i64)) (ht : P.underlying k1.type = some (.slice e))
    (he : P.underlying e = some (.struct #[f0, f1, f2, f3, f4, f5, f6])) (hone : oneCellFields P #[f0, f1, f2, f3, f4, f5, f6] = true) (hC : P.cellsOf e = 7)
    (h0 : P.underlying f0.type = some .string) (h1 : P.underlying f1.type = some (.int .i64)) (h2 : P.underlying f2.type = some (.int .i64)) (h3 : P.underlying f3.type = some (.int .i64)) (h4 : P.underlying f4.type = some (.int .i64)) (h5 : P.underlying f5.type = some (.int .i64)) (h6 : P.underlying f6.type = some (.int .i64))
    (hv : Value.okWide P W .any base t v) (h : DataW.Trod enc P W 0 (fun _ => true) true t v d p) :
    ∃ J A n c xs, v = .agg #[.int .i64 J, .slice A n c] ∧ n ≤ c ∧ c ≤ maxLen ∧ Reads W W.heap.size 7 A n (Awy.recs xs) ∧ ∀ x ∈ xs, x.s.size ≤ maxLen := by
  obtain ⟨c0, c1, y0, y1, m, rfl, _, _, t0, t1⟩ := open_agg2 hs hone2 hC2 hv h
  obtain ⟨J, e0, _, _⟩ := DataW.trod_int hk0 t0
  simp only [List.cons.injEq, and_true] at e0
  subst e0
  have hsl : ∃ a0 n0 cc, c1 = .slice a0 n0 cc := by
    rcases open_slice ht t1 with ⟨hcs, _⟩ | ⟨a, len, cap, _, _, _, _, hcs, _⟩
    · simp only [List.cons.injEq, and_true] at hcs; exact ⟨_, _, _, hcs⟩
    · simp only [List.cons.injEq, and_true] at hcs; exact ⟨_, _, _, hcs⟩
  obtain ⟨a0, n0, cc, rfl⟩ := hsl
  obtain ⟨xs, g1, g2, g3, g4⟩ := op_awys ht he hone hC h0 h1 h2 h3 h4 h5 h6 t1
  exact ⟨J, a0, n0, cc, xs, rfl, g1, g2, g3, g4⟩
end
end Go.Proofs.Ytnfallanjndbcaa
