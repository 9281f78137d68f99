/- An edge is changed in place: what the row of edges holds behind the stores. -/
import Derived.Test.YtnfallanjndbcaaRedD
namespace Go.Proofs.Ytnfallanjndbcaa
set_option linter.unusedVariables false
set_option linter.unusedSimpArgs false
open Go.RowKit
theorem recs_get {es : List Edg} {k t : Nat} (hk : k < es.length) (ht : t < 3) : (Edg.recs es)[k * 3 + t]? = (es.getD k default).cells[t]? :=
  recs_at Edg.clen (by rw [List.getD_eq_getElem?_getD, List.getElem?_eq_getElem hk]; rfl) ht
theorem getD_set {es : List Edg} {i k : Nat} {y : Edg} (hi : i < es.length) : (es.set i y).getD k default = if i = k then y else es.getD k default := by
  rw [List.getD_eq_getElem?_getD, List.getElem?_set, List.getD_eq_getElem?_getD]
  by_cases h : i = k
  · subst h; rw [if_pos rfl, if_pos hi, if_pos rfl]; rfl
  · rw [if_neg h, if_neg h]
theorem own_edit1 {w : World} {base ge n c i : Nat} {e : TypeId} {es : List Edg} (h : w.ownsRow base e 3 (.slice (some ⟨ge, 0, none⟩) n c) n (Edg.recs es)) (hi : i < n) (v : Int) :
    (w.setCell ⟨ge, i * 3 + 2, none⟩ (.int .i64 v)).ownsRow base e 3 (.slice (some ⟨ge, 0, none⟩) n c) n (Edg.recs (es.set i { es.getD i default with r := v })) := by
  have hl : es.length = n := by have := h.1; rw [recs_len Edg.clen] at this; omega
  obtain ⟨cur, hB, hbg, hnc, hcm, hcs, hcur⟩ := own_open h
  have hB2 := hB.set_ (i * 3 + 2) (.int .i64 v)
  refine own_shut hB2 hbg hnc hcm (by simpa using hcs) (by rw [recs_len Edg.clen, List.length_set, hl]) fun j hj => ?_
  rw [hB2.cell]
  obtain ⟨k, t, rfl, ht⟩ : ∃ k t, j = k * 3 + t ∧ t < 3 := ⟨j / 3, j % 3, by omega, by omega⟩
  have hk : k < n := by omega
  rw [recs_get (by rw [List.length_set]; omega) ht, getD_set (by omega), Array.getElem?_setIfInBounds]
  have hc0 := hcur (k * 3 + t) hj
  rw [recs_get (by omega) ht] at hc0
  by_cases h1 : i * 3 + 2 = k * 3 + t
  · have hik : i = k := by omega
    have ht2 : t = 2 := by omega
    subst hik
    subst ht2
    rw [if_pos h1, if_pos (by omega), if_pos rfl]
    rfl
  · rw [if_neg h1, hc0]
    by_cases hik : i = k
    · subst hik
      rw [if_pos rfl]
      match t, ht, h1 with
      | 0, _, _ => rfl
      | 1, _, _ => rfl
      | 2, _, h1 => exact absurd rfl h1
    · rw [if_neg hik]
theorem own_edit3 {w : World} {base ge n c i : Nat} {e : TypeId} {es : List Edg} (h : w.ownsRow base e 3 (.slice (some ⟨ge, 0, none⟩) n c) n (Edg.recs es)) (hi : i < n) (a b r : Int) :
    (((w.setCell ⟨ge, i * 3, none⟩ (.int .i64 a)).setCell ⟨ge, i * 3 + 1, none⟩ (.int .i64 b)).setCell ⟨ge, i * 3 + 2, none⟩ (.int .i64 r)).ownsRow base e 3 (.slice (some ⟨ge, 0, none⟩) n c) n (Edg.recs (es.set i ⟨a, b, r⟩)) := by
  have hl : es.length = n := by have := h.1; rw [recs_len Edg.clen] at this; omega
  obtain ⟨cur, hB, hbg, hnc, hcm, hcs, hcur⟩ := own_open h
  have hB2 := ((hB.set_ (i * 3) (.int .i64 a)).set_ (i * 3 + 1) (.int .i64 b)).set_ (i * 3 + 2) (.int .i64 r)
  refine own_shut hB2 hbg hnc hcm (by simpa using hcs) (by rw [recs_len Edg.clen, List.length_set, hl]) fun j hj => ?_
  rw [hB2.cell]
  obtain ⟨k, t, rfl, ht⟩ : ∃ k t, j = k * 3 + t ∧ t < 3 := ⟨j / 3, j % 3, by omega, by omega⟩
  have hk : k < n := by omega
  rw [recs_get (by rw [List.length_set]; omega) ht, getD_set (by omega), Array.getElem?_setIfInBounds, Array.getElem?_setIfInBounds, Array.getElem?_setIfInBounds]
  have hc0 := hcur (k * 3 + t) hj
  rw [recs_get (by omega) ht] at hc0
  by_cases hik : i = k
  · subst hik
    rw [if_pos rfl]
    match t, ht with
    | 0, _ => rw [if_neg (by omega), if_neg (by omega), if_pos (Nat.add_zero _).symm, if_pos (by omega)]; rfl
    | 1, _ => rw [if_neg (by omega), if_pos rfl, if_pos (by simp; omega)]; rfl
    | 2, _ => rw [if_pos rfl, if_pos (by simp; omega)]; rfl
  · rw [if_neg hik, if_neg (by omega), if_neg (by omega), if_neg (by omega), hc0]
theorem edge_cells {w : World} {base ge n c k : Nat} {e : TypeId} {es : List Edg} (h : w.ownsRow base e 3 (.slice (some ⟨ge, 0, none⟩) n c) n (Edg.recs es)) (hk : k < n) :
    ∃ x, Hid (es.getD k default = x) ∧ x ∈ es ∧ w.cell? ⟨ge, k * 3, none⟩ = some (.int .i64 x.a) ∧ w.cell? ⟨ge, k * 3 + 1, none⟩ = some (.int .i64 x.b) ∧ w.cell? ⟨ge, k * 3 + 2, none⟩ = some (.int .i64 x.r) := by
  have hl : es.length = n := by have := h.1; rw [recs_len Edg.clen] at this; omega
  obtain ⟨cur, hB, hbg, hnc, hcm, hcs, hcur⟩ := own_open h
  have hx : es.getD k default ∈ es := getD_mem (by omega)
  refine ⟨es.getD k default, rfl, hx, ?_, ?_, ?_⟩
  · have h1 := hcur (k * 3 + 0) (by omega); rw [recs_get (by omega) (by omega)] at h1; exact (hB.cell _).trans h1
  · have h1 := hcur (k * 3 + 1) (by omega); rw [recs_get (by omega) (by omega)] at h1; exact (hB.cell _).trans h1
  · have h1 := hcur (k * 3 + 2) (by omega); rw [recs_get (by omega) (by omega)] at h1; exact (hB.cell _).trans h1
theorem only_set {w : World} {g : Nat} (o : Nat) (u : Value) : w.grownBy (w.setCell ⟨g, o, none⟩ u) (some g) := only_setCell (World.grownBy.refl w (some g)) (.inl rfl) u
end Go.Proofs.Ytnfallanjndbcaa
