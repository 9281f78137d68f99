/- Slices of slices of numbers: reading, owning, and the laws' own helpers on them. -/
import Derived.Test.YtnfallanjndbcaaCopy
namespace Go.Proofs.Ytnfallanjndbcaa
set_option linter.unusedVariables false
set_option linter.unusedSimpArgs false
open Go.RowKit
structure Row where
  A : Option Addr
  n : Nat
  c : Nat
  xs : List Int
def Row.val (r : Row) : Value := .slice r.A r.n r.c
def rowsV (rs : List Row) : List Value := rs.map Row.val
def dat (rs : List Row) : List (List Int) := rs.map Row.xs
/-- A slice of slices of numbers that reads. -/
structure RSS (w : World) (B : Nat) (A : Option Addr) (n : Nat) (rs : List Row) : Prop where
  out : Reads w B 1 A n (rowsV rs)
  row : ∀ r ∈ rs, Reads w B 1 r.A r.n (ints r.xs)
theorem RSS.below {w w' : World} {B n : Nat} {A : Option Addr} {rs : List Row} (h : RSS w B A n rs) (hb : Below B w w') : RSS w' B A n rs :=
  ⟨h.out.below hb, fun r hr => (h.row r hr).below hb⟩
theorem RSS.more {w : World} {B B' n : Nat} {A : Option Addr} {rs : List Row} (h : RSS w B A n rs) (hB : B ≤ B') : RSS w B' A n rs :=
  ⟨h.out.more hB, fun r hr => (h.row r hr).more hB⟩
theorem RSS.len {w : World} {B n : Nat} {A : Option Addr} {rs : List Row} (h : RSS w B A n rs) : rs.length = n := by
  have := h.out.1; simpa [rowsV] using this
theorem rowsV_at {rs : List Row} {k : Nat} {u : Value} (h : (rowsV rs)[k]? = some u) : ∃ r, rs[k]? = some r ∧ u = r.val := by
  unfold rowsV at h
  rw [List.getElem?_map] at h
  cases e : rs[k]? with
  | none => rw [e] at h; simp at h
  | some b => rw [e] at h; simp at h; exact ⟨b, rfl, h.symm⟩
theorem RSS.at_ {w : World} {B n k : Nat} {A : Option Addr} {rs : List Row} (h : RSS w B A n rs) (hk : k < n) :
    ∃ ad r, A = some ad ∧ rs[k]? = some r ∧ w.cell? (ad.add k) = some (.slice r.A r.n r.c) ∧ Reads w B 1 r.A r.n (ints r.xs) := by
  obtain ⟨ad, u, h1, _, h2, h3⟩ := h.out.at_ hk
  obtain ⟨r, h4, rfl⟩ := rowsV_at h2
  exact ⟨ad, r, h1, h4, h3, h.row r (List.mem_of_getElem? h4)⟩
theorem dat_at {rs : List Row} {k : Nat} {r : Row} (h : rs[k]? = some r) : (dat rs)[k]? = some r.xs := by
  unfold dat; rw [List.getElem?_map, h]; rfl
theorem dat_len (rs : List Row) : (dat rs).length = rs.length := by simp [dat]
def tot : List Row → Int
  | [] => 0
  | r :: t => r.n + tot t
theorem tot_nonneg : ∀ rs : List Row, 0 ≤ tot rs
  | [] => by simp [tot]
  | r :: t => by have := tot_nonneg t; simp only [tot]; omega
theorem tot_append (a b : List Row) : tot (a ++ b) = tot a + tot b := by
  induction a with
  | nil => simp [tot]
  | cons r t ih => simp only [List.cons_append, tot, ih]; omega
theorem tot_snoc {rs : List Row} {k : Nat} {r : Row} (h : rs[k]? = some r) : tot (rs.take (k + 1)) = tot (rs.take k) + r.n := by
  rw [List.take_add_one, h, tot_append]; simp [tot]
theorem tot_take (rs : List Row) (k : Nat) : tot (rs.take k) ≤ tot rs := by
  have e := tot_append (rs.take k) (rs.drop k)
  rw [List.take_append_drop] at e
  have := tot_nonneg (rs.drop k)
  omega
theorem tot_mem {rs : List Row} {r : Row} (h : r ∈ rs) : (r.n : Int) ≤ tot rs := by
  induction rs with
  | nil => simp at h
  | cons x t ih =>
    have h0 := tot_nonneg t
    rcases List.mem_cons.1 h with rfl | h
    · simp only [tot]; omega
    · have := ih h; simp only [tot]; omega
/-- What is left of l behind n places and all their numbers, or -1. -/
def szV (l : Int) (n : Nat) (rs : List Row) : Int := if l < n + tot rs then -1 else l - (n + tot rs)
theorem szV_y {l : Int} {n : Nat} {rs : List Row} (h : ¬ l < n + tot rs) : szV l n rs = l - (n + tot rs) := by unfold szV; rw [if_neg h]
theorem szV_n {l : Int} {n : Nat} {rs : List Row} (h : l < n + tot rs) : szV l n rs = -1 := by unfold szV; rw [if_pos h]
theorem szV_ok {l : Int} {n : Nat} {rs : List Row} (h : ¬ szV l n rs < 0) (hl : 0 ≤ l) : n + tot rs ≤ l := by
  unfold szV at h
  by_cases hc : l < n + tot rs
  · rw [if_pos hc] at h; omega
  · omega
theorem szV_bnd {l : Int} {n : Nat} {rs : List Row} (hl : 0 ≤ l) : -1 ≤ szV l n rs ∧ szV l n rs ≤ l := by
  have := tot_nonneg rs
  unfold szV
  split <;> omega
/-- A slice of slices of numbers that the call itself made, from block lo on: no two rows share a block. -/
structure OSS (w : World) (lo : Nat) (A : Option Addr) (n c : Nat) (rs : List Row) : Prop where
  out : w.ownsRow lo 25 1 (.slice A n c) n (rowsV rs)
  row : ∀ r ∈ rs, w.ownsRow lo 2 1 r.val r.n (ints r.xs)
  apart : rs.Pairwise fun r s => ∀ k, r.val.ownBlock = some k → s.val.ownBlock = some k → False
theorem OSS.below {w w' : World} {lo n c : Nat} {A : Option Addr} {rs : List Row} (h : OSS w lo A n c rs) (hb : Below w.heap.size w w') : OSS w' lo A n c rs :=
  ⟨own_below h.out hb, fun r hr => own_below (h.row r hr) hb, h.apart⟩
theorem OSS.reads {w : World} {lo n c : Nat} {A : Option Addr} {rs : List Row} (h : OSS w lo A n c rs) : RSS w w.heap.size A n rs :=
  ⟨Reads.of_own h.out, fun r hr => Reads.of_own (c := r.c) (h.row r hr)⟩
theorem OSS.base {w : World} {lo lo' n c : Nat} {A : Option Addr} {rs : List Row} (h : OSS w lo A n c rs) (hl : lo' ≤ lo) : OSS w lo' A n c rs :=
  ⟨own_base h.out hl, fun r hr => own_base (h.row r hr) hl, h.apart⟩
end Go.Proofs.Ytnfallanjndbcaa
