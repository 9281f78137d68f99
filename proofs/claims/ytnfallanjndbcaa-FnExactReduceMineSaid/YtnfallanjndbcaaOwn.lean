/- What a call made itself, by the range of its blocks; what another call changed, by range. -/
import Derived.Test.YtnfallanjndbcaaNest
import Derived.Test.YtnfallanjndbcaaRec
namespace Go.Proofs.Ytnfallanjndbcaa
set_option linter.unusedVariables false
set_option linter.unusedSimpArgs false
open Go.RowKit
/-- The blocks from lo up to hi are as they were. -/
structure Same (lo hi : Nat) (a b : World) : Prop where
  blk : ∀ i, lo ≤ i → i < hi → b.heap[i]? = a.heap[i]?
  size : a.heap.size ≤ b.heap.size
theorem Same.refl (lo hi : Nat) (a : World) : Same lo hi a a := ⟨fun _ _ _ => rfl, Nat.le_refl _⟩
theorem Same.below {lo hi : Nat} {a b c : World} (h : Same lo hi a b) (hb : Below b.heap.size b c) (hs : hi ≤ b.heap.size) : Same lo hi a c :=
  ⟨fun i h1 h2 => (hb.block i (by omega)).trans (h.blk i h1 h2), Nat.le_trans h.size hb.size⟩
/-- Only the blocks from lo up to hi, and new ones, have changed. -/
structure Chg (lo hi : Nat) (a b : World) : Prop where
  os : b.os = a.os
  tape : b.tape = a.tape
  output : b.output = a.output
  size : a.heap.size ≤ b.heap.size
  blk : ∀ i, i < a.heap.size → (i < lo ∨ hi ≤ i) → b.heap[i]? = a.heap[i]?
theorem Chg.refl (lo hi : Nat) (a : World) : Chg lo hi a a := ⟨rfl, rfl, rfl, Nat.le_refl _, fun _ _ _ => rfl⟩
theorem Chg.trans {lo hi : Nat} {a b c : World} (h : Chg lo hi a b) (k : Chg lo hi b c) : Chg lo hi a c :=
  ⟨k.os.trans h.os, k.tape.trans h.tape, k.output.trans h.output, Nat.le_trans h.size k.size, fun i h1 h2 => (k.blk i (Nat.lt_of_lt_of_le h1 h.size) h2).trans (h.blk i h1 h2)⟩
theorem Chg.of_below {lo hi : Nat} {a b : World} (h : Below a.heap.size a b) : Chg lo hi a b := ⟨h.os, h.tape, h.output, h.size, fun i h1 _ => h.block i h1⟩
theorem Chg.of_grown {lo hi : Nat} {a b : World} {row : Option Nat} (h : a.grownBy b row) (hr : ∀ k, row = some k → lo ≤ k ∧ k < hi) : Chg lo hi a b :=
  ⟨h.os, h.tape, h.output, h.size, fun i h1 h2 => h.block i h1 fun e => by have := hr i e.symm; omega⟩
theorem Same.chg {lo hi l2 h2 : Nat} {a b c : World} (h : Same lo hi a b) (hc : Chg l2 h2 b c) (hs : hi ≤ b.heap.size) (hd : hi ≤ l2 ∨ h2 ≤ lo) : Same lo hi a c :=
  ⟨fun i h1 h3 => (hc.blk i (by omega) (by omega)).trans (h.blk i h1 h3), Nat.le_trans h.size hc.size⟩
theorem below_chg {lo hi B : Nat} {w a b : World} (h : Below B w a) (hc : Chg lo hi a b) (hl : B ≤ lo) (hs : B ≤ a.heap.size) : Below B w b :=
  ⟨hc.os.trans h.os, hc.tape.trans h.tape, hc.output.trans h.output, Nat.le_trans h.size hc.size, fun i hi => (hc.blk i (by omega) (by omega)).trans (h.block i hi)⟩
theorem Same.drew {lo hi : Nat} {a b : World} (h : Same lo hi a b) : Same lo hi a b.drew := ⟨h.blk, h.size⟩
theorem below_drew {B : Nat} {a w : World} (h : Below B a w) : Below B a w.drew := h.drew
theorem below_undrew {w w' : World} (h : Below w.drew.heap.size w.drew w') : Below w.heap.size w w' := ((Below.refl _ _).drew).trans h
theorem Chg.cell {lo hi : Nat} {a b : World} {p : Addr} {v : Value} (h : Chg lo hi a b) (hc : a.cell? p = some v) (hd : p.block < lo ∨ hi ≤ p.block) : b.cell? p = some v :=
  (World.cell?_of_block (h.blk p.block (block_lt_of_cell hc) hd)).trans hc
/-- A row that lies from block lo up to block hi. -/
structure Own (w : World) (lo hi e z : Nat) (A : Option Addr) (n c : Nat) (xs : List Value) : Prop where
  own : w.ownsRow lo e z (.slice A n c) n xs
  top : ∀ k, Value.ownBlock (.slice A n c) = some k → k < hi
theorem own_mk {w : World} {lo e z n c : Nat} {A : Option Addr} {xs : List Value} (h : w.ownsRow lo e z (.slice A n c) n xs) : Own w lo w.heap.size e z A n c xs := ⟨h, fun k hk => (h.lt k hk).2⟩
theorem owns_same {a b : World} {lo hi e z n : Nat} {v : Value} {xs : List Value} (h : a.ownsRow lo e z v n xs) (ht : ∀ k, v.ownBlock = some k → k < hi) (s : Same lo hi a b) : b.ownsRow lo e z v n xs := by
  refine ⟨h.1, ?_⟩
  rcases h.2 with h0 | ⟨g, cap, cur, h1, h2, h3, h4⟩
  · exact .inl h0
  · subst h1
    exact .inr ⟨g, cap, cur, rfl, h2, (s.blk g h2 (ht g rfl)).trans h3, h4⟩
theorem Own.same {a b : World} {lo hi e z n c : Nat} {A : Option Addr} {xs : List Value} (h : Own a lo hi e z A n c xs) (s : Same lo hi a b) : Own b lo hi e z A n c xs := ⟨owns_same h.own h.top s, h.top⟩
theorem Own.range {a : World} {lo hi e z n c : Nat} {A : Option Addr} {xs : List Value} (h : Own a lo hi e z A n c xs) : ∀ k, Value.ownBlock (.slice A n c) = some k → lo ≤ k ∧ k < hi := fun k hk => ⟨(h.own.lt k hk).1, h.top k hk⟩
theorem Own.reads {a : World} {lo hi e z n c : Nat} {A : Option Addr} {xs : List Value} (h : Own a lo hi e z A n c xs) : Reads a a.heap.size z A n xs := Reads.of_own h.own
/-- Rows that the call made, all of them from block lo up to block hi. -/
structure Oss (w : World) (lo hi : Nat) (A : Option Addr) (n c : Nat) (rs : List Row) : Prop where
  oss : OSS w lo A n c rs
  top : ∀ k, Value.ownBlock (.slice A n c) = some k → k < hi
  rtop : ∀ r ∈ rs, ∀ k, r.val.ownBlock = some k → k < hi
theorem oss_mk {w : World} {lo n c : Nat} {A : Option Addr} {rs : List Row} (h : OSS w lo A n c rs) : Oss w lo w.heap.size A n c rs :=
  ⟨h, fun k hk => (h.out.lt k hk).2, fun r hr k hk => ((h.row r hr).lt k hk).2⟩
theorem Oss.same {a b : World} {lo hi n c : Nat} {A : Option Addr} {rs : List Row} (h : Oss a lo hi A n c rs) (s : Same lo hi a b) : Oss b lo hi A n c rs :=
  ⟨⟨owns_same h.oss.out h.top s, fun r hr => owns_same (h.oss.row r hr) (h.rtop r hr) s, h.oss.apart⟩, h.top, h.rtop⟩
theorem Oss.reads {a : World} {lo hi n c : Nat} {A : Option Addr} {rs : List Row} (h : Oss a lo hi A n c rs) : RSS a a.heap.size A n rs := h.oss.reads
/-- Copies of rows are as short as the rows. -/
theorem bound_dat {w w' : World} {B B' n m : Nat} {A A' : Option Addr} {rs rs' : List Row} (h : RSS w B A n rs) (h' : RSS w' B' A' m rs') (hd : dat rs' = dat rs) {M : Nat} (hb : ∀ r ∈ rs, r.n ≤ M) : ∀ r ∈ rs', r.n ≤ M := by
  intro r hr
  obtain ⟨k, hk⟩ := List.getElem?_of_mem hr
  have h1 := dat_at hk
  rw [hd] at h1
  unfold dat at h1
  rw [List.getElem?_map] at h1
  cases e : rs[k]? with
  | none => rw [e] at h1; simp at h1
  | some q =>
    rw [e] at h1
    have h2 : q.xs = r.xs := by simpa using h1
    have h3 := ints_len (h.row q (List.mem_of_getElem? e))
    have h4 := ints_len (h'.row r hr)
    have h5 := hb q (List.mem_of_getElem? e)
    rw [h2] at h3
    omega
end Go.Proofs.Ytnfallanjndbcaa
