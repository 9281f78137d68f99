/- Several texts in one: FrN Own RootC Name Air Res Lst Lock RAwy RDor RSvy FrR Svs SvL SvC SvG SvO. -/
import Derived.Test.YtjmhhbjbmgpagaaGreatMgA
import Derived.Deep.Matrix
import Derived.Shelf.Abstract
import Derived.Deep.RegionWith
import Derived.Deep.Slices
import Derived.Deep.Fields
import Derived.ChangeSame
import Derived.Lib.SliceRun
/- Opening an argument that is a slice of slices of numbers. -/
namespace Go.Proofs.YtjmhhbjbmgpagaaGreat
set_option linter.unusedVariables false
set_option linter.unusedSimpArgs false
open Go.ChangeShapes Go.WideShapes Go.ChangeAt Go.RowKit Go.Joins Go.Deep
section
variable {H : Type} {enc : TypeId × Value → H} {P : Program} {W : World} {base : Nat} {t e q : TypeId} {v : Value} {d : DataW H} {p : List MemPlace}
theorem reads_of_cells {A : Option Addr} {L C : Nat} {zs : List Int} (hl : L ≤ C) (hz : zs.length = C) (hn : A = none → C = 0)
    (hc : ∀ a, A = some a → ∀ c, c < C → W.cell? (a.add c) = some (.int .i64 (zs.getD c 0))) : Reads W W.heap.size 1 A L (ints (zs.take L)) := by
  refine ⟨by simp [ints]; omega, fun hL => ?_⟩
  cases A with
  | none => have := hn rfl; omega
  | some a =>
    refine ⟨a, rfl, cell_lt_add (hc a rfl 0 (by omega)), fun j u hj => ?_⟩
    simp only [ints, List.getElem?_map, List.getElem?_take] at hj
    by_cases hjl : j < L
    · rw [if_pos hjl] at hj
      have hjz : j < zs.length := by omega
      rw [List.getElem?_eq_getElem hjz] at hj
      simp only [Option.map_some, Option.some.injEq] at hj
      rw [hc a rfl j (by omega), ← hj, List.getD_eq_getElem?_getD, List.getElem?_eq_getElem hjz]
      rfl
    · rw [if_neg hjl] at hj; simp at hj
theorem op_rowsF {fuel : Nat} {x : DataW H × List MemPlace} (ht : P.underlying t = some (.slice e)) (he : P.underlying e = some (.slice q)) (hq : P.underlying q = some (.int .i64)) (ce : P.cellsOf e = 1) (cq : P.cellsOf q = 1) {c1 : Value} (hf : DataW.trod enc P W 0 (fun _ => true) true fuel t [c1] = some x) :
    ∃ A n c rs, c1 = .slice A n c ∧ n ≤ c ∧ c ≤ maxLen ∧ RSS W W.heap.size A n rs ∧ ∀ r ∈ rs, r.n ≤ maxLen := by
  rcases open_int_rows ht he hq ce cq hf with ⟨hcs, _⟩ | ⟨a, len, cap, A, L, C, Z, hcs, _, hl, hm, _, hrow⟩
  · simp only [List.cons.injEq, and_true] at hcs
    subst hcs
    exact ⟨none, 0, 0, [], rfl, by omega, by simp [maxLen], ⟨Reads.none_, fun r hr => by simp at hr⟩, fun r hr => by simp at hr⟩
  · simp only [List.cons.injEq, and_true] at hcs
    subst hcs
    refine ⟨some a, len, cap, (List.range len).map fun r => ⟨A r, L r, C r, (Z r).take (L r)⟩, rfl, hl, hm, ⟨⟨by simp [rowsV], fun hn => ⟨a, rfl, ?_, ?_⟩⟩, ?_⟩, ?_⟩
    · exact cell_lt_add (hrow 0 (by omega)).1
    · intro j u hj
      simp only [rowsV, List.map_map, List.getElem?_map, List.getElem?_range] at hj
      by_cases hjl : j < len
      · simp [hjl, Row.val] at hj
        rw [(hrow j (by omega)).1, ← hj]
      · simp [hjl] at hj
    · intro r hr
      obtain ⟨j, hj, rfl⟩ := List.mem_map.1 hr
      have hj := List.mem_range.1 hj
      obtain ⟨_, r1, r2, r3, _, r5, r6⟩ := hrow j (by omega)
      exact reads_of_cells r1 r3 r5 fun a' ha c hc => (r6 a' ha).2 c hc
    · intro r hr
      obtain ⟨j, hj, rfl⟩ := List.mem_map.1 hr
      have hj := List.mem_range.1 hj
      obtain ⟨_, r1, r2, _⟩ := hrow j (by omega)
      exact Nat.le_trans r1 r2
/-- A struct of a string, a number and a slice of slices of numbers. -/
theorem op_fan {f0 f1 f2 : Field} (hs : P.underlying t = some (.struct #[f0, f1, f2])) (hone : oneCellFields P #[f0, f1, f2] = true) (hC : P.cellsOf t = 3) (h0 : P.underlying f0.type = some .string) (h1 : P.underlying f1.type = some (.int .i64))
    (ht : P.underlying f2.type = some (.slice e)) (he : P.underlying e = some (.slice q)) (hq : P.underlying q = some (.int .i64)) (ce : P.cellsOf e = 1) (cq : P.cellsOf q = 1) (hv : Value.okWide P W .any base t v) (h : DataW.Trod enc P W 0 (fun _ => true) true t v d p) :
    ∃ s a A n c rs, v = .agg #[.string s, .int .i64 a, .slice A n c] ∧ s.size ≤ maxLen ∧ n ≤ c ∧ c ≤ maxLen ∧ RSS W W.heap.size A n rs ∧ ∀ r ∈ rs, r.n ≤ maxLen := by
  obtain ⟨c0, c1, c2, y0, y1, y2, m, rfl, _, _, t0, t1, t2⟩ := open_agg3 hs hone hC hv h
  obtain ⟨s, e0, _, w0⟩ := DataW.trod_string h0 t0
  obtain ⟨a, e1, _, _⟩ := DataW.trod_int h1 t1
  simp only [List.cons.injEq, and_true] at e0 e1
  subst e0 e1
  obtain ⟨A, n, c, rs, rfl, g1, g2, g3, g4⟩ := op_rowsF ht he hq ce cq t2
  exact ⟨s, a, A, n, c, rs, rfl, w0, g1, g2, g3, g4⟩
theorem op_rows (ht : P.underlying t = some (.slice e)) (he : P.underlying e = some (.slice q)) (hq : P.underlying q = some (.int .i64)) (ce : P.cellsOf e = 1) (cq : P.cellsOf q = 1) (hv : Value.okWide P W .any base t v) (h : DataW.Trod enc P W 0 (fun _ => true) true t v d p) :
    ∃ A n c rs, v = .slice A n c ∧ n ≤ c ∧ c ≤ maxLen ∧ RSS W W.heap.size A n rs ∧ ∀ r ∈ rs, r.n ≤ maxLen := by
  obtain ⟨a0, n0, c0, rfl⟩ := okWide_slice ht hv
  obtain ⟨fuel, hf⟩ := h
  rcases open_int_rows ht he hq ce cq hf with ⟨hcs, _⟩ | ⟨a, len, cap, A, L, C, Z, hcs, _, hl, hm, _, hrow⟩
  · simp only [Value.cells, List.cons.injEq, Value.slice.injEq, and_true] at hcs
    obtain ⟨rfl, rfl, rfl⟩ := hcs
    exact ⟨none, 0, 0, [], rfl, by omega, by simp [maxLen], ⟨Reads.none_, fun r hr => by simp at hr⟩, fun r hr => by simp at hr⟩
  · simp only [Value.cells, List.cons.injEq, Value.slice.injEq, and_true] at hcs
    obtain ⟨rfl, rfl, rfl⟩ := hcs
    refine ⟨some a, n0, c0, (List.range n0).map fun r => ⟨A r, L r, C r, (Z r).take (L r)⟩, rfl, hl, hm, ⟨⟨by simp [rowsV], fun hn => ⟨a, rfl, ?_, ?_⟩⟩, ?_⟩, ?_⟩
    · exact cell_lt_add (hrow 0 (by omega)).1
    · intro j u hj
      simp only [rowsV, List.map_map, List.getElem?_map, List.getElem?_range] at hj
      by_cases hjl : j < n0
      · simp [hjl, Row.val] at hj
        rw [(hrow j (by omega)).1, ← hj]
      · simp [hjl] at hj
    · intro r hr
      obtain ⟨j, hj, rfl⟩ := List.mem_map.1 hr
      have hj := List.mem_range.1 hj
      obtain ⟨_, r1, r2, r3, _, r5, r6⟩ := hrow j (by omega)
      exact reads_of_cells r1 r3 r5 fun a' ha c hc => (r6 a' ha).2 c hc
    · intro r hr
      obtain ⟨j, hj, rfl⟩ := List.mem_map.1 hr
      have hj := List.mem_range.1 hj
      obtain ⟨_, r1, r2, _⟩ := hrow j (by omega)
      exact Nat.le_trans r1 r2
end
end Go.Proofs.YtjmhhbjbmgpagaaGreat

/- What a call made itself, by the range of its blocks; what another call changed, by range. -/
namespace Go.Proofs.YtjmhhbjbmgpagaaGreat
set_option linter.unusedVariables false
set_option linter.unusedSimpArgs false
open Go.RowKit
/-- The blocks from lo up to hi are as they were. -/
structure Same (lo hi : Nat) (a b : World) : Prop where
  blk : ∀ i, lo ≤ i → i < hi → b.heap[i]? = a.heap[i]?
  size : a.heap.size ≤ b.heap.size
theorem Same.refl (lo hi : Nat) (a : World) : Same lo hi a a := ⟨fun _ _ _ => rfl, Nat.le_refl _⟩
theorem Same.below {lo hi : Nat} {a b c : World} (h : Same lo hi a b) (hb : Below b.heap.size b c) (hs : hi ≤ b.heap.size) : Same lo hi a c :=
  ⟨fun i h1 h2 => (hb.block i (by omega)).trans (h.blk i h1 h2), Nat.le_trans h.size hb.size⟩
/-- Only the blocks from lo up to hi, and new ones, have changed. -/
structure Chg (lo hi : Nat) (a b : World) : Prop where
  os : b.os = a.os
  tape : b.tape = a.tape
  output : b.output = a.output
  size : a.heap.size ≤ b.heap.size
  blk : ∀ i, i < a.heap.size → (i < lo ∨ hi ≤ i) → b.heap[i]? = a.heap[i]?
theorem Chg.refl (lo hi : Nat) (a : World) : Chg lo hi a a := ⟨rfl, rfl, rfl, Nat.le_refl _, fun _ _ _ => rfl⟩
theorem Chg.trans {lo hi : Nat} {a b c : World} (h : Chg lo hi a b) (k : Chg lo hi b c) : Chg lo hi a c :=
  ⟨k.os.trans h.os, k.tape.trans h.tape, k.output.trans h.output, Nat.le_trans h.size k.size, fun i h1 h2 => (k.blk i (Nat.lt_of_lt_of_le h1 h.size) h2).trans (h.blk i h1 h2)⟩
theorem Chg.of_below {lo hi : Nat} {a b : World} (h : Below a.heap.size a b) : Chg lo hi a b := ⟨h.os, h.tape, h.output, h.size, fun i h1 _ => h.block i h1⟩
theorem Chg.of_grown {lo hi : Nat} {a b : World} {row : Option Nat} (h : a.grownBy b row) (hr : ∀ k, row = some k → lo ≤ k ∧ k < hi) : Chg lo hi a b :=
  ⟨h.os, h.tape, h.output, h.size, fun i h1 h2 => h.block i h1 fun e => by have := hr i e.symm; omega⟩
theorem Same.chg {lo hi l2 h2 : Nat} {a b c : World} (h : Same lo hi a b) (hc : Chg l2 h2 b c) (hs : hi ≤ b.heap.size) (hd : hi ≤ l2 ∨ h2 ≤ lo) : Same lo hi a c :=
  ⟨fun i h1 h3 => (hc.blk i (by omega) (by omega)).trans (h.blk i h1 h3), Nat.le_trans h.size hc.size⟩
theorem below_chg {lo hi B : Nat} {w a b : World} (h : Below B w a) (hc : Chg lo hi a b) (hl : B ≤ lo) (hs : B ≤ a.heap.size) : Below B w b :=
  ⟨hc.os.trans h.os, hc.tape.trans h.tape, hc.output.trans h.output, Nat.le_trans h.size hc.size, fun i hi => (hc.blk i (by omega) (by omega)).trans (h.block i hi)⟩
theorem Same.drew {lo hi : Nat} {a b : World} (h : Same lo hi a b) : Same lo hi a b.drew := ⟨h.blk, h.size⟩
theorem below_drew {B : Nat} {a w : World} (h : Below B a w) : Below B a w.drew := h.drew
theorem below_undrew {w w' : World} (h : Below w.drew.heap.size w.drew w') : Below w.heap.size w w' := ((Below.refl _ _).drew).trans h
theorem Chg.cell {lo hi : Nat} {a b : World} {p : Addr} {v : Value} (h : Chg lo hi a b) (hc : a.cell? p = some v) (hd : p.block < lo ∨ hi ≤ p.block) : b.cell? p = some v :=
  (World.cell?_of_block (h.blk p.block (block_lt_of_cell hc) hd)).trans hc
/-- A row that lies from block lo up to block hi. -/
structure Own (w : World) (lo hi e z : Nat) (A : Option Addr) (n c : Nat) (xs : List Value) : Prop where
  own : w.ownsRow lo e z (.slice A n c) n xs
  top : ∀ k, Value.ownBlock (.slice A n c) = some k → k < hi
theorem own_mk {w : World} {lo e z n c : Nat} {A : Option Addr} {xs : List Value} (h : w.ownsRow lo e z (.slice A n c) n xs) : Own w lo w.heap.size e z A n c xs := ⟨h, fun k hk => (h.lt k hk).2⟩
theorem owns_same {a b : World} {lo hi e z n : Nat} {v : Value} {xs : List Value} (h : a.ownsRow lo e z v n xs) (ht : ∀ k, v.ownBlock = some k → k < hi) (s : Same lo hi a b) : b.ownsRow lo e z v n xs := by
  refine ⟨h.1, ?_⟩
  rcases h.2 with h0 | ⟨g, cap, cur, h1, h2, h3, h4⟩
  · exact .inl h0
  · subst h1
    exact .inr ⟨g, cap, cur, rfl, h2, (s.blk g h2 (ht g rfl)).trans h3, h4⟩
theorem Own.same {a b : World} {lo hi e z n c : Nat} {A : Option Addr} {xs : List Value} (h : Own a lo hi e z A n c xs) (s : Same lo hi a b) : Own b lo hi e z A n c xs := ⟨owns_same h.own h.top s, h.top⟩
theorem Own.range {a : World} {lo hi e z n c : Nat} {A : Option Addr} {xs : List Value} (h : Own a lo hi e z A n c xs) : ∀ k, Value.ownBlock (.slice A n c) = some k → lo ≤ k ∧ k < hi := fun k hk => ⟨(h.own.lt k hk).1, h.top k hk⟩
theorem Own.reads {a : World} {lo hi e z n c : Nat} {A : Option Addr} {xs : List Value} (h : Own a lo hi e z A n c xs) : Reads a a.heap.size z A n xs := Reads.of_own h.own
/-- Rows that the call made, all of them from block lo up to block hi. -/
structure Oss (w : World) (lo hi : Nat) (A : Option Addr) (n c : Nat) (rs : List Row) : Prop where
  oss : OSS w lo A n c rs
  top : ∀ k, Value.ownBlock (.slice A n c) = some k → k < hi
  rtop : ∀ r ∈ rs, ∀ k, r.val.ownBlock = some k → k < hi
theorem oss_mk {w : World} {lo n c : Nat} {A : Option Addr} {rs : List Row} (h : OSS w lo A n c rs) : Oss w lo w.heap.size A n c rs :=
  ⟨h, fun k hk => (h.out.lt k hk).2, fun r hr k hk => ((h.row r hr).lt k hk).2⟩
theorem Oss.same {a b : World} {lo hi n c : Nat} {A : Option Addr} {rs : List Row} (h : Oss a lo hi A n c rs) (s : Same lo hi a b) : Oss b lo hi A n c rs :=
  ⟨⟨owns_same h.oss.out h.top s, fun r hr => owns_same (h.oss.row r hr) (h.rtop r hr) s, h.oss.apart⟩, h.top, h.rtop⟩
theorem Oss.reads {a : World} {lo hi n c : Nat} {A : Option Addr} {rs : List Row} (h : Oss a lo hi A n c rs) : RSS a a.heap.size A n rs := h.oss.reads
/-- Copies of rows are as short as the rows. -/
theorem bound_dat {w w' : World} {B B' n m : Nat} {A A' : Option Addr} {rs rs' : List Row} (h : RSS w B A n rs) (h' : RSS w' B' A' m rs') (hd : dat rs' = dat rs) {M : Nat} (hb : ∀ r ∈ rs, r.n ≤ M) : ∀ r ∈ rs', r.n ≤ M := by
  intro r hr
  obtain ⟨k, hk⟩ := List.getElem?_of_mem hr
  have h1 := dat_at hk
  rw [hd] at h1
  unfold dat at h1
  rw [List.getElem?_map] at h1
  cases e : rs[k]? with
  | none => rw [e] at h1; simp at h1
  | some q =>
    rw [e] at h1
    have h2 : q.xs = r.xs := by simpa using h1
    have h3 := ints_len (h.row q (List.mem_of_getElem? e))
    have h4 := ints_len (h'.row r hr)
    have h5 := hb q (List.mem_of_getElem? e)
    rw [h2] at h3
    omega
theorem szRows_any (A : Option Addr) (n c : Nat) (rs : List Row) (l : Int) (w : World) (hr : RSS w w.heap.size A n rs) (h1 : 0 ≤ l) (h2 : l ≤ 1048576) (hn : n ≤ maxLen) (hrn : ∀ r ∈ rs, r.n ≤ maxLen) :
    Calls Tryz.prog 51 #[.slice A n c, .int .i64 l] w fun e w' => e = .returned (.int .i64 (szI l (n + tot rs))) ∧ Below w.heap.size w w' :=
  (szInt64SS_any A n c rs l w hr h1 h2 hn hrn).mono fun _ _ ⟨he, hw⟩ => ⟨he, hw ▸ Below.refl _ _⟩
end Go.Proofs.YtjmhhbjbmgpagaaGreat

/- Contracts of the two square roots, and of sort.Search with a closure that only reads. -/
namespace Go.Proofs.YtjmhhbjbmgpagaaGreat
set_option linter.unusedVariables false
set_option linter.unusedSimpArgs false
open Go.RowKit
theorem l01Root_any (n : Int) (w : World) (_ : -9223372036854775808 ≤ n) (hn : n ≤ 9223372036854775807) :
    Calls Tryz.prog 96 #[.int .i64 n] w fun e w' => e = .returned (.int .i64 (rootI n)) ∧ w = w' := by
  have hr0 := rootI_nonneg n
  have hr1 := rootI_max hn
  go_enter Tryz.func96, Tryz.ntmps96
  go_wp2
  go_loop [3, 4] (fun l h => ∃ lo hi : Int, 0 ≤ lo ∧ lo ≤ rootI n ∧ rootI n ≤ hi ∧ hi ≤ 3037000499 ∧ l = .int .i64 lo ∧ h = .int .i64 hi) (fun l h => (intOf h - intOf l).toNat)
  case atStart => exact ⟨0, 3037000499, by omega, by omega, by omega, by omega, rfl, rfl⟩
  case round =>
    obtain ⟨lo, hi, h1, h2, h3, h4, rfl, rfl⟩ := hrel
    by_cases hlt : lo < hi
    · have hm := mul_pos_bnd (x := (lo + hi + 1) / 2) (y := (lo + hi + 1) / 2) (X := 3037000499) (Y := 3037000499) (M := 9223372036854775807) (by omega) (by omega) (by omega) (by omega) (by omega)
      obtain ⟨hm1, hm2⟩ := hm
      have hk := rootI_le (n := n) (m := (lo + hi + 1) / 2) (by omega)
      by_cases hc : (lo + hi + 1) / 2 * ((lo + hi + 1) / 2) ≤ n
      · have hle : (lo + hi + 1) / 2 ≤ rootI n := hk.2 (.inr hc)
        clear hk
        go_wp2
        go_round
        case rel => exact ⟨(lo + hi + 1) / 2, hi, by omega, by omega, by omega, by omega, rfl, rfl⟩
        case measure => simp [intOf]; omega
      · have hle : rootI n ≤ (lo + hi + 1) / 2 - 1 := by
          rcases Int.lt_or_le (rootI n) ((lo + hi + 1) / 2) with h5 | h5
          · omega
          · rcases hk.1 h5 with h6 | h6
            · omega
            · exact absurd h6 hc
        clear hk
        go_wp2
        go_round
        case rel => exact ⟨lo, (lo + hi + 1) / 2 - 1, by omega, by omega, by omega, by omega, rfl, rfl⟩
        case measure => simp [intOf]; omega
    · go_wp2
      go_ret
      exact ⟨ret_int (by omega), rfl⟩
set_option maxHeartbeats 400000 in
/-- sort.Search: the first place at which a closure says true, where what it says only turns from false to true. -/
theorem search_any (g : Nat) (cb : Array Value) (N : Int) (n : Nat) (hN : N = (n : Int)) (p : Nat → Bool) (w : World) (eg : ∀ args W, (callFunc g args).run Tryz.prog W = .ok (.enter g args) W) (hsz : n < 4611686018427387904)
    (hf : ∀ (W : World) (i : Nat), Below w.heap.size w W → i < n → Calls Tryz.prog g (#[.int .i64 i] ++ cb) W fun e w' => e = .returned (.bool (p i)) ∧ Below W.heap.size W w')
    (hmono : ∀ a b, a ≤ b → b < n → p a = true → p b = true) :
    Calls Tryz.prog 109 #[.int .i64 N, .func (.func g) #[] cb] w fun e w' => ∃ k : Nat, e = .returned (.int .i64 k) ∧ k ≤ n ∧ (∀ i, i < k → p i = false) ∧ (∀ i, k ≤ i → i < n → p i = true) ∧ Below w.heap.size w w' := by
  subst hN
  have HF := Lib.hid hf
  have HM := Lib.hid hmono
  clear hf hmono
  go_enter Tryz.func109, Tryz.ntmps109
  go_wp2
  go_loopw [5, 6] (fun s5 s6 wr => ∃ lo hi : Nat, s5 = .int .i64 lo ∧ s6 = .int .i64 hi ∧ lo ≤ hi ∧ hi ≤ n ∧ Below w.heap.size w wr ∧
    Hid ((∀ t, t < lo → p t = false) ∧ (∀ t, hi ≤ t → t < n → p t = true))) (fun s5 s6 _ => (intOf s6 - intOf s5).toNat)
  case atStart => exact ⟨0, n, rfl, rfl, by omega, by omega, Below.refl _ _, ⟨fun t ht => absurd ht (Nat.not_lt_zero _), fun t h1 h2 => by omega⟩⟩
  case round =>
    obtain ⟨lo, hi, rfl, rfl, hlh, hin, hbw, I⟩ := hrel
    by_cases hlt : lo < hi
    · have hc := HF.out wr ((lo + hi) / 2) hbw (by omega)
      rw [show (((lo + hi) / 2 : Nat) : Int) = ((lo : Int) + (hi : Int)) / 2 by omega] at hc
      cases hp : p ((lo + hi) / 2) <;> rw [hp] at hc
      · have HP := Lib.hid hp
        clear hp
        go_wp2_with (go_at_fn g; refine hc.mono ?_; rintro e w' ⟨rfl, hb1⟩)
        go_roundw
        case rel =>
          refine ⟨(lo + hi) / 2 + 1, hi, by go_num, rfl, by omega, by omega, hbw.trans (hb1.mono hbw.size), ?_, I.out.2⟩
          intro t ht
          cases htt : p t with
          | false => rfl
          | true =>
            have := HM.out t ((lo + hi) / 2) (by omega) (by omega) htt
            rw [HP.out] at this; cases this
        case measure => simp [intOf]; omega
      · have HP := Lib.hid hp
        clear hp
        go_wp2_with (go_at_fn g; refine hc.mono ?_; rintro e w' ⟨rfl, hb1⟩)
        go_roundw
        case rel =>
          refine ⟨lo, (lo + hi) / 2, rfl, by go_num, by omega, by omega, hbw.trans (hb1.mono hbw.size), I.out.1, ?_⟩
          intro t ht1 ht2
          exact HM.out ((lo + hi) / 2) t (by omega) (by omega) HP.out
        case measure => simp [intOf]; omega
    · have e : lo = hi := by omega
      subst e
      go_wp2
      go_ret
      exact ⟨lo, rfl, hin, I.out.1, I.out.2, hbw⟩
theorem rootClosure_any (n : Int) (r : Int) (b : Nat) (w : World) (hc : w.cell? ⟨b, 0, none⟩ = some (.int .i64 n)) (h1 : 0 ≤ r) (h2 : r ≤ 3037000498) :
    Calls Tryz.prog 110 #[.int .i64 r, .pointer (some ⟨b, 0, none⟩)] w fun e w' => e = .returned (.bool (decide (n < (r + 1) * (r + 1)))) ∧ ∃ m, w' = w.drewN m := by
  obtain ⟨h3, h4⟩ := mul_pos_bnd (x := r + 1) (y := r + 1) (X := 3037000499) (Y := 3037000499) (M := 9223372036854775807) (by omega) (by omega) (by omega) (by omega) (by omega)
  go_enter Tryz.func110, Tryz.ntmps110
  go_wp2
  go_ret
  exact ⟨rfl, 0, rfl⟩
set_option maxRecDepth 100000 in
theorem rootSearch (n : Int) (b : Nat) (W : World) (hc : W.cell? ⟨b, 0, none⟩ = some (.int .i64 n)) (hb0 : b < W.heap.size) (hn : n ≤ 9223372036854775807) :
    Calls Tryz.prog 109 #[.int .i64 3037000499, .func (.func 110) #[] #[.pointer (some ⟨b, 0, none⟩)]] W fun e w' => e = .returned (.int .i64 (rootI n)) ∧ Below W.heap.size W w' := by
  refine (search_any 110 _ 3037000499 3037000499 rfl (fun i => decide (n < ((i : Int) + 1) * ((i : Int) + 1))) W (fun args W => rfl) (by omega) ?hf ?hm).mono ?_
  case hf =>
    intro W' i hb hi
    refine (rootClosure_any n i b W' ?_ (by omega) (by omega)).mono ?_
    · rw [hb.cell (by exact hb0)]; exact hc
    · rintro e w' ⟨rfl, m, rfl⟩
      exact ⟨rfl, below_drewN (Below.refl _ _) _⟩
  case hm =>
    intro a b hab hbn h
    have h := of_decide_eq_true h
    apply decide_eq_true
    have h1 : (a : Int) + 1 ≤ (b : Int) + 1 := by omega
    have h2 := Int.mul_le_mul h1 h1 (by omega) (by omega)
    omega
  rintro e w' ⟨k, rfl, hk1, hk2, hk3, hb⟩
  refine ⟨ret_int ?_, hb⟩
  have h1 := rootI_max hn
  have h2 : (k : Int) ≤ rootI n := by
    refine (rootI_le (by omega)).2 ?_
    by_cases hk0 : k = 0
    · left; omega
    · right
      have h3 := of_decide_eq_false (hk2 (k - 1) (by omega))
      have e : ((k - 1 : Nat) : Int) + 1 = (k : Int) := by omega
      rw [e] at h3; omega
  rcases Nat.lt_or_ge k 3037000499 with h4 | h4
  · have h5 := of_decide_eq_true (hk3 k (by omega) h4)
    rcases Int.lt_or_le (k : Int) (rootI n) with h6 | h6
    · rcases (rootI_le (n := n) (m := (k : Int) + 1) (by omega)).1 (by omega) with h7 | h7 <;> omega
    · omega
  · omega
theorem rootOf_any (n : Int) (w : World) (hn : n ≤ 9223372036854775807) :
    Calls Tryz.prog 82 #[.int .i64 n] w fun e w' => e = .returned (.int .i64 (rootI n)) ∧ Below w.heap.size w w' := by
  by_cases h0 : n < 0
  · have h1 := rootI_neg h0
    have H1 := Lib.hid h1
    clear h1
    go_enter Tryz.func82, Tryz.ntmps82
    go_wp2
    go_ret
    exact ⟨ret_int H1.out.symm, by exact (Below.refl _ _).alloc (Nat.le_refl _) _⟩
  · go_enter Tryz.func82, Tryz.ntmps82
    go_wp2_with (go_at_call 109; refine (rootSearch n _ _ (cell_new1 _ _ _) (by simp) hn).mono ?_; rintro e w' ⟨rfl, hb⟩)
    go_ret
    exact ⟨rfl, ((Below.refl _ _).alloc (Nat.le_refl _) _).trans (hb.mono (by simp))⟩
end Go.Proofs.YtjmhhbjbmgpagaaGreat

/- Contracts of the two tests of a name. -/
namespace Go.Proofs.YtjmhhbjbmgpagaaGreat
set_option linter.unusedVariables false
set_option linter.unusedSimpArgs false
open Go.RowKit
theorem l01Small_any (c : Int) (w : World) :
    Calls Tryz.prog 111 #[.int .u8 c] w fun e w' => e = .returned (.bool (inB c 97 122)) ∧ w = w' := by
  unfold inB
  go_enter Tryz.func111, Tryz.ntmps111
  go_wp2
  all_goals
    go_ret
    exact ⟨ret_bool (by simp; omega), rfl⟩
theorem l01Digit_any (c : Int) (w : World) :
    Calls Tryz.prog 112 #[.int .u8 c] w fun e w' => e = .returned (.bool (inB c 48 57)) ∧ w = w' := by
  unfold inB
  go_enter Tryz.func112, Tryz.ntmps112
  go_wp2
  all_goals
    go_ret
    exact ⟨ret_bool (by simp; omega), rfl⟩
theorem nonempty_list {s : ByteArray} (h : 1 ≤ s.size) : s.toList.isEmpty = false := by
  rw [ByteArray.toList_eq]
  cases e : s.data.toList with
  | nil => simp [ByteArray.size, ← Array.length_toList, e] at h
  | cons _ _ => rfl
theorem empty_list {s : ByteArray} (h : s.size = 0) : s.toList.isEmpty = true := by
  rw [ByteArray.toList_eq]
  cases e : s.data.toList with
  | nil => rfl
  | cons _ _ => simp [ByteArray.size, ← Array.length_toList, e] at h
set_option maxHeartbeats 800000 in
theorem l01Name_any (s : ByteArray) (w : World) (hs : s.size ≤ maxLen) :
    Calls Tryz.prog 86 #[.string s] w fun e w' => e = .returned (.bool (isName s)) ∧ w = w' := by
  unfold maxLen at hs
  by_cases h0 : s.size = 0
  · have h1 := empty_list h0
    have h2 := isName_len (s := s) (by omega)
    have H2 := Lib.hid h2
    clear h0 h2
    go_enter Tryz.func86, Tryz.ntmps86
    go_wp2
    go_ret
    exact ⟨ret_bool H2.out.symm, rfl⟩
  have h1 := nonempty_list (s := s) (by omega)
  by_cases h10 : 10 < s.size
  · have h2 := isName_len (s := s) (by omega)
    have H2 := Lib.hid h2
    clear h0 h2
    go_enter Tryz.func86, Tryz.ntmps86
    go_wp2
    go_ret
    exact ⟨ret_bool H2.out.symm, rfl⟩
  have hlen : 0 < s.size := by omega
  have H : Hid (1 ≤ s.size ∧ s.size ≤ 10) := ⟨by omega, by omega⟩
  have HB := Lib.hid (byte_at hlen)
  clear h0
  rcases Bool.eq_false_or_eq_true (inB (s[0]!).toNat 97 122) with h3 | h3
  · have H3 := Lib.hid (isName_rest H.out h3)
    rw [HB.out] at h3
    go_enter Tryz.func86, Tryz.ntmps86
    go_wp2_with (go_at_call 111; refine (l01Small_any _ _).mono ?_; rintro e w' ⟨rfl, rfl⟩)
    go_loop [3] (fun i => ∃ k : Nat, k ≤ s.size ∧ i = .int .i64 k ∧ Hid (∀ j, j < k → nameB s[j]! = true)) (fun i => s.size - (intOf i).toNat)
    case atStart => exact ⟨0, by omega, rfl, fun j hj => absurd hj (Nat.not_lt_zero _)⟩
    case round =>
      obtain ⟨k, hk, rfl, HK⟩ := hrel
      by_cases hlt : k < s.size
      · have HBk := Lib.hid (byte_at hlt)
        rcases Bool.eq_false_or_eq_true (inB (s[k]!).toNat 97 122) with h4 | h4 <;> rcases Bool.eq_false_or_eq_true (inB (s[k]!).toNat 48 57) with h5 | h5
        · have HN : Hid (nameB s[k]! = true) := by show nameB _ = _; simp [nameB, h4]
          rw [HBk.out] at h4 h5
          go_wp2_with (first | (go_at_call 111; refine (l01Small_any _ _).mono ?_; rintro e w' ⟨rfl, rfl⟩) | (go_at_call 112; refine (l01Digit_any _ _).mono ?_; rintro e w' ⟨rfl, rfl⟩))
          go_round
          case rel =>
            refine ⟨k + 1, by omega, by go_num, fun j hj => ?_⟩
            rcases Nat.lt_or_ge j k with hjk | hjk
            · exact HK.out j hjk
            · obtain rfl : j = k := by omega
              exact HN.out
          case measure => simp [intOf]; omega
        · have HN : Hid (nameB s[k]! = true) := by show nameB _ = _; simp [nameB, h4]
          rw [HBk.out] at h4 h5
          go_wp2_with (first | (go_at_call 111; refine (l01Small_any _ _).mono ?_; rintro e w' ⟨rfl, rfl⟩) | (go_at_call 112; refine (l01Digit_any _ _).mono ?_; rintro e w' ⟨rfl, rfl⟩))
          go_round
          case rel =>
            refine ⟨k + 1, by omega, by go_num, fun j hj => ?_⟩
            rcases Nat.lt_or_ge j k with hjk | hjk
            · exact HK.out j hjk
            · obtain rfl : j = k := by omega
              exact HN.out
          case measure => simp [intOf]; omega
        · have HN : Hid (nameB s[k]! = true) := by show nameB _ = _; simp [nameB, h5]
          rw [HBk.out] at h4 h5
          go_wp2_with (first | (go_at_call 111; refine (l01Small_any _ _).mono ?_; rintro e w' ⟨rfl, rfl⟩) | (go_at_call 112; refine (l01Digit_any _ _).mono ?_; rintro e w' ⟨rfl, rfl⟩))
          go_round
          case rel =>
            refine ⟨k + 1, by omega, by go_num, fun j hj => ?_⟩
            rcases Nat.lt_or_ge j k with hjk | hjk
            · exact HK.out j hjk
            · obtain rfl : j = k := by omega
              exact HN.out
          case measure => simp [intOf]; omega
        · have HN : Hid (nameB s[k]! = false) := by show nameB _ = _; simp [nameB, h4, h5]
          rw [HBk.out] at h4 h5
          go_wp2_with (first | (go_at_call 111; refine (l01Small_any _ _).mono ?_; rintro e w' ⟨rfl, rfl⟩) | (go_at_call 112; refine (l01Digit_any _ _).mono ?_; rintro e w' ⟨rfl, rfl⟩))
          go_ret
          exact ⟨ret_bool (by rw [H3.out, allUpto_f hlt HN.out]), rfl⟩
      · go_wp2
        go_ret
        exact ⟨ret_bool (by rw [H3.out, allUpto_t fun j hj => HK.out j (by omega)]), rfl⟩
  · have H3 := Lib.hid (isName_head h3)
    rw [HB.out] at h3
    go_enter Tryz.func86, Tryz.ntmps86
    go_wp2_with (go_at_call 111; refine (l01Small_any _ _).mono ?_; rintro e w' ⟨rfl, rfl⟩)
    go_ret
    exact ⟨ret_bool H3.out.symm, rfl⟩
set_option maxHeartbeats 800000 in
theorem onlyNameBytes_any (s : ByteArray) (w : World) (hs : s.size ≤ maxLen) :
    Calls Tryz.prog 116 #[.string s] w fun e w' => e = .returned (.bool (allUpto s.size fun k => nameB s[k]!)) ∧ w = w' := by
  unfold maxLen at hs
  go_enter Tryz.func116, Tryz.ntmps116
  go_wp2
  go_loop [7] (fun i => ∃ k : Nat, k ≤ s.size ∧ i = .int .i64 k ∧ Hid (∀ j, j < k → nameB s[j]! = true)) (fun i => s.size - (intOf i).toNat)
  case atStart => exact ⟨0, by omega, rfl, fun j hj => absurd hj (Nat.not_lt_zero _)⟩
  case round =>
    obtain ⟨k, hk, rfl, HK⟩ := hrel
    by_cases hlt : k < s.size
    · have HBk := Lib.hid (byte_at hlt)
      by_cases h4 : (97 : Int) ≤ (s[k].toNat : Int) ∧ (s[k].toNat : Int) ≤ 122 ∨ (48 : Int) ≤ (s[k].toNat : Int) ∧ (s[k].toNat : Int) ≤ 57
      · have HN : Hid (nameB s[k]! = true) := by show nameB _ = _; rw [HBk.out]; unfold nameB inB; simp only [Bool.or_eq_true, decide_eq_true_eq]; exact h4
        go_wp2
        all_goals
          first
          | (go_round
             case rel =>
               refine ⟨k + 1, by omega, by go_num, fun j hj => ?_⟩
               rcases Nat.lt_or_ge j k with hjk | hjk
               · exact HK.out j hjk
               · obtain rfl : j = k := by omega
                 exact HN.out
             case measure => simp [intOf]; omega)
          | (exfalso; omega)
      · have HN : Hid (nameB s[k]! = false) := by
          show nameB _ = _; rw [HBk.out]; unfold nameB inB
          rw [Bool.or_eq_false_iff]
          exact ⟨decide_eq_false fun h => h4 (.inl h), decide_eq_false fun h => h4 (.inr h)⟩
        go_wp2
        all_goals
          first
          | (go_ret
             exact ⟨ret_bool (by rw [allUpto_f hlt HN.out]), rfl⟩)
          | (exfalso; omega)
    · go_wp2
      go_ret
      exact ⟨ret_bool (by rw [allUpto_t fun j hj => HK.out j (by omega)]), rfl⟩
theorem isName_any (s : ByteArray) (w : World) (hs : s.size ≤ maxLen) :
    Calls Tryz.prog 98 #[.string s] w fun e w' => e = .returned (.bool (isName s)) ∧ w = w' := by
  have hs' := hs
  unfold maxLen at hs
  by_cases h : 1 ≤ s.size ∧ s.size ≤ 10
  · obtain ⟨ha, hb⟩ := h
    have hlen : 0 < s.size := by omega
    have HB := Lib.hid (byte_at hlen)
    by_cases hc : (97 : Int) ≤ (s[0].toNat : Int) ∧ (s[0].toNat : Int) ≤ 122
    · have H3 : Hid (isName s = _) := isName_rest ⟨ha, hb⟩ (by rw [HB.out]; exact decide_eq_true hc)
      obtain ⟨hc1, hc2⟩ := hc
      go_enter Tryz.func98, Tryz.ntmps98
      go_wp2_with (go_at_call 116; refine (onlyNameBytes_any _ _ hs').mono ?_; rintro e w' ⟨rfl, rfl⟩)
      go_ret
      exact ⟨ret_bool H3.out.symm, rfl⟩
    · have H3 : Hid (isName s = false) := isName_head (by rw [HB.out]; exact decide_eq_false hc)
      go_enter Tryz.func98, Tryz.ntmps98
      go_wp2_with (go_at_call 116; refine (onlyNameBytes_any _ _ hs').mono ?_; rintro e w' ⟨rfl, rfl⟩)
      all_goals
        first
        | (go_ret
           exact ⟨ret_bool H3.out.symm, rfl⟩)
        | (exfalso; omega)
  · have H3 : Hid (isName s = false) := isName_len h
    go_enter Tryz.func98, Tryz.ntmps98
    go_wp2_with (go_at_call 116; refine (onlyNameBytes_any _ _ hs').mono ?_; rintro e w' ⟨rfl, rfl⟩)
    all_goals
      first
      | (go_ret
         exact ⟨ret_bool H3.out.symm, rfl⟩)
      | (exfalso; omega)
end Go.Proofs.YtjmhhbjbmgpagaaGreat

/- Contracts of the functions on the density of air and the draught of a column. -/
namespace Go.Proofs.YtjmhhbjbmgpagaaGreat
set_option linter.unusedVariables false
set_option linter.unusedSimpArgs false
open Go.RowKit
def warmT (t : Int) : Int := dr 3531183 (2731 + t)
def warmR (t : Int) : Int × Int := if inB t (-300) 600 = true then (warmT t, 0) else (0, 2)
theorem warmT_bnd (t : Int) (h : inB t (-300) 600 = true) : 0 ≤ warmT t ∧ warmT t ≤ 3531183 := by
  have := inB_t h
  exact ⟨dr_nonneg (by omega) (by omega), (dr_bnd (m := 3531183) (by omega) (by omega) (by omega)).2⟩
def columnT (r t : Int) : Int := dr (981 * (1200 - warmT t) * r) 100000
def columnR (r t : Int) : Int × Int := if inB r (-6000) 6000 = true ∧ inB t (-300) 600 = true then (columnT r t, 0) else (0, 2)
theorem column_bnd (r t : Int) (hr : inB r (-6000) 6000 = true) (ht : inB t (-300) 600 = true) :
    -100000000000000 ≤ 981 * (1200 - warmT t) * r ∧ 981 * (1200 - warmT t) * r ≤ 100000000000000 := by
  have := warmT_bnd t ht
  have := inB_t hr
  exact mul_bnd (X := 3464090523) (Y := 6000) (by omega) (by omega) (by omega) (by omega) (by omega)
end Go.Proofs.YtjmhhbjbmgpagaaGreat

/- Contracts of resistances and conductances. -/
namespace Go.Proofs.YtjmhhbjbmgpagaaGreat
set_option linter.unusedVariables false
set_option linter.unusedSimpArgs false
open Go.RowKit
def isRes (r : Int) : Bool := inB r 1 1000000
theorem isRes_t {r : Int} (h : isRes r = true) : 1 ≤ r ∧ r ≤ 1000000 := inB_t h
def cond (r : Int) : Int := rootI (10000000000000000 / r)
def condR (r : Int) : Int × Int := if isRes r = true then (cond r, 0) else (0, 2)
def orifR (r : Int) : Int × Int := if isRes r = true then (rootI (14161000000 / r), 0) else (0, 2)
theorem quo_bnd {a r : Int} (ha : 0 ≤ a) (h : isRes r = true) : 0 ≤ a / r ∧ a / r ≤ a := ediv_bounds ha (by have := isRes_t h; omega) (Int.le_refl _)
theorem cond_bnd {r : Int} (h : isRes r = true) : 100000 ≤ cond r ∧ cond r ≤ 100000000 := by
  have h1 := isRes_t h
  have h2 := quo_bnd (a := 10000000000000000) (by omega) h
  refine ⟨?_, (rootI_bnd (n := 10000000000000000 / r) (M := 100000000) (m := 0) (by omega) (by omega)).2⟩
  refine (rootI_le (by omega)).2 (.inr ?_)
  have h3 : 10000000000 ≤ 10000000000000000 / r := by
    apply Int.le_ediv_of_mul_le (by omega)
    omega
  omega
theorem l03Res_any (r : Int) (w : World) :
    Calls Tryz.prog 55 #[.int .i64 r] w fun e w' => e = .returned (.bool (isRes r)) ∧ w = w' := by
  go_enter Tryz.func55, Tryz.ntmps55
  go_wp2_with (go_at_call 22; refine (l00In_any _ _ _ _).mono ?_; rintro e w' ⟨rfl, rfl⟩)
  go_ret
  exact ⟨rfl, rfl⟩
end Go.Proofs.YtjmhhbjbmgpagaaGreat

/- Contracts on lists of numbers: sums, bounds, series, drops. -/
namespace Go.Proofs.YtjmhhbjbmgpagaaGreat
set_option linter.unusedVariables false
set_option linter.unusedSimpArgs false
open Go.RowKit
theorem l00Min_any (a b : Int) (w : World) :
    Calls Tryz.prog 97 #[.int .i64 a, .int .i64 b] w fun e w' => e = .returned (.int .i64 (min a b)) ∧ w = w' := by
  go_enter Tryz.func97, Tryz.ntmps97
  go_wp2
  all_goals
    go_ret
    exact ⟨ret_int (by omega), rfl⟩
theorem l00Max_any (a b : Int) (w : World) :
    Calls Tryz.prog 91 #[.int .i64 a, .int .i64 b] w fun e w' => e = .returned (.int .i64 (max a b)) ∧ w = w' := by
  go_enter Tryz.func91, Tryz.ntmps91
  go_wp2
  all_goals
    go_ret
    exact ⟨ret_int (by omega), rfl⟩
theorem l03Abs_any (a : Int) (w : World) (h1 : -9223372036854775807 ≤ a) (h2 : a ≤ 9223372036854775807) :
    Calls Tryz.prog 92 #[.int .i64 a] w fun e w' => e = .returned (.int .i64 (absI a)) ∧ w = w' := by
  go_enter Tryz.func92, Tryz.ntmps92
  go_wp2_with fail; ((with_reducible refine (l00Max_any _ _ _).mono ?_); rintro e w' ⟨rfl, rfl⟩)
  go_wp2
  go_ret
  exact ⟨ret_int (by unfold absI; omega), rfl⟩
def isFlow (q : Int) : Bool := inB q (-100000) 100000
theorem isFlow_t {q : Int} (h : isFlow q = true) : -100000 ≤ q ∧ q ≤ 100000 := inB_t h
theorem l03Flow_any (r : Int) (w : World) :
    Calls Tryz.prog 56 #[.int .i64 r] w fun e w' => e = .returned (.bool (isFlow r)) ∧ w = w' := by
  go_enter Tryz.func56, Tryz.ntmps56
  go_wp2_with fail; ((with_reducible refine (l00In_any _ _ _ _).mono ?_); rintro e w' ⟨rfl, rfl⟩)
  go_wp2
  go_ret
  exact ⟨rfl, rfl⟩
def drop (r q : Int) : Int := dr (r * q * absI q) 10000000000
theorem drop_in {r q : Int} (hr : isRes r = true) (hq : isFlow q = true) : -100000000000 ≤ r * q ∧ r * q ≤ 100000000000 ∧ -10000000000000000 ≤ r * q * absI q ∧ r * q * absI q ≤ 10000000000000000 := by
  obtain ⟨h1, h2⟩ := isRes_t hr
  obtain ⟨h3, h4⟩ := isFlow_t hq
  obtain ⟨h5, h6⟩ := mul_bnd (x := r) (y := q) (X := 1000000) (Y := 100000) (M := 100000000000) (by omega) (by omega) (by omega) (by omega) (by omega)
  have h7 := absI_nonneg q
  have h8 := absI_le (n := q) (b := 100000) (by omega) (by omega)
  obtain ⟨h9, h10⟩ := mul_bnd (x := r * q) (y := absI q) (X := 100000000000) (Y := 100000) (M := 10000000000000000) (by omega) (by omega) (by omega) (by omega) (by omega)
  exact ⟨h5, h6, h9, h10⟩
theorem drop_bnd {r q : Int} (hr : isRes r = true) (hq : isFlow q = true) : -1000000 ≤ drop r q ∧ drop r q ≤ 1000000 := by
  obtain ⟨_, _, h1, h2⟩ := drop_in hr hq
  exact dr_scale (by omega) (by omega) (by omega)
theorem dr_mono {a b c : Int} (hc : 0 < c) (h : a ≤ b) : dr a c ≤ dr b c := by
  have key : ∀ x : Int, dr x c = if x < 0 then -((2 * (-x) + c) / (2 * c)) else (2 * x + c) / (2 * c) := by
    intro x; unfold dr
    by_cases hx : x < 0
    · rw [if_pos hx, if_pos hx]
      have e : c - 2 * x = 2 * (-x) + c := by omega
      rw [e]
    · rw [if_neg hx, if_neg hx]
  rw [key, key]
  have n1 : ∀ x : Int, 0 ≤ x → 0 ≤ (2 * x + c) / (2 * c) := fun x hx => Int.ediv_nonneg (by omega) (by omega)
  by_cases ha : a < 0 <;> by_cases hb : b < 0
  · rw [if_pos ha, if_pos hb]
    have := Int.ediv_le_ediv (c := 2 * c) (by omega) (show 2 * (-b) + c ≤ 2 * (-a) + c by omega)
    omega
  · rw [if_pos ha, if_neg hb]
    have h1 := n1 (-a) (by omega)
    have h2 := n1 b (by omega)
    omega
  · omega
  · rw [if_neg ha, if_neg hb]
    exact Int.ediv_le_ediv (by omega) (by omega)
theorem l03Drop_any (r q : Int) (w : World) (hr : isRes r = true) (hq : isFlow q = true) :
    Calls Tryz.prog 114 #[.int .i64 r, .int .i64 q] w fun e w' => e = .returned (.int .i64 (drop r q)) ∧ w = w' := by
  obtain ⟨h1, h2, h3, h4⟩ := drop_in hr hq
  obtain ⟨h5, h6⟩ := isFlow_t hq
  clear hr hq
  go_enter Tryz.func114, Tryz.ntmps114
  go_wp2_with fail; ((with_reducible refine (l03Abs_any _ _ (by omega) (by omega)).mono ?_); rintro e w' ⟨rfl, rfl⟩)
  go_wp2_with fail; ((with_reducible refine (l01Div_any _ _ _ (by omega) (by omega) (by omega) (by omega)).mono ?_); rintro e w' ⟨rfl, rfl⟩)
  go_wp2
  go_ret
  exact ⟨rfl, rfl⟩
theorem dropOf_any (r q : Int) (w : World) (hr : isRes r = true) (hq : isFlow q = true) :
    Calls Tryz.prog 107 #[.int .i64 r, .int .i64 q] w fun e w' => e = .returned (.int .i64 (drop r q)) ∧ ∃ n, w' = w.drewN n := by
  obtain ⟨h1, h2, h3, h4⟩ := drop_in hr hq
  obtain ⟨h5, h6⟩ := isFlow_t hq
  clear hr hq
  go_enter Tryz.func107, Tryz.ntmps107
  go_wp2_with fail; ((with_reducible refine (abs_any _ _ (by omega) (by omega)).mono ?_); rintro e w' ⟨rfl, rfl⟩)
  go_wp2_with fail; ((with_reducible refine (divRound_any _ _ _ (by omega) (by omega) (by omega) (by omega)).mono ?_); rintro e w' ⟨rfl, n1, rfl⟩)
  go_wp2
  go_ret
  exact ⟨rfl, _, rfl⟩
def resList (xs : List Int) : Bool := decide (1 ≤ xs.length ∧ xs.length ≤ 24) && allIn 1 1000000 xs
theorem resList_t {xs : List Int} (h : resList xs = true) : (1 ≤ xs.length ∧ xs.length ≤ 24) ∧ allIn 1 1000000 xs = true := by
  unfold resList at h
  rw [Bool.and_eq_true, decide_eq_true_eq] at h
  exact h
def dropList (xs : List Int) : Bool := decide (xs.length ≤ 64) && allIn (-10000) 10000 xs
theorem dropList_t {xs : List Int} (h : dropList xs = true) : xs.length ≤ 64 ∧ allIn (-10000) 10000 xs = true := by
  unfold dropList at h
  rw [Bool.and_eq_true, decide_eq_true_eq] at h
  exact h
def serR (xs : List Int) : Int × Int := if resList xs = true then (if 1000000 < sumI xs then (0, 6) else (sumI xs, 0)) else (0, 2)
theorem serR_ok {xs : List Int} (h : resList xs = true) (hs : ¬ 1000000 < sumI xs) : serR xs = (sumI xs, 0) := by unfold serR; rw [if_pos h, if_neg hs]
theorem serR_big {xs : List Int} (h : resList xs = true) (hs : 1000000 < sumI xs) : serR xs = (0, 6) := by unfold serR; rw [if_pos h, if_pos hs]
theorem res_range {xs : List Int} (h : resList xs = true) : ∀ x ∈ xs, -1000000 ≤ x ∧ x ≤ 1000000 := fun x hx => by
  have := allIn_mem (resList_t h).2 hx; omega
end Go.Proofs.YtjmhhbjbmgpagaaGreat

/- Contracts of locks of doors. -/
namespace Go.Proofs.YtjmhhbjbmgpagaaGreat
set_option linter.unusedVariables false
set_option linter.unusedSimpArgs false
open Go.RowKit
theorem quietB' {P : Program} {f : FuncId} {args : Array Value} {w : World} {n : Nat} {b c : Bool}
    (h : Calls P f args (w.drewN n) fun e w' => e = .returned (.bool b) ∧ w.drewN n = w') (hb : b = c) : Calls P f args (w.drewN n) fun e w'' => e = .returned (.bool c) ∧ ∃ m, w'' = w.drewN m :=
  h.mono fun _ _ ⟨he, hm⟩ => ⟨by rw [he, hb], n, hm.symm⟩
def lockN (ls : List (List Int)) (k : Nat) : Nat := (ls.getD k []).length
def lockA (ls : List (List Int)) (k : Nat) : Int := (ls.getD k []).getD 0 0
def lockB (ls : List (List Int)) (k : Nat) : Int := (ls.getD k []).getD 1 0
def lockLt (ls : List (List Int)) (k : Nat) : Bool := decide (lockA ls (k - 1) < lockA ls k ∨ lockA ls (k - 1) = lockA ls k ∧ lockB ls (k - 1) < lockB ls k)
def lkAt (d : Int) (ls : List (List Int)) (k : Nat) : Bool :=
  decide (lockN ls k = 2) && inB (lockB ls k) 0 (d - 1) && inB (lockA ls k) 0 (lockB ls k - 1) && (decide (k = 0) || lockLt ls k)
def locksOk (d : Int) (ls : List (List Int)) : Bool := inB d 0 8 && decide (ls.length ≤ 12) && allUpto ls.length (lkAt d ls)
theorem upto_succ {f : Nat → Bool} {k : Nat} (h : ∀ j, j < k → f j = true) (h1 : f k = true) : ∀ j, j < k + 1 → f j = true := by
  intro j hj
  rcases Nat.lt_succ_iff_lt_or_eq.1 hj with h2 | rfl
  · exact h j h2
  · exact h1
theorem getD_at {α : Type} {l : List α} {k : Nat} {x d : α} (h : l[k]? = some x) : l.getD k d = x := by rw [List.getD_eq_getElem?_getD, h]; rfl
theorem lock_row {ls : List (List Int)} {k : Nat} {x : List Int} (h : ls[k]? = some x) : lockN ls k = x.length ∧ lockA ls k = x.getD 0 0 ∧ lockB ls k = x.getD 1 0 := by
  unfold lockN lockA lockB; rw [getD_at h]; exact ⟨rfl, rfl, rfl⟩
theorem lk_n {d : Int} {ls : List (List Int)} {k : Nat} (h : lockN ls k ≠ 2) : lkAt d ls k = false := by unfold lkAt; rw [decide_eq_false h]; rfl
theorem lk_b {d : Int} {ls : List (List Int)} {k : Nat} (h : inB (lockB ls k) 0 (d - 1) = false) : lkAt d ls k = false := by unfold lkAt; rw [h]; simp
theorem lk_a {d : Int} {ls : List (List Int)} {k : Nat} (h : inB (lockA ls k) 0 (lockB ls k - 1) = false) : lkAt d ls k = false := by unfold lkAt; rw [h]; simp
theorem lk_p {d : Int} {ls : List (List Int)} {k : Nat} (h0 : k ≠ 0) (h : lockLt ls k = false) : lkAt d ls k = false := by unfold lkAt; rw [h, decide_eq_false h0]; simp
theorem lk_y {d : Int} {ls : List (List Int)} {k : Nat} (h1 : lockN ls k = 2) (h2 : inB (lockB ls k) 0 (d - 1) = true) (h3 : inB (lockA ls k) 0 (lockB ls k - 1) = true) (h4 : k = 0 ∨ lockLt ls k = true) : lkAt d ls k = true := by
  unfold lkAt; rw [decide_eq_true h1, h2, h3]
  rcases h4 with h | h
  · rw [decide_eq_true h]; rfl
  · rw [h]; simp
theorem lk_two {d : Int} {ls : List (List Int)} {k : Nat} (h : lkAt d ls k = true) : lockN ls k = 2 ∧ inB (lockB ls k) 0 (d - 1) = true ∧ inB (lockA ls k) 0 (lockB ls k - 1) = true := by
  unfold lkAt at h
  simp only [Bool.and_eq_true, decide_eq_true_eq] at h
  exact ⟨h.1.1.1, h.1.1.2, h.1.2⟩
/-- A row of two numbers, opened. -/
theorem open_two {w : World} {B : Nat} {r : Row} (h : Reads w B 1 r.A r.n (ints r.xs)) (h2 : r.xs.length = 2) :
    ∃ ra, r.A = some ra ∧ r.n = 2 ∧ w.cell? ra = some (.int .i64 (r.xs.getD 0 0)) ∧ w.cell? (ra.add 0) = some (.int .i64 (r.xs.getD 0 0)) ∧ w.cell? ⟨ra.block, ra.off + 1, none⟩ = some (.int .i64 (r.xs.getD 1 0)) := by
  have hn : r.n = 2 := by have := ints_len h; omega
  obtain ⟨ra, u, h3, _, h4, h5⟩ := h.at_ (k := 0) (by omega)
  obtain ⟨ra', u', h6, _, h7, h8⟩ := h.at_ (k := 1) (by omega)
  rw [h3] at h6
  injection h6 with h6
  subst h6
  obtain ⟨b, h9, rfl⟩ := ints_at h4
  obtain ⟨b', h10, rfl⟩ := ints_at h7
  rw [getD_at h9, getD_at h10]
  exact ⟨ra, h3, hn, h5, h5, h8⟩
end Go.Proofs.YtjmhhbjbmgpagaaGreat

/- Records of the kind Airway: their cells, and the contracts of the laws' helpers on them. -/
namespace Go.Proofs.YtjmhhbjbmgpagaaGreat
set_option linter.unusedVariables false
set_option linter.unusedSimpArgs false
open Go.RowKit
structure Awy where
  s : ByteArray
  a : Int
  b : Int
  l : Int
  c : Int
  f : Int
  h : Int
instance : Inhabited Awy := ⟨⟨ByteArray.empty, 0, 0, 0, 0, 0, 0⟩⟩
def Awy.cells (x : Awy) : List Value := [.string x.s, .int .i64 x.a, .int .i64 x.b, .int .i64 x.l, .int .i64 x.c, .int .i64 x.f, .int .i64 x.h]
def Awy.val (x : Awy) : Value := .agg #[.string x.s, .int .i64 x.a, .int .i64 x.b, .int .i64 x.l, .int .i64 x.c, .int .i64 x.f, .int .i64 x.h]
theorem Awy.clen (x : Awy) : x.cells.length = 7 := rfl
def Awy.len (x : Awy) : Nat := x.s.size
theorem Awy.one (x : Awy) : ∀ u ∈ x.cells, u.oneCell' = true := by
  intro u hu
  simp only [Awy.cells, List.mem_cons, List.not_mem_nil, or_false] at hu
  rcases hu with rfl | rfl | rfl | rfl | rfl | rfl | rfl <;> rfl
abbrev Awy.recs (xs : List Awy) : List Value := Go.Proofs.YtjmhhbjbmgpagaaGreat.recs Awy.cells xs
theorem Awy.open_ {w : World} {p : Addr} {x : Awy} (h : Cells w p x.cells) : w.cell? p = some (.string x.s) ∧ w.cell? ⟨p.block, p.off + 1, none⟩ = some (.int .i64 x.a) ∧ w.cell? ⟨p.block, p.off + 2, none⟩ = some (.int .i64 x.b) ∧ w.cell? ⟨p.block, p.off + 3, none⟩ = some (.int .i64 x.l) ∧ w.cell? ⟨p.block, p.off + 4, none⟩ = some (.int .i64 x.c) ∧ w.cell? ⟨p.block, p.off + 5, none⟩ = some (.int .i64 x.f) ∧ w.cell? ⟨p.block, p.off + 6, none⟩ = some (.int .i64 x.h) :=
  ⟨h.z rfl, h.at_ 0 rfl, h.at_ 1 rfl, h.at_ 2 rfl, h.at_ 3 rfl, h.at_ 4 rfl, h.at_ 5 rfl⟩
theorem Awy.shut_ {w : World} {g : Nat} {x : Awy} (h0 : w.cell? ⟨g, 0, none⟩ = some (.string x.s)) (h1 : w.cell? ⟨g, 1, none⟩ = some (.int .i64 x.a)) (h2 : w.cell? ⟨g, 2, none⟩ = some (.int .i64 x.b)) (h3 : w.cell? ⟨g, 3, none⟩ = some (.int .i64 x.l)) (h4 : w.cell? ⟨g, 4, none⟩ = some (.int .i64 x.c)) (h5 : w.cell? ⟨g, 5, none⟩ = some (.int .i64 x.f)) (h6 : w.cell? ⟨g, 6, none⟩ = some (.int .i64 x.h)) : Cells w ⟨g, 0, none⟩ x.cells := by
  intro j u e
  have hj : j < 7 := by
    rcases Nat.lt_or_ge j 7 with h | h
    · exact h
    · rw [List.getElem?_eq_none (by rw [Awy.clen]; exact h)] at e; cases e
  match j, hj with
  | 0, _ => obtain rfl := Option.some.inj e; exact h0
  | 1, _ => obtain rfl := Option.some.inj e; exact h1
  | 2, _ => obtain rfl := Option.some.inj e; exact h2
  | 3, _ => obtain rfl := Option.some.inj e; exact h3
  | 4, _ => obtain rfl := Option.some.inj e; exact h4
  | 5, _ => obtain rfl := Option.some.inj e; exact h5
  | 6, _ => obtain rfl := Option.some.inj e; exact h6
theorem szAwy_any (x : Awy) (l : Int) (w : World) (hs : x.s.size ≤ maxLen) (h1 : 0 ≤ l) (h2 : l ≤ 1048576) :
    Calls Tryz.prog 50 #[.agg #[.string x.s, .int .i64 x.a, .int .i64 x.b, .int .i64 x.l, .int .i64 x.c, .int .i64 x.f, .int .i64 x.h], .int .i64 l] w fun e w' => e = .returned (.int .i64 (szI l x.s.size)) ∧ Below w.heap.size w w' := by
  unfold maxLen at hs
  by_cases h : l < x.s.size
  all_goals
    go_enter Tryz.func50, Tryz.ntmps50
    go_wp2
    go_ret
    exact ⟨ret_int (by unfold szI; split <;> omega), (Below.refl _ _).alloc (Nat.le_refl _) _⟩
set_option maxHeartbeats 800000 in
theorem szAwyS_any (A : Option Addr) (n c : Nat) (xs : List Awy) (l : Int) (w : World) (hr : Reads w w.heap.size 7 A n (Awy.recs xs)) (h1 : 0 ≤ l) (h2 : l ≤ 1048576) (hn : n ≤ maxLen) (hxs : ∀ x ∈ xs, x.s.size ≤ maxLen) :
    Calls Tryz.prog 18 #[.slice A n c, .int .i64 l] w fun e w' => e = .returned (.int .i64 (szI l (n + sumN Awy.len xs))) ∧ Below w.heap.size w w' := by
  unfold maxLen at hn
  have HL := Lib.hid (recs_rlen Awy.clen (by omega) hr)
  have HM := Lib.hid hxs
  have t0 := sumN_nonneg Awy.len xs
  clear hxs
  by_cases hb : l < n
  · have HS := Lib.hid (szI_n (l := l) (s := n + sumN Awy.len xs) (by omega))
    go_enter Tryz.func18, Tryz.ntmps18
    go_wp2
    go_ret
    exact ⟨ret_int HS.out.symm, Below.refl _ _⟩
  · go_enter Tryz.func18, Tryz.ntmps18
    go_wp2
    go_loopw [1, 5] (fun s i wr => ∃ k : Nat, k ≤ n ∧ i = .int .i64 k ∧ s = .int .i64 (l - n - sumN Awy.len (xs.take k)) ∧ n + sumN Awy.len (xs.take k) ≤ l ∧ Below w.heap.size w wr) (fun _ i _ => n - (intOf i).toNat)
    case atStart => exact ⟨0, by omega, rfl, by simp [sumN], by simp [sumN]; omega, Below.refl _ _⟩
    case round =>
      obtain ⟨k, hk, rfl, rfl, hok, hbr⟩ := hrel
      have p0 := sumN_nonneg Awy.len (xs.take k)
      by_cases hlt : k < n
      · obtain ⟨ad, x, rfl, had, hx, hc⟩ := (hr.below hbr).rec_at Awy.clen (by omega) hlt
        have HX := Lib.hid (sumN_snoc (f := Awy.len) hx)
        have HT := Lib.hid (sumN_take Awy.len xs (k + 1))
        have hm := HM.out x (List.mem_of_getElem? hx)
        obtain ⟨h0, h1, h2, h3, h4, h5, h6⟩ := Awy.open_ hc
        clear hx hc
        by_cases hs : l - n - sumN Awy.len (xs.take k) < x.s.size
        · have HS := Lib.hid (szI_n (l := l) (s := n + sumN Awy.len xs) (by have := HX.out; have := HT.out; simp only [Awy.len] at *; omega))
          have cc := szAwy_any x (l - n - sumN Awy.len (xs.take k)) wr hm (by omega) (by omega)
          rw [szI_n hs] at cc
          go_wp2_with fail; ((with_reducible refine cc.mono ?_); rintro e w1 ⟨rfl, hb1⟩)
          go_wp2
          go_ret
          exact ⟨ret_int HS.out.symm, hbr.trans (hb1.mono hbr.size)⟩
        · have cc := szAwy_any x (l - n - sumN Awy.len (xs.take k)) wr hm (by omega) (by omega)
          rw [szI_y hs] at cc
          go_wp2_with fail; ((with_reducible refine cc.mono ?_); rintro e w1 ⟨rfl, hb1⟩)
          go_wp2
          go_roundw
          case rel => exact ⟨k + 1, by omega, by go_num, by rw [HX.out]; exact congrArg (Value.int .i64) (by simp only [Awy.len]; omega), by rw [HX.out]; simp only [Awy.len]; omega, hbr.trans (hb1.mono hbr.size)⟩
          case measure => simp [intOf]; omega
      · have e : k = n := by omega
        have HT : Hid (xs.take k = xs) := List.take_of_length_le (by rw [HL.out]; omega)
        rw [HT.out] at hok
        have HS := Lib.hid (szI_y (l := l) (s := n + sumN Awy.len xs) (by omega))
        go_wp2
        go_ret
        exact ⟨ret_int (by rw [HS.out, HT.out]; omega), hbr⟩
theorem toAwy_any (x : Awy) (w : World) (hs : x.s.size ≤ maxLen) :
    Calls Tryz.prog 65 #[.agg #[.string x.s, .int .i64 x.a, .int .i64 x.b, .int .i64 x.l, .int .i64 x.c, .int .i64 x.f, .int .i64 x.h]] w fun e w' => e = .returned (.agg #[.string x.s, .int .i64 x.a, .int .i64 x.b, .int .i64 x.l, .int .i64 x.c, .int .i64 x.f, .int .i64 x.h]) ∧ Below w.heap.size w w' := by
  go_enter Tryz.func65, Tryz.ntmps65
  go_wp2
  refine bodyPost_ret (v := .agg #[.string x.s, .int .i64 x.a, .int .i64 x.b, .int .i64 x.l, .int .i64 x.c, .int .i64 x.f, .int .i64 x.h]) (by simp [results, Tryz.results65, go_sem]) rfl ⟨rfl, ?_⟩
  (repeat (first | exact Below.refl _ _ | assumption | (refine Below.alloc ?_ (by first | exact Nat.le_refl _ | (simp; done) | (simp; omega)) _) | (refine below_drewN ?_ _) | (refine Below.trans ?_ (Below.mono (by assumption) (by first | exact Nat.le_refl _ | (simp; done) | (simp; omega) | omega)))))
theorem info_Awy : (Tryz.prog.info? 78).map (fun i => (i.zero, i.size, i.bytes)) = some (some (.agg #[.string ByteArray.empty, .int .i64 0, .int .i64 0, .int .i64 0, .int .i64 0, .int .i64 0, .int .i64 0]), 7, 64) := by kernel_rfl
set_option maxHeartbeats 1600000 in
theorem toAwyS_any (A : Option Addr) (n c : Nat) (xs : List Awy) (w : World) (hr : Reads w w.heap.size 7 A n (Awy.recs xs)) (hn : n ≤ 1048576) (hxs : ∀ x ∈ xs, x.s.size ≤ maxLen) :
    Calls Tryz.prog 29 #[.slice A n c] w fun e w' => e = .returned (.slice (some ⟨w.heap.size, 0, none⟩) n n) ∧ w'.ownsRow w.heap.size 78 7 (.slice (some ⟨w.heap.size, 0, none⟩) n n) n (Awy.recs xs) ∧ Below w.heap.size w w' := by
  have HL := Lib.hid hr.1
  have HM := Lib.hid hxs
  clear hxs
  obtain ⟨i0, hi0, hz0, hz1, hz2⟩ := info_parts info_Awy
  have hmk := run_make_rowN (P := Tryz.prog) 31 78 i0 _ Tryz.underlying31 hi0 hz0 .i64 .i64 n n (Nat.le_refl _) (by rw [hz2]; omega) (by omega)
  rw [hz1] at hmk
  go_enter Tryz.func29, Tryz.ntmps29
  go_wp2
  go_loopw [4] (fun i wr => ∃ (k : Nat) (cur : Array Value), k ≤ n ∧ i = .int .i64 k ∧ Blk wr w.heap.size 78 cur ∧ Hid (cur.size = n * 7 ∧ ∀ j, j < k * 7 → cur[j]? = (Awy.recs xs)[j]?) ∧ Below w.heap.size w wr) (fun i _ => n - (intOf i).toNat)
  case atStart => exact ⟨0, _, by omega, rfl, Blk.new _ _ _, ⟨size_madeCells _ _, fun j hj => absurd hj (by omega)⟩, by (repeat (first | exact Below.refl _ _ | assumption | (refine Below.alloc ?_ (by first | exact Nat.le_refl _ | (simp; done) | (simp; omega)) _) | (refine below_drewN ?_ _) | (refine Below.trans ?_ (Below.mono (by assumption) (by first | exact Nat.le_refl _ | (simp; done) | (simp; omega) | omega)))))⟩
  case round =>
    obtain ⟨k, cur, hk, rfl, hbk, HC, hbw⟩ := hrel
    have hz := hbw.size
    have hgl := hbk.lt
    by_cases hlt : k < n
    · obtain ⟨ad, x, rfl, had, hx, hc⟩ := (hr.below hbw).rec_at Awy.clen (by omega) hlt
      have hm := HM.out x (List.mem_of_getElem? hx)
      have HX := Lib.hid (rel_set Awy.clen hx hlt HC.out.1 HC.out.2)
      obtain ⟨h0, h1, h2, h3, h4, h5, h6⟩ := Awy.open_ hc
      clear hx hc
      go_wp2_with fail; ((with_reducible refine (toAwy_any x _ hm).mono ?_); rintro e w1 ⟨rfl, hb1⟩)
      have hbk1 := hbk.below hb1 hgl
      have hcs : Hid (cur.size = n * 7) := HC.out.1
      have hkz : k * 7 + 6 < cur.size := by rw [hcs.out]; omega

      have o0 : w1.cell? ⟨w.heap.size, k * 7, none⟩ = some (cur[k * 7 + 0]'(by omega)) := by rw [hbk1.cell]; exact Array.getElem?_eq_getElem (by omega)
      have f0 := hbk1.frozen (k * 7)
      have o1 : w1.cell? ⟨w.heap.size, k * 7 + 1, none⟩ = some (cur[k * 7 + 1]'(by omega)) := by rw [hbk1.cell]; exact Array.getElem?_eq_getElem (by omega)
      have f1 := hbk1.frozen (k * 7 + 1)
      have o2 : w1.cell? ⟨w.heap.size, k * 7 + 2, none⟩ = some (cur[k * 7 + 2]'(by omega)) := by rw [hbk1.cell]; exact Array.getElem?_eq_getElem (by omega)
      have f2 := hbk1.frozen (k * 7 + 2)
      have o3 : w1.cell? ⟨w.heap.size, k * 7 + 3, none⟩ = some (cur[k * 7 + 3]'(by omega)) := by rw [hbk1.cell]; exact Array.getElem?_eq_getElem (by omega)
      have f3 := hbk1.frozen (k * 7 + 3)
      have o4 : w1.cell? ⟨w.heap.size, k * 7 + 4, none⟩ = some (cur[k * 7 + 4]'(by omega)) := by rw [hbk1.cell]; exact Array.getElem?_eq_getElem (by omega)
      have f4 := hbk1.frozen (k * 7 + 4)
      have o5 : w1.cell? ⟨w.heap.size, k * 7 + 5, none⟩ = some (cur[k * 7 + 5]'(by omega)) := by rw [hbk1.cell]; exact Array.getElem?_eq_getElem (by omega)
      have f5 := hbk1.frozen (k * 7 + 5)
      have o6 : w1.cell? ⟨w.heap.size, k * 7 + 6, none⟩ = some (cur[k * 7 + 6]'(by omega)) := by rw [hbk1.cell]; exact Array.getElem?_eq_getElem (by omega)
      have f6 := hbk1.frozen (k * 7 + 6)
      go_wp2
      go_roundw
      case rel => exact ⟨k + 1, _, by omega, by go_num, (((((((hbk1.set_ (k * 7) _).set_ (k * 7 + 1) _).set_ (k * 7 + 2) _).set_ (k * 7 + 3) _).set_ (k * 7 + 4) _).set_ (k * 7 + 5) _).set_ (k * 7 + 6) _), HX.out, ((((((((hbw.trans (hb1.mono hz)).setCell (by simp) _).setCell (by simp) _).setCell (by simp) _).setCell (by simp) _).setCell (by simp) _).setCell (by simp) _).setCell (by simp) _)⟩
      case measure => simp [intOf]; omega
    · have e : k = n := by omega
      subst e
      go_wp2
      go_ret
      exact ⟨rfl, own_of_blkZ hbk HL.out HC.out.1 (wfmax hn) HC.out.2, hbw⟩
theorem eqAwy_any (x : Awy) (w : World) :
    Calls Tryz.prog 83 #[.agg #[.string x.s, .int .i64 x.a, .int .i64 x.b, .int .i64 x.l, .int .i64 x.c, .int .i64 x.f, .int .i64 x.h], .agg #[.string x.s, .int .i64 x.a, .int .i64 x.b, .int .i64 x.l, .int .i64 x.c, .int .i64 x.f, .int .i64 x.h]] w fun e w' => e = .returned (.bool true) ∧ Below w.heap.size w w' := by
  go_enter Tryz.func83, Tryz.ntmps83
  go_wp2
  go_ret
  exact ⟨rfl, by (repeat (first | exact Below.refl _ _ | assumption | (refine Below.alloc ?_ (by first | exact Nat.le_refl _ | (simp; done) | (simp; omega)) _) | (refine below_drewN ?_ _) | (refine Below.trans ?_ (Below.mono (by assumption) (by first | exact Nat.le_refl _ | (simp; done) | (simp; omega) | omega)))))⟩
set_option maxHeartbeats 1600000 in
set_option maxRecDepth 100000 in
theorem eqAwyS_b (A B : Option Addr) (n c d : Nat) (xs : List Awy) (w : World) (hr : Reads w w.heap.size 7 A n (Awy.recs xs)) (hq : Reads w w.heap.size 7 B n (Awy.recs xs)) (hn : n ≤ 1099511627776) :
    Calls Tryz.prog 45 #[.slice A n c, .slice B n d] w fun e w' => e = .returned (.bool true) ∧ Below w.heap.size w w' := by
  go_enter Tryz.func45, Tryz.ntmps45
  go_wp2
  go_loopw [5] (fun i wr => ∃ (k : Nat), k ≤ n ∧ i = .int .i64 k ∧ Below w.heap.size w wr) (fun i _ => n - (intOf i).toNat)
  case atStart => exact ⟨0, by omega, rfl, Below.refl _ _⟩
  case round =>
    obtain ⟨k, hk, rfl, hbw⟩ := hrel
    have hz := hbw.size
    by_cases hlt : k < n
    · obtain ⟨ad, x, rfl, had, hx, hc⟩ := (hr.below hbw).rec_at Awy.clen (by omega) hlt
      obtain ⟨bd, x', rfl, hbd, hx', hc'⟩ := (hq.below hbw).rec_at Awy.clen (by omega) hlt
      obtain rfl : x = x' := by rw [hx] at hx'; exact Option.some.inj hx'
      obtain ⟨h0, h1, h2, h3, h4, h5, h6⟩ := Awy.open_ hc
      obtain ⟨k0, k1, k2, k3, k4, k5, k6⟩ := Awy.open_ hc'
      have hlt' : (k : Int) < (n : Int) := by omega
      clear hx hx' hc hc'
      go_wp2
      go_still_tail 8, (by kernel_rfl)
      go_wp2_with fail; ((with_reducible refine (eqAwy_any x _).mono ?_); rintro e w1 ⟨rfl, hb1⟩)
      go_wp2
      go_roundw
      case rel => exact ⟨k + 1, by omega, by go_num, (below_drewN hbw 1).trans (hb1.mono hz)⟩
      case measure => simp [intOf]; omega
    · go_wp2
      go_ret
      exact ⟨rfl, hbw⟩
set_option maxHeartbeats 3200000 in
theorem markAwyS_any (A : Option Addr) (n c : Nat) (xs : List Value) (k : Int) (base : Nat) (w : World) (hown : w.ownsRow base 78 7 (.slice A n c) n xs) (hn : n ≤ 1048576) (hk0 : 0 ≤ k) (hk1 : k ≤ 1073741824) :
    Calls Tryz.prog 47 #[.slice A n c, .int .i64 k] w fun e w' => e = .returned (.int .i64 (k + 7 * n)) ∧ w.grownBy w' (Value.ownBlock (.slice A n c)) := by
  rcases Nat.eq_zero_or_pos n with h0 | hpos
  · subst h0
    go_enter Tryz.func47, Tryz.ntmps47
    go_wp2
    go_loop [1, 5] (fun kk i => kk = .int .i64 k ∧ i = .int .i64 0) (fun _ _ => 0)
    case atStart => exact ⟨rfl, rfl⟩
    case round =>
      obtain ⟨rfl, rfl⟩ := hrel
      go_wp2
      go_ret
      exact ⟨ret_int (by omega), World.grownBy.refl _ _⟩
  · rcases hown.2 with ⟨_, h0⟩ | ⟨g, cap, cur, hv, hbg, hgb, hnc, hcm, hcs, htake⟩
    · exfalso
      have h1 := hown.1
      rw [h0] at h1
      simp at h1; omega
    injection hv with hA _ hc
    subst hA
    subst hc
    have hBlk : Blk w g 78 cur := hgb
    have HS := Lib.hid hcs
    clear hcs htake
    have hgl := hBlk.lt
    go_enter Tryz.func47, Tryz.ntmps47
    go_wp2
    go_loopw [1, 5] (fun kk i wr => ∃ (j : Nat) (cu : Array Value), j ≤ n ∧ kk = .int .i64 (k + 7 * j) ∧ i = .int .i64 j ∧ Blk wr g 78 cu ∧ Hid (cu.size = cur.size) ∧ w.grownBy wr (some g)) (fun _ i _ => n - (intOf i).toNat)
    case atStart => exact ⟨0, cur, by omega, by go_num, rfl, hBlk, rfl, World.grownBy.refl _ _⟩
    case round =>
      obtain ⟨j, cu, hj, rfl, rfl, hbk, HC, hgr⟩ := hrel
      by_cases hlt : j < n
      · have hgw := hbk.lt
        have hks : k + 7 * (j : Int) ≤ 1099511627776 := by omega
        have hks0 : 0 ≤ k + 7 * (j : Int) := by omega
        go_wp2_with fail; ((with_reducible refine (markText_any _ _ hks0 hks).mono ?_); rintro e w1 ⟨ms, rfl, hb1⟩)
        have hbk1 := hbk.below hb1 hgw
        have hjz : j * 7 + 6 < cu.size := by rw [HC.out, HS.out]; omega
        have o0 : w1.cell? ⟨g, j * 7, none⟩ = some (cu[j * 7 + 0]'(by omega)) := by rw [hbk1.cell]; exact Array.getElem?_eq_getElem (by omega)
        have f0 := hbk1.frozen (j * 7)
        have o1 : w1.cell? ⟨g, j * 7 + 1, none⟩ = some (cu[j * 7 + 1]'(by omega)) := by rw [hbk1.cell]; exact Array.getElem?_eq_getElem (by omega)
        have f1 := hbk1.frozen (j * 7 + 1)
        have o2 : w1.cell? ⟨g, j * 7 + 2, none⟩ = some (cu[j * 7 + 2]'(by omega)) := by rw [hbk1.cell]; exact Array.getElem?_eq_getElem (by omega)
        have f2 := hbk1.frozen (j * 7 + 2)
        have o3 : w1.cell? ⟨g, j * 7 + 3, none⟩ = some (cu[j * 7 + 3]'(by omega)) := by rw [hbk1.cell]; exact Array.getElem?_eq_getElem (by omega)
        have f3 := hbk1.frozen (j * 7 + 3)
        have o4 : w1.cell? ⟨g, j * 7 + 4, none⟩ = some (cu[j * 7 + 4]'(by omega)) := by rw [hbk1.cell]; exact Array.getElem?_eq_getElem (by omega)
        have f4 := hbk1.frozen (j * 7 + 4)
        have o5 : w1.cell? ⟨g, j * 7 + 5, none⟩ = some (cu[j * 7 + 5]'(by omega)) := by rw [hbk1.cell]; exact Array.getElem?_eq_getElem (by omega)
        have f5 := hbk1.frozen (j * 7 + 5)
        have o6 : w1.cell? ⟨g, j * 7 + 6, none⟩ = some (cu[j * 7 + 6]'(by omega)) := by rw [hbk1.cell]; exact Array.getElem?_eq_getElem (by omega)
        have f6 := hbk1.frozen (j * 7 + 6)
        go_wp2
        go_roundw
        case rel => exact ⟨j + 1, _, by omega, by go_num, by go_num, (((((((hbk1.set_ (j * 7) _).set_ (j * 7 + 1) _).set_ (j * 7 + 2) _).set_ (j * 7 + 3) _).set_ (j * 7 + 4) _).set_ (j * 7 + 5) _).set_ (j * 7 + 6) _), by show _ = _; simpa using HC.out, (only_setCell (only_setCell (only_setCell (only_setCell (only_setCell (only_setCell (only_setCell (grown_below hgr hb1) (.inl rfl) _) (.inl rfl) _) (.inl rfl) _) (.inl rfl) _) (.inl rfl) _) (.inl rfl) _) (.inl rfl) _)⟩
        case measure => simp [intOf]; omega
      · have e : j = n := by omega
        subst e
        go_wp2
        go_ret
        exact ⟨rfl, hgr⟩
end Go.Proofs.YtjmhhbjbmgpagaaGreat

/- Records of the kind Door: their cells, and the contracts of the laws' helpers on them. -/
namespace Go.Proofs.YtjmhhbjbmgpagaaGreat
set_option linter.unusedVariables false
set_option linter.unusedSimpArgs false
open Go.RowKit
structure Dor where
  s : ByteArray
  a : Int
  b : Int
  c : Int
instance : Inhabited Dor := ⟨⟨ByteArray.empty, 0, 0, 0⟩⟩
def Dor.cells (x : Dor) : List Value := [.string x.s, .int .i64 x.a, .int .i64 x.b, .int .i64 x.c]
def Dor.val (x : Dor) : Value := .agg #[.string x.s, .int .i64 x.a, .int .i64 x.b, .int .i64 x.c]
theorem Dor.clen (x : Dor) : x.cells.length = 4 := rfl
def Dor.len (x : Dor) : Nat := x.s.size
theorem Dor.one (x : Dor) : ∀ u ∈ x.cells, u.oneCell' = true := by
  intro u hu
  simp only [Dor.cells, List.mem_cons, List.not_mem_nil, or_false] at hu
  rcases hu with rfl | rfl | rfl | rfl <;> rfl
abbrev Dor.recs (xs : List Dor) : List Value := Go.Proofs.YtjmhhbjbmgpagaaGreat.recs Dor.cells xs
theorem Dor.open_ {w : World} {p : Addr} {x : Dor} (h : Cells w p x.cells) : w.cell? p = some (.string x.s) ∧ w.cell? ⟨p.block, p.off + 1, none⟩ = some (.int .i64 x.a) ∧ w.cell? ⟨p.block, p.off + 2, none⟩ = some (.int .i64 x.b) ∧ w.cell? ⟨p.block, p.off + 3, none⟩ = some (.int .i64 x.c) :=
  ⟨h.z rfl, h.at_ 0 rfl, h.at_ 1 rfl, h.at_ 2 rfl⟩
theorem Dor.shut_ {w : World} {g : Nat} {x : Dor} (h0 : w.cell? ⟨g, 0, none⟩ = some (.string x.s)) (h1 : w.cell? ⟨g, 1, none⟩ = some (.int .i64 x.a)) (h2 : w.cell? ⟨g, 2, none⟩ = some (.int .i64 x.b)) (h3 : w.cell? ⟨g, 3, none⟩ = some (.int .i64 x.c)) : Cells w ⟨g, 0, none⟩ x.cells := by
  intro j u e
  have hj : j < 4 := by
    rcases Nat.lt_or_ge j 4 with h | h
    · exact h
    · rw [List.getElem?_eq_none (by rw [Dor.clen]; exact h)] at e; cases e
  match j, hj with
  | 0, _ => obtain rfl := Option.some.inj e; exact h0
  | 1, _ => obtain rfl := Option.some.inj e; exact h1
  | 2, _ => obtain rfl := Option.some.inj e; exact h2
  | 3, _ => obtain rfl := Option.some.inj e; exact h3
end Go.Proofs.YtjmhhbjbmgpagaaGreat

/- Records of the kind Survey: their cells, and the contracts of the laws' helpers on them. -/
namespace Go.Proofs.YtjmhhbjbmgpagaaGreat
set_option linter.unusedVariables false
set_option linter.unusedSimpArgs false
open Go.RowKit
structure Svy where
  s : ByteArray
  d : Int
  e : Int
  f : Int
  g : Int
instance : Inhabited Svy := ⟨⟨ByteArray.empty, 0, 0, 0, 0⟩⟩
def Svy.cells (x : Svy) : List Value := [.string x.s, .int .i64 x.d, .int .i64 x.e, .int .i64 x.f, .int .i64 x.g]
def Svy.val (x : Svy) : Value := .agg #[.string x.s, .int .i64 x.d, .int .i64 x.e, .int .i64 x.f, .int .i64 x.g]
theorem Svy.clen (x : Svy) : x.cells.length = 5 := rfl
def Svy.len (x : Svy) : Nat := x.s.size
theorem Svy.one (x : Svy) : ∀ u ∈ x.cells, u.oneCell' = true := by
  intro u hu
  simp only [Svy.cells, List.mem_cons, List.not_mem_nil, or_false] at hu
  rcases hu with rfl | rfl | rfl | rfl | rfl <;> rfl
abbrev Svy.recs (xs : List Svy) : List Value := Go.Proofs.YtjmhhbjbmgpagaaGreat.recs Svy.cells xs
theorem Svy.open_ {w : World} {p : Addr} {x : Svy} (h : Cells w p x.cells) : w.cell? p = some (.string x.s) ∧ w.cell? ⟨p.block, p.off + 1, none⟩ = some (.int .i64 x.d) ∧ w.cell? ⟨p.block, p.off + 2, none⟩ = some (.int .i64 x.e) ∧ w.cell? ⟨p.block, p.off + 3, none⟩ = some (.int .i64 x.f) ∧ w.cell? ⟨p.block, p.off + 4, none⟩ = some (.int .i64 x.g) :=
  ⟨h.z rfl, h.at_ 0 rfl, h.at_ 1 rfl, h.at_ 2 rfl, h.at_ 3 rfl⟩
theorem Svy.shut_ {w : World} {g : Nat} {x : Svy} (h0 : w.cell? ⟨g, 0, none⟩ = some (.string x.s)) (h1 : w.cell? ⟨g, 1, none⟩ = some (.int .i64 x.d)) (h2 : w.cell? ⟨g, 2, none⟩ = some (.int .i64 x.e)) (h3 : w.cell? ⟨g, 3, none⟩ = some (.int .i64 x.f)) (h4 : w.cell? ⟨g, 4, none⟩ = some (.int .i64 x.g)) : Cells w ⟨g, 0, none⟩ x.cells := by
  intro j u e
  have hj : j < 5 := by
    rcases Nat.lt_or_ge j 5 with h | h
    · exact h
    · rw [List.getElem?_eq_none (by rw [Svy.clen]; exact h)] at e; cases e
  match j, hj with
  | 0, _ => obtain rfl := Option.some.inj e; exact h0
  | 1, _ => obtain rfl := Option.some.inj e; exact h1
  | 2, _ => obtain rfl := Option.some.inj e; exact h2
  | 3, _ => obtain rfl := Option.some.inj e; exact h3
  | 4, _ => obtain rfl := Option.some.inj e; exact h4
end Go.Proofs.YtjmhhbjbmgpagaaGreat

/- Opening arguments that are slices of records. -/
namespace Go.Proofs.YtjmhhbjbmgpagaaGreat
set_option linter.unusedVariables false
set_option linter.unusedSimpArgs false
open Go.ChangeShapes Go.WideShapes Go.ChangeAt Go.RowKit Go.Joins Go.Deep
theorem exists_list {α : Type} [Inhabited α] {p : Nat → α → Prop} : ∀ n : Nat, (∀ i, i < n → ∃ x, p i x) → ∃ xs : List α, xs.length = n ∧ ∀ i x, xs[i]? = some x → p i x
  | 0, _ => ⟨[], rfl, fun i x h => by simp at h⟩
  | n + 1, h => by
    obtain ⟨xs, hl, hp⟩ := exists_list (p := p) n (fun i hi => h i (by omega))
    obtain ⟨x, hx⟩ := h n (by omega)
    refine ⟨xs ++ [x], by simp [hl], fun i y hy => ?_⟩
    rcases Nat.lt_or_ge i n with hi | hi
    · rw [List.getElem?_append_left (by omega)] at hy; exact hp i y hy
    · rw [List.getElem?_append_right (by omega), hl] at hy
      have hi' : i = n := by
        rcases Nat.lt_or_ge (i - n) 1 with h1 | h1
        · omega
        · rw [List.getElem?_eq_none (by simp; omega)] at hy; cases hy
      subst hi'
      simp at hy
      subst hy; exact hx
section
variable {H : Type} {enc : TypeId × Value → H} {P : Program} {W : World} {base : Nat} {t e : TypeId} {v : Value} {d : DataW H} {p : List MemPlace}
/-- The cells of a slice of structs of one-cell fields, field by field. -/
theorem fields_at {fs : Array Field} {fuel : Nat} {cs : List Value} {x : DataW H × List MemPlace} (ht : P.underlying t = some (.slice e)) (he : P.underlying e = some (.struct fs)) (hone : oneCellFields P fs = true) (hC : P.cellsOf e = fs.size)
    (h : DataW.trod enc P W 0 (fun _ => true) true fuel t cs = some x) :
    cs = [.slice none 0 0] ∨ ∃ (a : Addr) (len cap : Nat), cs = [.slice (some a) len cap] ∧ len ≤ cap ∧ cap ≤ maxLen ∧
      ∀ i, i < cap → ∃ n : Nat, ∀ (j : Nat) (f : Field), fs[j]? = some f → ∃ (u : Value) (y : DataW H × List MemPlace), W.cell? (a.add (i * fs.size + j)) = some u ∧ DataW.trod enc P W 0 (fun _ => true) true n f.type [u] = some y := by
  rcases open_slice ht h with h0 | ⟨a, len, cap, m, n, D, Pl, hcs, _, hl, hm, hmm, _, hi⟩
  · exact .inl h0.1
  · refine .inr ⟨a, len, cap, hcs, hl, hm, fun i hic => ?_⟩
    have him : i < m := by simp only [if_true] at hmm; omega
    obtain ⟨cs', hc, ht'⟩ := hi i him
    rw [hC] at hc
    obtain ⟨ys, n', _, _, _, hyl, hf⟩ := DataW.trod_struct he ht'
    obtain ⟨_, hcl, hat⟩ := World.cells?_some hc
    refine ⟨n', fun j f hj => ?_⟩
    obtain ⟨ho, hk⟩ := hone_of hone j f hj
    have hjl : j < fs.size := (Array.getElem?_eq_some_iff.1 hj).1
    have h1 := hf j f hj
    rw [ho, hk] at h1
    have hone' : (cs'.drop j).take 1 = [cs'[j]'(by omega)] := by
      rw [List.drop_eq_getElem_cons (by omega)]; rfl
    rw [hone'] at h1
    have hys : ys[j]? = some (ys[j]'(by omega)) := List.getElem?_eq_getElem (by omega)
    refine ⟨_, _, ?_, h1.trans hys⟩
    rw [← Go.Deep.add_add, hat j hjl, List.getElem?_eq_getElem (by omega)]
/-- Records that lie one behind the other are a slice of records. -/
theorem reads_recs {α : Type} {f : α → List Value} {z : Nat} (hz : ∀ x, (f x).length = z) (hzp : 0 < z) {a : Addr} {n : Nat} {xs : List α} (hl : xs.length = n) (hx : ∀ i x, xs[i]? = some x → ∀ j u, (f x)[j]? = some u → W.cell? (a.add (i * z + j)) = some u) :
    Reads W W.heap.size z (some a) n (Go.Proofs.YtjmhhbjbmgpagaaGreat.recs f xs) := by
  refine ⟨by rw [recs_len hz, hl], fun hn => ⟨a, rfl, ?_, fun j u hu => ?_⟩⟩
  · have h0 : xs[0]? = some (xs[0]'(by omega)) := List.getElem?_eq_getElem (by omega)
    have hlen := hz (xs[0]'(by omega))
    exact cell_lt_add (hx 0 _ h0 0 _ (List.getElem?_eq_getElem (by omega)))
  · have hj : j < n * z := by
      rcases Nat.lt_or_ge j (n * z) with h1 | h1
      · exact h1
      · rw [List.getElem?_eq_none (by rw [recs_len hz, hl]; exact h1)] at hu; cases hu
    have hq : j / z < n := Nat.div_lt_of_lt_mul (by rw [Nat.mul_comm]; exact hj)
    have hr : j % z < z := Nat.mod_lt _ hzp
    have hjz : j = j / z * z + j % z := by rw [Nat.mul_comm]; exact (Nat.div_add_mod j z).symm
    have h0 : xs[j / z]? = some (xs[j / z]'(by omega)) := List.getElem?_eq_getElem (by omega)
    rw [hjz] at hu ⊢
    rw [recs_at hz h0 hr] at hu
    exact hx _ _ h0 _ u hu
end
section
variable {H : Type} {enc : TypeId × Value → H} {P : Program} {W : World} {base : Nat} {t e : TypeId} {v : Value} {d : DataW H} {p : List MemPlace}
theorem op_svys {fuel : Nat} {f0 f1 f2 f3 f4 : Field} {x : DataW H × List MemPlace} (ht : P.underlying t = some (.slice e)) (he : P.underlying e = some (.struct #[f0, f1, f2, f3, f4])) (hone : oneCellFields P #[f0, f1, f2, f3, f4] = true) (hC : P.cellsOf e = 5)
    (h0 : P.underlying f0.type = some .string) (h1 : P.underlying f1.type = some (.int .i64)) (h2 : P.underlying f2.type = some (.int .i64)) (h3 : P.underlying f3.type = some (.int .i64)) (h4 : P.underlying f4.type = some (.int .i64)) {a0 : Option Addr} {n0 c0 : Nat} (h : DataW.trod enc P W 0 (fun _ => true) true fuel t [.slice a0 n0 c0] = some x) :
    ∃ xs, n0 ≤ c0 ∧ c0 ≤ maxLen ∧ Reads W W.heap.size 5 a0 n0 (Svy.recs xs) ∧ ∀ x ∈ xs, x.s.size ≤ maxLen := by
  rcases fields_at ht he hone hC h with hcs | ⟨a, len, cap, hcs, hl, hm, hi⟩
  · simp only [List.cons.injEq, Value.slice.injEq, and_true] at hcs
    obtain ⟨rfl, rfl, rfl⟩ := hcs
    exact ⟨[], by omega, by simp [maxLen], Reads.none_, fun x hx => by simp at hx⟩
  · simp only [List.cons.injEq, Value.slice.injEq, and_true] at hcs
    obtain ⟨rfl, rfl, rfl⟩ := hcs
    obtain ⟨xs, hxl, hxs⟩ := exists_list (p := fun i (x : Svy) => x.s.size ≤ maxLen ∧ ∀ j u, x.cells[j]? = some u → W.cell? (a.add (i * 5 + j)) = some u) n0 (fun i hin => by
      obtain ⟨n, hf⟩ := hi i (by omega)
      obtain ⟨u0, y0, g0, k0⟩ := hf 0 f0 rfl
      obtain ⟨s, q0, _, w0⟩ := DataW.trod_string h0 k0
      obtain ⟨u1, y1, g1, k1⟩ := hf 1 f1 rfl
      obtain ⟨m1, q1, _, w1⟩ := DataW.trod_int h1 k1
      obtain ⟨u2, y2, g2, k2⟩ := hf 2 f2 rfl
      obtain ⟨m2, q2, _, w2⟩ := DataW.trod_int h2 k2
      obtain ⟨u3, y3, g3, k3⟩ := hf 3 f3 rfl
      obtain ⟨m3, q3, _, w3⟩ := DataW.trod_int h3 k3
      obtain ⟨u4, y4, g4, k4⟩ := hf 4 f4 rfl
      obtain ⟨m4, q4, _, w4⟩ := DataW.trod_int h4 k4
      simp only [List.cons.injEq, and_true] at q0 q1 q2 q3 q4
      subst q0 q1 q2 q3 q4
      refine ⟨⟨s, m1, m2, m3, m4⟩, w0, fun j u hu => ?_⟩
      have hj : j < 5 := by
        rcases Nat.lt_or_ge j 5 with h1 | h1
        · exact h1
        · rw [List.getElem?_eq_none (by rw [Svy.clen]; exact h1)] at hu; cases hu
      match j, hj with
      | 0, _ => obtain rfl := Option.some.inj hu; exact g0
      | 1, _ => obtain rfl := Option.some.inj hu; exact g1
      | 2, _ => obtain rfl := Option.some.inj hu; exact g2
      | 3, _ => obtain rfl := Option.some.inj hu; exact g3
      | 4, _ => obtain rfl := Option.some.inj hu; exact g4)
    exact ⟨xs, hl, hm, reads_recs Svy.clen (by omega) hxl fun i x h => (hxs i x h).2, fun x hx => by
      obtain ⟨i, hi⟩ := List.getElem?_of_mem hx
      exact (hxs i x hi).1⟩
theorem op_svysS {f0 f1 f2 f3 f4 : Field} (ht : P.underlying t = some (.slice e)) (he : P.underlying e = some (.struct #[f0, f1, f2, f3, f4])) (hone : oneCellFields P #[f0, f1, f2, f3, f4] = true) (hC : P.cellsOf e = 5)
    (h0 : P.underlying f0.type = some .string) (h1 : P.underlying f1.type = some (.int .i64)) (h2 : P.underlying f2.type = some (.int .i64)) (h3 : P.underlying f3.type = some (.int .i64)) (h4 : P.underlying f4.type = some (.int .i64)) (hv : Value.okWide P W .any base t v) (h : DataW.Trod enc P W 0 (fun _ => true) true t v d p) :
    ∃ A n c xs, v = .slice A n c ∧ n ≤ c ∧ c ≤ maxLen ∧ Reads W W.heap.size 5 A n (Svy.recs xs) ∧ ∀ x ∈ xs, x.s.size ≤ maxLen := by
  obtain ⟨a0, n0, c0, rfl⟩ := okWide_slice ht hv
  obtain ⟨fuel, hf⟩ := h
  obtain ⟨xs, h1, h2, h3, h4⟩ := op_svys ht he hone hC h0 h1 h2 h3 h4 hf
  exact ⟨a0, n0, c0, xs, rfl, h1, h2, h3, h4⟩
end
section
variable {H : Type} {enc : TypeId × Value → H} {P : Program} {W : World} {base : Nat} {t e : TypeId} {v : Value} {d : DataW H} {p : List MemPlace}
theorem op_awys {fuel : Nat} {f0 f1 f2 f3 f4 f5 f6 : Field} {x : DataW H × List MemPlace} (ht : P.underlying t = some (.slice e)) (he : P.underlying e = some (.struct #[f0, f1, f2, f3, f4, f5, f6])) (hone : oneCellFields P #[f0, f1, f2, f3, f4, f5, f6] = true) (hC : P.cellsOf e = 7)
    (h0 : P.underlying f0.type = some .string) (h1 : P.underlying f1.type = some (.int .i64)) (h2 : P.underlying f2.type = some (.int .i64)) (h3 : P.underlying f3.type = some (.int .i64)) (h4 : P.underlying f4.type = some (.int .i64)) (h5 : P.underlying f5.type = some (.int .i64)) (h6 : P.underlying f6.type = some (.int .i64)) {a0 : Option Addr} {n0 c0 : Nat} (h : DataW.trod enc P W 0 (fun _ => true) true fuel t [.slice a0 n0 c0] = some x) :
    ∃ xs, n0 ≤ c0 ∧ c0 ≤ maxLen ∧ Reads W W.heap.size 7 a0 n0 (Awy.recs xs) ∧ ∀ x ∈ xs, x.s.size ≤ maxLen := by
  rcases fields_at ht he hone hC h with hcs | ⟨a, len, cap, hcs, hl, hm, hi⟩
  · simp only [List.cons.injEq, Value.slice.injEq, and_true] at hcs
    obtain ⟨rfl, rfl, rfl⟩ := hcs
    exact ⟨[], by omega, by simp [maxLen], Reads.none_, fun x hx => by simp at hx⟩
  · simp only [List.cons.injEq, Value.slice.injEq, and_true] at hcs
    obtain ⟨rfl, rfl, rfl⟩ := hcs
    obtain ⟨xs, hxl, hxs⟩ := exists_list (p := fun i (x : Awy) => x.s.size ≤ maxLen ∧ ∀ j u, x.cells[j]? = some u → W.cell? (a.add (i * 7 + j)) = some u) n0 (fun i hin => by
      obtain ⟨n, hf⟩ := hi i (by omega)
      obtain ⟨u0, y0, g0, k0⟩ := hf 0 f0 rfl
      obtain ⟨s, q0, _, w0⟩ := DataW.trod_string h0 k0
      obtain ⟨u1, y1, g1, k1⟩ := hf 1 f1 rfl
      obtain ⟨m1, q1, _, w1⟩ := DataW.trod_int h1 k1
      obtain ⟨u2, y2, g2, k2⟩ := hf 2 f2 rfl
      obtain ⟨m2, q2, _, w2⟩ := DataW.trod_int h2 k2
      obtain ⟨u3, y3, g3, k3⟩ := hf 3 f3 rfl
      obtain ⟨m3, q3, _, w3⟩ := DataW.trod_int h3 k3
      obtain ⟨u4, y4, g4, k4⟩ := hf 4 f4 rfl
      obtain ⟨m4, q4, _, w4⟩ := DataW.trod_int h4 k4
      obtain ⟨u5, y5, g5, k5⟩ := hf 5 f5 rfl
      obtain ⟨m5, q5, _, w5⟩ := DataW.trod_int h5 k5
      obtain ⟨u6, y6, g6, k6⟩ := hf 6 f6 rfl
      obtain ⟨m6, q6, _, w6⟩ := DataW.trod_int h6 k6
      simp only [List.cons.injEq, and_true] at q0 q1 q2 q3 q4 q5 q6
      subst q0 q1 q2 q3 q4 q5 q6
      refine ⟨⟨s, m1, m2, m3, m4, m5, m6⟩, w0, fun j u hu => ?_⟩
      have hj : j < 7 := by
        rcases Nat.lt_or_ge j 7 with h1 | h1
        · exact h1
        · rw [List.getElem?_eq_none (by rw [Awy.clen]; exact h1)] at hu; cases hu
      match j, hj with
      | 0, _ => obtain rfl := Option.some.inj hu; exact g0
      | 1, _ => obtain rfl := Option.some.inj hu; exact g1
      | 2, _ => obtain rfl := Option.some.inj hu; exact g2
      | 3, _ => obtain rfl := Option.some.inj hu; exact g3
      | 4, _ => obtain rfl := Option.some.inj hu; exact g4
      | 5, _ => obtain rfl := Option.some.inj hu; exact g5
      | 6, _ => obtain rfl := Option.some.inj hu; exact g6)
    exact ⟨xs, hl, hm, reads_recs Awy.clen (by omega) hxl fun i x h => (hxs i x h).2, fun x hx => by
      obtain ⟨i, hi⟩ := List.getElem?_of_mem hx
      exact (hxs i x hi).1⟩
theorem op_awysS {f0 f1 f2 f3 f4 f5 f6 : Field} (ht : P.underlying t = some (.slice e)) (he : P.underlying e = some (.struct #[f0, f1, f2, f3, f4, f5, f6])) (hone : oneCellFields P #[f0, f1, f2, f3, f4, f5, f6] = true) (hC : P.cellsOf e = 7)
    (h0 : P.underlying f0.type = some .string) (h1 : P.underlying f1.type = some (.int .i64)) (h2 : P.underlying f2.type = some (.int .i64)) (h3 : P.underlying f3.type = some (.int .i64)) (h4 : P.underlying f4.type = some (.int .i64)) (h5 : P.underlying f5.type = some (.int .i64)) (h6 : P.underlying f6.type = some (.int .i64)) (hv : Value.okWide P W .any base t v) (h : DataW.Trod enc P W 0 (fun _ => true) true t v d p) :
    ∃ A n c xs, v = .slice A n c ∧ n ≤ c ∧ c ≤ maxLen ∧ Reads W W.heap.size 7 A n (Awy.recs xs) ∧ ∀ x ∈ xs, x.s.size ≤ maxLen := by
  obtain ⟨a0, n0, c0, rfl⟩ := okWide_slice ht hv
  obtain ⟨fuel, hf⟩ := h
  obtain ⟨xs, h1, h2, h3, h4⟩ := op_awys ht he hone hC h0 h1 h2 h3 h4 h5 h6 hf
  exact ⟨a0, n0, c0, xs, rfl, h1, h2, h3, h4⟩
end
section
variable {H : Type} {enc : TypeId × Value → H} {P : Program} {W : World} {base : Nat} {t e : TypeId} {v : Value} {d : DataW H} {p : List MemPlace}
theorem op_dors {fuel : Nat} {f0 f1 f2 f3 : Field} {x : DataW H × List MemPlace} (ht : P.underlying t = some (.slice e)) (he : P.underlying e = some (.struct #[f0, f1, f2, f3])) (hone : oneCellFields P #[f0, f1, f2, f3] = true) (hC : P.cellsOf e = 4)
    (h0 : P.underlying f0.type = some .string) (h1 : P.underlying f1.type = some (.int .i64)) (h2 : P.underlying f2.type = some (.int .i64)) (h3 : P.underlying f3.type = some (.int .i64)) {a0 : Option Addr} {n0 c0 : Nat} (h : DataW.trod enc P W 0 (fun _ => true) true fuel t [.slice a0 n0 c0] = some x) :
    ∃ xs, n0 ≤ c0 ∧ c0 ≤ maxLen ∧ Reads W W.heap.size 4 a0 n0 (Dor.recs xs) ∧ ∀ x ∈ xs, x.s.size ≤ maxLen := by
  rcases fields_at ht he hone hC h with hcs | ⟨a, len, cap, hcs, hl, hm, hi⟩
  · simp only [List.cons.injEq, Value.slice.injEq, and_true] at hcs
    obtain ⟨rfl, rfl, rfl⟩ := hcs
    exact ⟨[], by omega, by simp [maxLen], Reads.none_, fun x hx => by simp at hx⟩
  · simp only [List.cons.injEq, Value.slice.injEq, and_true] at hcs
    obtain ⟨rfl, rfl, rfl⟩ := hcs
    obtain ⟨xs, hxl, hxs⟩ := exists_list (p := fun i (x : Dor) => x.s.size ≤ maxLen ∧ ∀ j u, x.cells[j]? = some u → W.cell? (a.add (i * 4 + j)) = some u) n0 (fun i hin => by
      obtain ⟨n, hf⟩ := hi i (by omega)
      obtain ⟨u0, y0, g0, k0⟩ := hf 0 f0 rfl
      obtain ⟨s, q0, _, w0⟩ := DataW.trod_string h0 k0
      obtain ⟨u1, y1, g1, k1⟩ := hf 1 f1 rfl
      obtain ⟨m1, q1, _, w1⟩ := DataW.trod_int h1 k1
      obtain ⟨u2, y2, g2, k2⟩ := hf 2 f2 rfl
      obtain ⟨m2, q2, _, w2⟩ := DataW.trod_int h2 k2
      obtain ⟨u3, y3, g3, k3⟩ := hf 3 f3 rfl
      obtain ⟨m3, q3, _, w3⟩ := DataW.trod_int h3 k3
      simp only [List.cons.injEq, and_true] at q0 q1 q2 q3
      subst q0 q1 q2 q3
      refine ⟨⟨s, m1, m2, m3⟩, w0, fun j u hu => ?_⟩
      have hj : j < 4 := by
        rcases Nat.lt_or_ge j 4 with h1 | h1
        · exact h1
        · rw [List.getElem?_eq_none (by rw [Dor.clen]; exact h1)] at hu; cases hu
      match j, hj with
      | 0, _ => obtain rfl := Option.some.inj hu; exact g0
      | 1, _ => obtain rfl := Option.some.inj hu; exact g1
      | 2, _ => obtain rfl := Option.some.inj hu; exact g2
      | 3, _ => obtain rfl := Option.some.inj hu; exact g3)
    exact ⟨xs, hl, hm, reads_recs Dor.clen (by omega) hxl fun i x h => (hxs i x h).2, fun x hx => by
      obtain ⟨i, hi⟩ := List.getElem?_of_mem hx
      exact (hxs i x hi).1⟩
theorem op_dorsS {f0 f1 f2 f3 : Field} (ht : P.underlying t = some (.slice e)) (he : P.underlying e = some (.struct #[f0, f1, f2, f3])) (hone : oneCellFields P #[f0, f1, f2, f3] = true) (hC : P.cellsOf e = 4)
    (h0 : P.underlying f0.type = some .string) (h1 : P.underlying f1.type = some (.int .i64)) (h2 : P.underlying f2.type = some (.int .i64)) (h3 : P.underlying f3.type = some (.int .i64)) (hv : Value.okWide P W .any base t v) (h : DataW.Trod enc P W 0 (fun _ => true) true t v d p) :
    ∃ A n c xs, v = .slice A n c ∧ n ≤ c ∧ c ≤ maxLen ∧ Reads W W.heap.size 4 A n (Dor.recs xs) ∧ ∀ x ∈ xs, x.s.size ≤ maxLen := by
  obtain ⟨a0, n0, c0, rfl⟩ := okWide_slice ht hv
  obtain ⟨fuel, hf⟩ := h
  obtain ⟨xs, h1, h2, h3, h4⟩ := op_dors ht he hone hC h0 h1 h2 h3 hf
  exact ⟨a0, n0, c0, xs, rfl, h1, h2, h3, h4⟩
end
section
variable {H : Type} {enc : TypeId × Value → H} {P : Program} {W : World} {base : Nat} {t e q : TypeId} {v : Value} {d : DataW H} {p : List MemPlace}
/-- A struct of a number and of a slice of airways. -/
theorem op_mine {k0 k1 f0 f1 f2 f3 f4 f5 f6 : Field} (hs : P.underlying t = some (.struct #[k0, k1])) (hone2 : oneCellFields P #[k0, k1] = true) (hC2 : P.cellsOf t = 2) (hk0 : P.underlying k0.type = some (.int .i64)) (ht : P.underlying k1.type = some (.slice e))
    (he : P.underlying e = some (.struct #[f0, f1, f2, f3, f4, f5, f6])) (hone : oneCellFields P #[f0, f1, f2, f3, f4, f5, f6] = true) (hC : P.cellsOf e = 7)
    (h0 : P.underlying f0.type = some .string) (h1 : P.underlying f1.type = some (.int .i64)) (h2 : P.underlying f2.type = some (.int .i64)) (h3 : P.underlying f3.type = some (.int .i64)) (h4 : P.underlying f4.type = some (.int .i64)) (h5 : P.underlying f5.type = some (.int .i64)) (h6 : P.underlying f6.type = some (.int .i64))
    (hv : Value.okWide P W .any base t v) (h : DataW.Trod enc P W 0 (fun _ => true) true t v d p) :
    ∃ J A n c xs, v = .agg #[.int .i64 J, .slice A n c] ∧ n ≤ c ∧ c ≤ maxLen ∧ Reads W W.heap.size 7 A n (Awy.recs xs) ∧ ∀ x ∈ xs, x.s.size ≤ maxLen := by
  obtain ⟨c0, c1, y0, y1, m, rfl, _, _, t0, t1⟩ := open_agg2 hs hone2 hC2 hv h
  obtain ⟨J, e0, _, _⟩ := DataW.trod_int hk0 t0
  simp only [List.cons.injEq, and_true] at e0
  subst e0
  have hsl : ∃ a0 n0 cc, c1 = .slice a0 n0 cc := by
    rcases open_slice ht t1 with ⟨hcs, _⟩ | ⟨a, len, cap, _, _, _, _, hcs, _⟩
    · simp only [List.cons.injEq, and_true] at hcs; exact ⟨_, _, _, hcs⟩
    · simp only [List.cons.injEq, and_true] at hcs; exact ⟨_, _, _, hcs⟩
  obtain ⟨a0, n0, cc, rfl⟩ := hsl
  obtain ⟨xs, g1, g2, g3, g4⟩ := op_awys ht he hone hC h0 h1 h2 h3 h4 h5 h6 t1
  exact ⟨J, a0, n0, cc, xs, rfl, g1, g2, g3, g4⟩
end
end Go.Proofs.YtjmhhbjbmgpagaaGreat

/- Contracts of a survey and of lists of surveys: validity, bounds, the indices of an airway, common bounds. -/
namespace Go.Proofs.YtjmhhbjbmgpagaaGreat
set_option linter.unusedVariables false
set_option linter.unusedSimpArgs false
open Go.RowKit
theorem quietA {P : Program} {f : FuncId} {args : Array Value} {w : World} {a n : Nat} {v : Value}
    (h : Calls P f args (w.drewN (a + n)) fun e w' => e = .returned v ∧ w.drewN (a + n) = w') :
    Calls P f args (w.drewN (a + n)) fun e w'' => e = .returned v ∧ ∃ m, w'' = w.drewN (a + m) :=
  h.mono fun _ _ ⟨he, hm⟩ => ⟨he, n, hm.symm⟩
def svyOk (x : Svy) : Bool := isName x.s && inB x.d 0 10000 && inB x.e 0 10000 && inB x.f 1 100000 && inB x.g 0 (x.f - 1)
theorem svyOk_t {x : Svy} (h : svyOk x = true) : 0 ≤ x.d ∧ x.d ≤ 10000 ∧ 0 ≤ x.e ∧ x.e ≤ 10000 ∧ 1 ≤ x.f ∧ x.f ≤ 100000 ∧ 0 ≤ x.g ∧ x.g ≤ x.f - 1 ∧ x.s.size ≤ 10 := by
  unfold svyOk at h
  simp only [Bool.and_eq_true] at h
  have h1 := inB_t h.1.1.1.2
  have h2 := inB_t h.1.1.2
  have h3 := inB_t h.1.2
  have h4 := inB_t h.2
  have h5 := isName_size h.1.1.1.1
  omega
def asR (n : Int) : Int := min (max n 1) 1000000
theorem asR_bnd (n : Int) : 1 ≤ asR n ∧ asR n ≤ 1000000 := by unfold asR; omega
def lowOf (x : Svy) : Int := asR (max (x.d - x.e) 0 * 10000000000 / ((x.f + x.g) * (x.f + x.g)))
def highOf (x : Svy) : Int := asR (((x.d + x.e) * 10000000000 + (x.f - x.g) * (x.f - x.g) - 1) / ((x.f - x.g) * (x.f - x.g)))
theorem sq_bnd {m M : Int} (h1 : 1 ≤ m) (h2 : m ≤ M) : 1 ≤ m * m ∧ m * m ≤ M * M := by
  have a : 1 * 1 ≤ m * m := Int.mul_le_mul h1 h1 (by omega) (by omega)
  have b : m * m ≤ M * M := Int.mul_le_mul h2 h2 (by omega) (by omega)
  omega
end Go.Proofs.YtjmhhbjbmgpagaaGreat

/- Contracts of lists of surveys: validity, the surveys of an airway, common bounds. -/
namespace Go.Proofs.YtjmhhbjbmgpagaaGreat
set_option linter.unusedVariables false
set_option linter.unusedSimpArgs false
open Go.RowKit
def svysOk (xs : List Svy) : Bool := xs.all svyOk && decide (xs.length ≤ 16)
theorem svysOk_t {xs : List Svy} (h : svysOk xs = true) : (∀ x ∈ xs, svyOk x = true) ∧ xs.length ≤ 16 := by
  unfold svysOk at h
  simp only [Bool.and_eq_true, decide_eq_true_eq, List.all_eq_true] at h
  exact h
def strEq (a b : ByteArray) : Bool := a.toList == b.toList
def hitS (xs : List Svy) (s : ByteArray) (k : Nat) : Bool := match xs[k]? with | some x => strEq x.s s | none => false
def ofAt (xs : List Svy) (s : ByteArray) : Nat → List Int
  | 0 => []
  | k + 1 => if hitS xs s k = true then ofAt xs s k ++ [(k : Int)] else ofAt xs s k
theorem hit_of {xs : List Svy} {s : ByteArray} {k : Nat} {x : Svy} (h : xs[k]? = some x) : hitS xs s k = strEq x.s s := by unfold hitS; rw [h]
theorem ofAt_y {xs : List Svy} {s : ByteArray} {k : Nat} (h : hitS xs s k = true) : ofAt xs s (k + 1) = ofAt xs s k ++ [(k : Int)] := by simp [ofAt, h]
theorem ofAt_n {xs : List Svy} {s : ByteArray} {k : Nat} (h : hitS xs s k = false) : ofAt xs s (k + 1) = ofAt xs s k := by simp [ofAt, h]
theorem ofAt_len (xs : List Svy) (s : ByteArray) : ∀ k, (ofAt xs s k).length ≤ k
  | 0 => by simp [ofAt]
  | k + 1 => by
    have h := ofAt_len xs s k
    simp only [ofAt]
    split <;> simp <;> omega
theorem ofAt_mem {xs : List Svy} {s : ByteArray} {i : Int} : ∀ k, i ∈ ofAt xs s k → ∃ j : Nat, i = j ∧ j < k ∧ hitS xs s j = true
  | 0, h => by simp [ofAt] at h
  | k + 1, h => by
    simp only [ofAt] at h
    split at h
    · rename_i hk
      rw [List.mem_append, List.mem_singleton] at h
      rcases h with h | h
      · obtain ⟨j, h1, h2, h3⟩ := ofAt_mem k h
        exact ⟨j, h1, by omega, h3⟩
      · exact ⟨k, h, by omega, hk⟩
    · obtain ⟨j, h1, h2, h3⟩ := ofAt_mem k h
      exact ⟨j, h1, by omega, h3⟩
/-- The surveys of an airway, by their indices. -/
def svOf (xs : List Svy) (s : ByteArray) : List Int := ofAt xs s xs.length
theorem svOf_mem {xs : List Svy} {s : ByteArray} {i : Int} (h : i ∈ svOf xs s) : ∃ (j : Nat) (x : Svy), i = j ∧ xs[j]? = some x := by
  obtain ⟨j, h1, h2, h3⟩ := ofAt_mem _ h
  exact ⟨j, xs[j], h1, List.getElem?_eq_getElem h2⟩
/-- The survey with an index. -/
def svAt (xs : List Svy) (i : Int) : Svy := xs.getD i.toNat default
theorem svAt_eq {xs : List Svy} {j : Nat} {x : Svy} (h : xs[j]? = some x) : svAt xs j = x := by
  unfold svAt; rw [Int.toNat_natCast, List.getD_eq_getElem?_getD, h]; rfl
def cmAt (xs : List Svy) (is : List Int) : Nat → Int × Int
  | 0 => (1, 1000000)
  | k + 1 => (max (cmAt xs is k).1 (lowOf (svAt xs (is.getD k 0))), min (cmAt xs is k).2 (highOf (svAt xs (is.getD k 0))))
theorem cmAt_at {xs : List Svy} {is : List Int} {k : Nat} {i : Int} {x : Svy} (h : is[k]? = some i) (hx : svAt xs i = x) :
    cmAt xs is (k + 1) = (max (cmAt xs is k).1 (lowOf x), min (cmAt xs is k).2 (highOf x)) := by
  have e : is.getD k 0 = i := by rw [List.getD_eq_getElem?_getD, h]; rfl
  simp only [cmAt, e, hx]
def comR (xs : List Svy) (s : ByteArray) : Int × Int × Int :=
  if svysOk xs = true then (if (svOf xs s).length = 0 then (0, 0, 3) else
    if (cmAt xs (svOf xs s) (svOf xs s).length).2 < (cmAt xs (svOf xs s) (svOf xs s).length).1 then (0, 0, 6) else ((cmAt xs (svOf xs s) (svOf xs s).length).1, (cmAt xs (svOf xs s) (svOf xs s).length).2, 0)) else (0, 0, 1)
theorem comR_1 {xs : List Svy} {s : ByteArray} (h : svysOk xs = false) : comR xs s = (0, 0, 1) := by unfold comR; rw [h]; rfl
theorem comR_2 {xs : List Svy} {s : ByteArray} (h : svysOk xs = true) (h0 : (svOf xs s).length = 0) : comR xs s = (0, 0, 3) := by unfold comR; rw [if_pos h, if_pos h0]
theorem comR_3 {xs : List Svy} {s : ByteArray} (h : svysOk xs = true) (h0 : (svOf xs s).length ≠ 0) (h1 : (cmAt xs (svOf xs s) (svOf xs s).length).2 < (cmAt xs (svOf xs s) (svOf xs s).length).1) : comR xs s = (0, 0, 6) := by
  unfold comR; rw [if_pos h, if_neg h0, if_pos h1]
theorem comR_4 {xs : List Svy} {s : ByteArray} (h : svysOk xs = true) (h0 : (svOf xs s).length ≠ 0) (h1 : ¬ (cmAt xs (svOf xs s) (svOf xs s).length).2 < (cmAt xs (svOf xs s) (svOf xs s).length).1) :
    comR xs s = ((cmAt xs (svOf xs s) (svOf xs s).length).1, (cmAt xs (svOf xs s) (svOf xs s).length).2, 0) := by
  unfold comR; rw [if_pos h, if_neg h0, if_neg h1]
theorem ret_int3 {a b c a' b' c' : Int} (h : a = a') (h' : b = b') (h'' : c = c') : Ending.returned (.tuple #[.int .i64 a, .int .i64 b, .int .i64 c]) = .returned (.tuple #[.int .i64 a', .int .i64 b', .int .i64 c']) := by rw [h, h', h'']
end Go.Proofs.YtjmhhbjbmgpagaaGreat

/- Contracts of the bounds that all surveys of an airway have. -/
namespace Go.Proofs.YtjmhhbjbmgpagaaGreat
set_option linter.unusedVariables false
set_option linter.unusedSimpArgs false
open Go.RowKit
theorem cmAt_bnd (xs : List Svy) (is : List Int) : ∀ k, 1 ≤ (cmAt xs is k).1 ∧ (cmAt xs is k).1 ≤ 1000000 ∧ 1 ≤ (cmAt xs is k).2 ∧ (cmAt xs is k).2 ≤ 1000000
  | 0 => by simp [cmAt]
  | k + 1 => by
    have h := cmAt_bnd xs is k
    have h1 := asR_bnd (max ((svAt xs (is.getD k 0)).d - (svAt xs (is.getD k 0)).e) 0 * 10000000000 / (((svAt xs (is.getD k 0)).f + (svAt xs (is.getD k 0)).g) * ((svAt xs (is.getD k 0)).f + (svAt xs (is.getD k 0)).g)))
    have e1 : 1 ≤ lowOf (svAt xs (is.getD k 0)) ∧ lowOf (svAt xs (is.getD k 0)) ≤ 1000000 := h1
    have e2 : 1 ≤ highOf (svAt xs (is.getD k 0)) ∧ highOf (svAt xs (is.getD k 0)) ≤ 1000000 := asR_bnd _
    simp only [cmAt]
    omega
theorem low_bnd (x : Svy) : 1 ≤ lowOf x ∧ lowOf x ≤ 1000000 := asR_bnd _
theorem high_bnd (x : Svy) : 1 ≤ highOf x ∧ highOf x ≤ 1000000 := asR_bnd _
/-- An index of a list of indices leads to a record of the slice. -/
theorem open_at {w : World} {B n m : Nat} {A D : Option Addr} {xs : List Svy} {is : List Int} (hr : Reads w B 5 A n (Svy.recs xs)) (hs : Reads w B 1 D m (ints is)) (hi : ∀ i ∈ is, ∃ (j : Nat) (x : Svy), i = j ∧ xs[j]? = some x) {k : Nat} (hk : k < m) :
    ∃ (sd ad : Addr) (j : Nat) (x : Svy), D = some sd ∧ A = some ad ∧ j < n ∧ is[k]? = some (j : Int) ∧ w.cell? (sd.add k) = some (.int .i64 (j : Int)) ∧ xs[j]? = some x ∧ svAt xs (j : Int) = x ∧ Cells w (ad.add (j * 5)) x.cells := by
  obtain ⟨sd, u, rfl, _, hx, hc⟩ := hs.at_ hk
  obtain ⟨i, hi1, rfl⟩ := ints_at hx
  obtain ⟨j, x, rfl, hxj⟩ := hi i (mem_of_at hi1)
  have hl := recs_rlen Svy.clen (by omega) hr
  have hj : j < n := by
    rcases Nat.lt_or_ge j xs.length with h | h
    · omega
    · rw [List.getElem?_eq_none h] at hxj; cases hxj
  obtain ⟨ad, x', rfl, _, hx', hc'⟩ := hr.rec_at Svy.clen (by omega) hj
  obtain rfl : x = x' := by rw [hxj] at hx'; exact Option.some.inj hx'
  exact ⟨sd, ad, j, x, rfl, rfl, hj, hi1, hc, hxj, svAt_eq hxj, hc'⟩
end Go.Proofs.YtjmhhbjbmgpagaaGreat

/- Contracts of the surveys that agree: a list with some numbers struck out, the largest agreement. -/
namespace Go.Proofs.YtjmhhbjbmgpagaaGreat
set_option linter.unusedVariables false
set_option linter.unusedSimpArgs false
open Go.RowKit
end Go.Proofs.YtjmhhbjbmgpagaaGreat

/- Contracts of the largest agreement and of odd surveys. -/
namespace Go.Proofs.YtjmhhbjbmgpagaaGreat
set_option linter.unusedVariables false
set_option linter.unusedSimpArgs false
open Go.RowKit
def hasI (xs : List Int) (v : Int) : Bool := xs.any fun x => x == v
set_option maxHeartbeats 800000 in
theorem l00Has_any (A : Option Addr) (n c : Nat) (xs : List Int) (v : Int) (w : World) (hr : Reads w w.heap.size 1 A n (ints xs)) (hn : n ≤ 1048576) :
    Calls Tryz.prog 89 #[.slice A n c, .int .i64 v] w fun e w' => e = .returned (.bool (hasI xs v)) ∧ w = w' := by
  have HL := Lib.hid (ints_len hr)
  go_enter Tryz.func89, Tryz.ntmps89
  go_wp2
  go_loop [5] (fun i => ∃ k : Nat, k ≤ n ∧ i = .int .i64 k ∧ Hid ((xs.take k).any (fun x => x == v) = false)) (fun i => n - (intOf i).toNat)
  case atStart => exact ⟨0, by omega, rfl, by simp [Hid]⟩
  case round =>
    obtain ⟨k, hk, rfl, HK⟩ := hrel
    by_cases hlt : k < n
    · obtain ⟨ad, u, rfl, had, hx, hc⟩ := hr.at_ hlt
      obtain ⟨b, hb, rfl⟩ := ints_at hx
      have HX := Lib.hid hb
      clear hb hx
      cases hp : b == v
      · have HP := Lib.hid hp
        go_wp2
        go_round
        case rel => exact ⟨k + 1, by omega, by go_num, any_take HX.out HK.out HP.out⟩
        case measure => simp [intOf]; omega
      · have HP := Lib.hid hp
        go_wp2
        go_ret
        exact ⟨ret_bool (by unfold hasI; rw [List.any_eq_true.2 ⟨b, mem_of_at HX.out, HP.out⟩]), rfl⟩
    · have e : k = n := by omega
      subst e
      go_wp2
      go_ret
      have hall : xs.any (fun x => x == v) = false := by have := HK.out; rwa [List.take_of_length_le (by rw [HL.out]; omega)] at this
      exact ⟨ret_bool (by unfold hasI; rw [hall]), rfl⟩
set_option maxHeartbeats 800000 in
theorem index_any (A : Option Addr) (n c : Nat) (xs : List Int) (v : Int) (w : World) (hr : Reads w w.heap.size 1 A n (ints xs)) (hn : n ≤ 1048576) :
    Calls Tryz.prog 104 #[.slice A n c, .int .i64 v] w fun e w' => e = .returned (.int .i64 (idxI (fun x => x == v) xs)) ∧ w = w' := by
  have HL := Lib.hid (ints_len hr)
  go_enter Tryz.func104, Tryz.ntmps104
  go_wp2
  go_loop [8] (fun i => ∃ k : Nat, k ≤ n ∧ i = .int .i64 k ∧ Hid ((xs.take k).any (fun x => x == v) = false)) (fun i => n - (intOf i).toNat)
  case atStart => exact ⟨0, by omega, rfl, by simp [Hid]⟩
  case round =>
    obtain ⟨k, hk, rfl, HK⟩ := hrel
    by_cases hlt : k < n
    · obtain ⟨ad, u, rfl, had, hx, hc⟩ := hr.at_ hlt
      obtain ⟨b, hb, rfl⟩ := ints_at hx
      have HX := Lib.hid hb
      clear hb hx
      cases hp : b == v
      · have HP := Lib.hid hp
        have hp2 : (v == b) = false := by rw [← hp]; exact Bool.eq_iff_iff.2 (by simp only [beq_iff_eq]; exact eq_comm)
        clear hp
        go_wp2
        go_round
        case rel => exact ⟨k + 1, by omega, by go_num, any_take HX.out HK.out HP.out⟩
        case measure => simp [intOf]; omega
      · have HP := Lib.hid hp
        have hp2 : (v == b) = true := by rw [← hp]; exact Bool.eq_iff_iff.2 (by simp only [beq_iff_eq]; exact eq_comm)
        clear hp
        go_wp2
        go_ret
        exact ⟨ret_int (idx_at HX.out HP.out HK.out).symm, rfl⟩
    · have e : k = n := by omega
      subst e
      go_wp2
      go_ret
      have hall : xs.any (fun x => x == v) = false := by have := HK.out; rwa [List.take_of_length_le (by rw [HL.out]; omega)] at this
      exact ⟨ret_int (idx_none hall).symm, rfl⟩
theorem contains_any (A : Option Addr) (n c : Nat) (xs : List Int) (v : Int) (w : World) (hr : Reads w w.heap.size 1 A n (ints xs)) (hn : n ≤ 1048576) :
    Calls Tryz.prog 76 #[.slice A n c, .int .i64 v] w fun e w' => e = .returned (.bool (hasI xs v)) ∧ w = w' := by
  have HD := Lib.hid (idx_any (p := fun x => x == v) (xs := xs))
  go_enter Tryz.func76, Tryz.ntmps76
  go_wp2_with fail; ((with_reducible refine (index_any A n c xs v _ hr hn).mono ?_); rintro e w' ⟨rfl, rfl⟩)
  go_wp2
  go_ret
  exact ⟨ret_bool HD.out, rfl⟩
end Go.Proofs.YtjmhhbjbmgpagaaGreat
