/- Several texts in one: Nest Rec Own RootC Name Air Res Lst Lock RAwy. -/
import Derived.Test.YtjmhhbjbmgpagaaMgA
import Derived.StillTailTactics
import Derived.Deep.RegionHeld3
import Derived.Deep.RegionWith
import Derived.Laws.BytesArg
import Derived.Shelf.Abstract
/- Slices of slices of numbers: reading, owning, and the laws' own helpers on them. -/
namespace Go.Proofs.Ytjmhhbjbmgpagaa
set_option linter.unusedVariables false
set_option linter.unusedSimpArgs false
open Go.RowKit
structure Row where
  A : Option Addr
  n : Nat
  c : Nat
  xs : List Int
def Row.val (r : Row) : Value := .slice r.A r.n r.c
def rowsV (rs : List Row) : List Value := rs.map Row.val
def dat (rs : List Row) : List (List Int) := rs.map Row.xs
/-- A slice of slices of numbers that reads. -/
structure RSS (w : World) (B : Nat) (A : Option Addr) (n : Nat) (rs : List Row) : Prop where
  out : Reads w B 1 A n (rowsV rs)
  row : ∀ r ∈ rs, Reads w B 1 r.A r.n (ints r.xs)
theorem RSS.below {w w' : World} {B n : Nat} {A : Option Addr} {rs : List Row} (h : RSS w B A n rs) (hb : Below B w w') : RSS w' B A n rs :=
  ⟨h.out.below hb, fun r hr => (h.row r hr).below hb⟩
theorem RSS.more {w : World} {B B' n : Nat} {A : Option Addr} {rs : List Row} (h : RSS w B A n rs) (hB : B ≤ B') : RSS w B' A n rs :=
  ⟨h.out.more hB, fun r hr => (h.row r hr).more hB⟩
theorem RSS.len {w : World} {B n : Nat} {A : Option Addr} {rs : List Row} (h : RSS w B A n rs) : rs.length = n := by
  have := h.out.1; simpa [rowsV] using this
theorem rowsV_at {rs : List Row} {k : Nat} {u : Value} (h : (rowsV rs)[k]? = some u) : ∃ r, rs[k]? = some r ∧ u = r.val := by
  unfold rowsV at h
  rw [List.getElem?_map] at h
  cases e : rs[k]? with
  | none => rw [e] at h; simp at h
  | some b => rw [e] at h; simp at h; exact ⟨b, rfl, h.symm⟩
theorem RSS.at_ {w : World} {B n k : Nat} {A : Option Addr} {rs : List Row} (h : RSS w B A n rs) (hk : k < n) :
    ∃ ad r, A = some ad ∧ rs[k]? = some r ∧ w.cell? (ad.add k) = some (.slice r.A r.n r.c) ∧ Reads w B 1 r.A r.n (ints r.xs) := by
  obtain ⟨ad, u, h1, _, h2, h3⟩ := h.out.at_ hk
  obtain ⟨r, h4, rfl⟩ := rowsV_at h2
  exact ⟨ad, r, h1, h4, h3, h.row r (List.mem_of_getElem? h4)⟩
theorem dat_at {rs : List Row} {k : Nat} {r : Row} (h : rs[k]? = some r) : (dat rs)[k]? = some r.xs := by
  unfold dat; rw [List.getElem?_map, h]; rfl
theorem dat_len (rs : List Row) : (dat rs).length = rs.length := by simp [dat]
def tot : List Row → Int
  | [] => 0
  | r :: t => r.n + tot t
theorem tot_nonneg : ∀ rs : List Row, 0 ≤ tot rs
  | [] => by simp [tot]
  | r :: t => by have := tot_nonneg t; simp only [tot]; omega
theorem tot_append (a b : List Row) : tot (a ++ b) = tot a + tot b := by
  induction a with
  | nil => simp [tot]
  | cons r t ih => simp only [List.cons_append, tot, ih]; omega
theorem tot_snoc {rs : List Row} {k : Nat} {r : Row} (h : rs[k]? = some r) : tot (rs.take (k + 1)) = tot (rs.take k) + r.n := by
  rw [List.take_add_one, h, tot_append]; simp [tot]
theorem tot_take (rs : List Row) (k : Nat) : tot (rs.take k) ≤ tot rs := by
  have e := tot_append (rs.take k) (rs.drop k)
  rw [List.take_append_drop] at e
  have := tot_nonneg (rs.drop k)
  omega
theorem tot_mem {rs : List Row} {r : Row} (h : r ∈ rs) : (r.n : Int) ≤ tot rs := by
  induction rs with
  | nil => simp at h
  | cons x t ih =>
    have h0 := tot_nonneg t
    rcases List.mem_cons.1 h with rfl | h
    · simp only [tot]; omega
    · have := ih h; simp only [tot]; omega
/-- What is left of l behind n places and all their numbers, or -1. -/
def szV (l : Int) (n : Nat) (rs : List Row) : Int := if l < n + tot rs then -1 else l - (n + tot rs)
theorem szV_y {l : Int} {n : Nat} {rs : List Row} (h : ¬ l < n + tot rs) : szV l n rs = l - (n + tot rs) := by unfold szV; rw [if_neg h]
theorem szV_n {l : Int} {n : Nat} {rs : List Row} (h : l < n + tot rs) : szV l n rs = -1 := by unfold szV; rw [if_pos h]
theorem szV_ok {l : Int} {n : Nat} {rs : List Row} (h : ¬ szV l n rs < 0) (hl : 0 ≤ l) : n + tot rs ≤ l := by
  unfold szV at h
  by_cases hc : l < n + tot rs
  · rw [if_pos hc] at h; omega
  · omega
theorem szV_bnd {l : Int} {n : Nat} {rs : List Row} (hl : 0 ≤ l) : -1 ≤ szV l n rs ∧ szV l n rs ≤ l := by
  have := tot_nonneg rs
  unfold szV
  split <;> omega
theorem szInt64S_any (A : Option Addr) (n c : Nat) (l : Int) (w : World) (h1 : 0 ≤ l) (h2 : l ≤ 1048576) (hn : n ≤ maxLen) :
    Calls Try.prog 154 #[.slice A n c, .int .i64 l] w fun e w' => e = .returned (.int .i64 (if l < n then -1 else l - n)) ∧ w = w' := by
  unfold maxLen at hn
  by_cases h : l < n
  all_goals
    go_enter Try.func154, Try.ntmps154
    go_wp2
    go_ret
    exact ⟨ret_int (by simp [h]), rfl⟩
set_option maxHeartbeats 400000 in
theorem szInt64SS_any (A : Option Addr) (n c : Nat) (rs : List Row) (l : Int) (w : World) (hr : RSS w w.heap.size A n rs) (h1 : 0 ≤ l) (h2 : l ≤ 1048576) (hn : n ≤ maxLen) (hrn : ∀ r ∈ rs, r.n ≤ maxLen) :
    Calls Try.prog 114 #[.slice A n c, .int .i64 l] w fun e w' => e = .returned (.int .i64 (szV l n rs)) ∧ w = w' := by
  unfold maxLen at hn
  have HL := Lib.hid hr.len
  have HM := Lib.hid hrn
  have t0 := tot_nonneg rs
  clear hrn
  by_cases hb : l < n
  · have HS := Lib.hid (szV_n (l := l) (n := n) (rs := rs) (by omega))
    go_enter Try.func114, Try.ntmps114
    go_wp2
    go_ret
    exact ⟨ret_int HS.out.symm, rfl⟩
  · go_enter Try.func114, Try.ntmps114
    go_wp2
    go_loop [1, 5] (fun s i => ∃ k : Nat, k ≤ n ∧ i = .int .i64 k ∧ s = .int .i64 (l - n - tot (rs.take k)) ∧ n + tot (rs.take k) ≤ l) (fun _ i => n - (intOf i).toNat)
    case atStart => exact ⟨0, by omega, rfl, by simp [tot], by simp [tot]; omega⟩
    case round =>
      obtain ⟨k, hk, rfl, rfl, hok⟩ := hrel
      have p0 := tot_nonneg (rs.take k)
      by_cases hlt : k < n
      · obtain ⟨ad, r, rfl, hx, hc, hrr⟩ := hr.at_ hlt
        have HX := Lib.hid (tot_snoc hx)
        have HT := Lib.hid (tot_take rs (k + 1))
        have hm := HM.out r (List.mem_of_getElem? hx)
        clear hx
        by_cases hs : l - n - tot (rs.take k) < r.n
        · have HS := Lib.hid (szV_n (l := l) (n := n) (rs := rs) (by have := HX.out; have := HT.out; omega))
          go_wp2_with (go_at_call 154; refine (szInt64S_any _ _ _ _ _ (by omega) (by omega) hm).mono ?_; rintro e w' ⟨rfl, rfl⟩; rw [if_pos hs])
          go_ret
          exact ⟨ret_int HS.out.symm, rfl⟩
        · go_wp2_with (go_at_call 154; refine (szInt64S_any _ _ _ _ _ (by omega) (by omega) hm).mono ?_; rintro e w' ⟨rfl, rfl⟩; rw [if_neg hs])
          go_round
          case rel => exact ⟨k + 1, by omega, by go_num, by rw [HX.out]; exact congrArg (Value.int .i64) (by omega), by rw [HX.out]; omega⟩
          case measure => simp [intOf]; omega
      · have e : k = n := by omega
        have HT : Hid (rs.take k = rs) := List.take_of_length_le (by rw [HL.out]; omega)
        have H3 : Hid (tot (rs.take n) = tot rs) := show tot (rs.take n) = tot rs by rw [List.take_of_length_le (by rw [HL.out]; omega)]
        rw [HT.out] at hok
        have HS := Lib.hid (szV_y (l := l) (n := n) (rs := rs) (by omega))
        go_wp2
        go_ret
        exact ⟨ret_int (by rw [HS.out, H3.out]; omega), rfl⟩
/-- A slice of slices of numbers that the call itself made, from block lo on: no two rows share a block. -/
structure OSS (w : World) (lo : Nat) (A : Option Addr) (n c : Nat) (rs : List Row) : Prop where
  out : w.ownsRow lo 25 1 (.slice A n c) n (rowsV rs)
  row : ∀ r ∈ rs, w.ownsRow lo 2 1 r.val r.n (ints r.xs)
  apart : rs.Pairwise fun r s => ∀ k, r.val.ownBlock = some k → s.val.ownBlock = some k → False
theorem OSS.below {w w' : World} {lo n c : Nat} {A : Option Addr} {rs : List Row} (h : OSS w lo A n c rs) (hb : Below w.heap.size w w') : OSS w' lo A n c rs :=
  ⟨own_below h.out hb, fun r hr => own_below (h.row r hr) hb, h.apart⟩
theorem OSS.reads {w : World} {lo n c : Nat} {A : Option Addr} {rs : List Row} (h : OSS w lo A n c rs) : RSS w w.heap.size A n rs :=
  ⟨Reads.of_own h.out, fun r hr => Reads.of_own (c := r.c) (h.row r hr)⟩
theorem OSS.base {w : World} {lo lo' n c : Nat} {A : Option Addr} {rs : List Row} (h : OSS w lo A n c rs) (hl : lo' ≤ lo) : OSS w lo' A n c rs :=
  ⟨own_base h.out hl, fun r hr => own_base (h.row r hr) hl, h.apart⟩
theorem info_Int64SS : (Try.prog.info? 25).map (fun i => (i.zero, i.size, i.bytes)) = some (some (.slice none 0 0), 1, 24) := by kernel_rfl
set_option maxHeartbeats 1600000 in
theorem toInt64SS_any (A : Option Addr) (n c : Nat) (rs : List Row) (w : World) (hr : RSS w w.heap.size A n rs) (hn : n ≤ 1048576) (hrn : ∀ r ∈ rs, r.n ≤ 1048576) :
    Calls Try.prog 117 #[.slice A n c] w fun e w' => ∃ rs', e = .returned (.slice (some ⟨w.heap.size, 0, none⟩) n n) ∧ OSS w' w.heap.size (some ⟨w.heap.size, 0, none⟩) n n rs' ∧ dat rs' = dat rs ∧ Below w.heap.size w w' := by
  have HL := Lib.hid hr.len
  have HM := Lib.hid hrn
  clear hrn
  have hmk := run_make_row' (P := Try.prog) 70 25 (.slice none 0 0) 24 Try.underlying70 info_Int64SS rfl .i64 .i64 n (by omega) (by omega)
  go_enter Try.func117, Try.ntmps117
  go_wp2
  go_loopw [4] (fun i wr => ∃ (k : Nat) (cur : Array Value) (rs' : List Row), k ≤ n ∧ i = .int .i64 k ∧ Blk wr w.heap.size 25 cur ∧
    Hid (cur.size = n ∧ rs'.length = k ∧ dat rs' = (dat rs).take k ∧ (∀ j, j < k → cur[j]? = (rowsV rs')[j]?) ∧ (∀ r ∈ rs', wr.ownsRow (w.heap.size + 1) 2 1 r.val r.n (ints r.xs)) ∧
      rs'.Pairwise fun r s => ∀ k, r.val.ownBlock = some k → s.val.ownBlock = some k → False) ∧ Below w.heap.size w wr) (fun i _ => n - (intOf i).toNat)
  case atStart => exact ⟨0, _, [], by omega, rfl, Blk.new _ _ _, ⟨size_madeCells _ _, rfl, by simp [dat], fun j hj => absurd hj (Nat.not_lt_zero _), fun r h => by simp at h, List.Pairwise.nil⟩, by (repeat (first | exact Below.refl _ _ | assumption | (refine Below.alloc ?_ (by first | exact Nat.le_refl _ | (simp; done) | (simp; omega)) _) | (refine below_drewN ?_ _) | (refine Below.trans ?_ (Below.mono (by assumption) (by first | exact Nat.le_refl _ | (simp; done) | (simp; omega) | omega)))))⟩
  case round =>
    obtain ⟨k, cur, rs', hk, rfl, hbk, HC, hbw⟩ := hrel
    have hz := hbw.size
    have hgl := hbk.lt
    by_cases hlt : k < n
    · obtain ⟨ad, r, rfl, hx, hc, hrr⟩ := (hr.below hbw).at_ hlt
      have hm := HM.out r (List.mem_of_getElem? hx)
      have HX := Lib.hid (dat_at hx)
      clear hx
      go_wp2_with fail; ((with_reducible refine (toInt64S_any r.A r.n r.c r.xs _ (hrr.more hz) hm).mono ?_); rintro e w1 ⟨rfl, ho1, hb1⟩)
      have hbk1 := hbk.below hb1 hgl
      have hcur : k < cur.size := by rw [HC.out.1]; exact hlt
      have hold : w1.cell? ⟨w.heap.size, k, none⟩ = some cur[k] := by rw [hbk1.cell k]; exact Array.getElem?_eq_getElem hcur
      have hfz := hbk1.frozen k
      go_wp2
      go_roundw
      case rel =>
        obtain ⟨c1, c2, c3, c4, c5, c6⟩ := HC.out
        have hown : ∀ q ∈ rs', w1.ownsRow (w.heap.size + 1) 2 1 q.val q.n (ints q.xs) := fun q hq => own_below (c5 q hq) hb1
        refine ⟨k + 1, _, rs' ++ [⟨some ⟨wr.heap.size, 0, none⟩, r.n, r.n, r.xs⟩], by omega, by go_num, hbk1.set_ k _, ⟨by simpa using c1, by simp [c2], ?_, fun j hj => ?_, ?_, ?_⟩, (hbw.trans (hb1.mono hz)).setCell (by simp) _⟩
        · rw [take_snoc' HX.out]
          unfold dat at *
          rw [List.map_append, c3]; rfl
        · rw [Array.getElem?_setIfInBounds]
          unfold rowsV
          rw [List.map_append]
          by_cases hjk : k = j
          · subst hjk
            rw [if_pos rfl, if_pos hcur, List.getElem?_append_right (by simp [c2])]
            simp [c2, Row.val]
          · rw [if_neg hjk, c4 j (by omega), List.getElem?_append_left (by simp [c2]; omega)]
            rfl
        · intro q hq
          rw [List.mem_append, List.mem_singleton] at hq
          rcases hq with hq | rfl
          · exact ownsRow_setCell_below (hown q hq) (by simp) _
          · exact ownsRow_setCell_below (own_base ho1 (by omega)) (by simp) _
        · rw [List.pairwise_append]
          refine ⟨c6, List.pairwise_singleton _ _, fun q hq s hs j h1 h2 => ?_⟩
          rw [List.mem_singleton] at hs
          subst hs
          have h3 := ((c5 q hq).lt j h1).2
          injection h2 with h2
          subst h2
          exact absurd h3 (Nat.lt_irrefl _)
      case measure => simp [intOf]; omega
    · have e : k = n := by omega
      subst e
      go_wp2
      go_ret
      obtain ⟨c1, c2, c3, c4, c5, c6⟩ := HC.out
      refine ⟨rs', rfl, ⟨own_of_blk hbk (by simpa [rowsV] using c2) c1 (wfmax hn) c4, fun r hr => own_base (c5 r hr) (by omega), c6⟩, ?_, hbw⟩
      rw [c3, List.take_of_length_le (by rw [dat_len, HL.out]; omega)]
set_option maxHeartbeats 1600000 in
theorem eqInt64SS_b (A B : Option Addr) (n c d : Nat) (rs qs : List Row) (w : World) (hr : RSS w w.heap.size A n rs) (hq : RSS w w.heap.size B n qs) (hd : dat rs = dat qs) (hn : n ≤ 1099511627776) (hrn : ∀ r ∈ rs, r.n ≤ 1099511627776) :
    Calls Try.prog 123 #[.slice A n c, .slice B n d] w fun e w' => e = .returned (.bool true) ∧ Below w.heap.size w w' := by
  have HM := Lib.hid hrn
  have HD := Lib.hid hd
  clear hrn hd
  go_enter Try.func123, Try.ntmps123
  go_wp2
  go_loopw [5] (fun i wr => ∃ (k : Nat), k ≤ n ∧ i = .int .i64 k ∧ Below w.heap.size w wr) (fun i _ => n - (intOf i).toNat)
  case atStart => exact ⟨0, by omega, rfl, Below.refl _ _⟩
  case round =>
    obtain ⟨k, hk, rfl, hbw⟩ := hrel
    have hz := hbw.size
    by_cases hlt : k < n
    · obtain ⟨ad, r, rfl, hx, hc, hrr⟩ := (hr.below hbw).at_ hlt
      obtain ⟨bd, q, rfl, hx', hc', hqq⟩ := (hq.below hbw).at_ hlt
      have hm := HM.out r (List.mem_of_getElem? hx)
      have hxs : r.xs = q.xs := by
        have h1 := dat_at hx
        rw [HD.out, dat_at hx'] at h1
        exact (Option.some.inj h1).symm
      have hrn : r.n = q.n := by
        have h1 := ints_len hrr
        have h2 := ints_len hqq
        rw [hxs] at h1
        omega
      have hlt' : (k : Int) < (n : Int) := by omega
      rw [hxs] at hrr
      obtain ⟨rA, rn, rc, rxs⟩ := r
      obtain ⟨qA, qn, qc, qxs⟩ := q
      simp only at hrn hrr hqq hc hc' hm
      subst hrn
      clear hx hx' hxs
      have hcall : ∀ m : Nat, Calls Try.prog 16 #[.slice rA rn rc, .slice qA rn qc] (wr.drewN m) fun e w' => e = .returned (.bool true) ∧ ∃ j, w' = (wr.drewN m).drewN j :=
        fun m => eqInt64S_same rA qA rn rc qc qxs _ ((hrr.more hz).drewN m) ((hqq.more hz).drewN m) hm
      have HK := Lib.hid hcall
      clear hcall
      go_wp2_with fail
      go_quiet ((go_at_call 16; exact Calls.quiet_of (HK.out _)))
      go_wp2
      go_roundw
      case rel => exact ⟨k + 1, by omega, by go_num, below_drewN hbw _⟩
      case measure => simp [intOf]; omega
    · go_wp2
      go_ret
      exact ⟨rfl, hbw⟩
end Go.Proofs.Ytjmhhbjbmgpagaa

/- Slices of records: words and plain lemmas. -/
namespace Go.Proofs.Ytjmhhbjbmgpagaa
set_option linter.unusedVariables false
set_option linter.unusedSimpArgs false
open Go.RowKit
/-- The cells cs lie from p on. -/
def Cells (w : World) (p : Addr) (cs : List Value) : Prop := ∀ j u, cs[j]? = some u → w.cell? (p.add j) = some u
section
variable {w w' : World} {p : Addr} {cs : List Value} {u : Value}
theorem Cells.z (h : Cells w p cs) (e : cs[0]? = some u) : w.cell? p = some u := h 0 u e
theorem Cells.at_ (h : Cells w p cs) (j : Nat) (e : cs[j + 1]? = some u) : w.cell? ⟨p.block, p.off + (j + 1), none⟩ = some u := h (j + 1) u e
theorem Cells.keep (h : Cells w p cs) (hk : ∀ q : Addr, q.block = p.block → w'.cell? q = w.cell? q) : Cells w' p cs := fun j u e => by
  rw [hk _ (block_of_add p j)]; exact h j u e
theorem Cells.below {B : Nat} (h : Cells w p cs) (hb : Below B w w') (hp : p.block < B) : Cells w' p cs := h.keep fun q hq => hb.cell (by omega)
theorem Cells.drewN (h : Cells w p cs) (n : Nat) : Cells (w.drewN n) p cs := h
theorem Cells.new (w : World) (a : Array Value) (t : TypeId) : Cells (w.alloc (.cells a t)) ⟨w.heap.size, 0, none⟩ a.toList := fun j u e => by
  rw [Addr.add]
  split
  · rename_i h
    subst h
    rw [(Blk.new w t a).cell 0]
    rwa [Array.getElem?_toList] at e
  · rw [show ({ (⟨w.heap.size, 0, none⟩ : Addr) with off := 0 + j, spot := none } : Addr) = ⟨w.heap.size, j, none⟩ by simp, (Blk.new w t a).cell j]
    rwa [Array.getElem?_toList] at e
end
section
variable {α : Type}
def recs (f : α → List Value) (xs : List α) : List Value := xs.flatMap f
theorem recs_append (f : α → List Value) (xs ys : List α) : recs f (xs ++ ys) = recs f xs ++ recs f ys := by unfold recs; simp
theorem recs_len {f : α → List Value} {z : Nat} (hz : ∀ x, (f x).length = z) (xs : List α) : (recs f xs).length = xs.length * z := by
  induction xs with
  | nil => simp [recs]
  | cons x t ih =>
    have : recs f (x :: t) = f x ++ recs f t := by simp [recs]
    rw [this, List.length_append, ih, hz, List.length_cons, Nat.add_mul]; omega
theorem recs_at {f : α → List Value} {z : Nat} (hz : ∀ x, (f x).length = z) {xs : List α} {k : Nat} {x : α} (h : xs[k]? = some x) {j : Nat} (hj : j < z) : (recs f xs)[k * z + j]? = (f x)[j]? := by
  have hk : k < xs.length := by
    rcases Nat.lt_or_ge k xs.length with h1 | h1
    · exact h1
    · rw [List.getElem?_eq_none h1] at h; cases h
  have e : xs = xs.take k ++ (x :: xs.drop (k + 1)) := by
    have h1 : xs[k] = x := by rw [List.getElem?_eq_getElem hk] at h; exact Option.some.inj h
    rw [← h1, List.getElem_cons_drop, List.take_append_drop]
  have hl : (recs f (xs.take k)).length = k * z := by rw [recs_len hz, List.length_take, Nat.min_eq_left (by omega)]
  rw [e, recs_append, List.getElem?_append_right (by omega), hl, Nat.add_sub_cancel_left]
  have : recs f (x :: xs.drop (k + 1)) = f x ++ recs f (xs.drop (k + 1)) := by simp [recs]
  rw [this, List.getElem?_append_left (by rw [hz]; exact hj)]
theorem Reads.rec_at {f : α → List Value} {z : Nat} (hz : ∀ x, (f x).length = z) {w : World} {B n : Nat} {A : Option Addr} {xs : List α} (h : Reads w B z A n (recs f xs)) (hzp : 0 < z) {k : Nat} (hk : k < n) :
    ∃ ad x, A = some ad ∧ ad.block < B ∧ xs[k]? = some x ∧ Cells w (ad.add (k * z)) (f x) := by
  obtain ⟨ad, e, hb, hc⟩ := h.2 (by omega)
  have hl : xs.length = n := by
    have h1 := h.1
    rw [recs_len hz] at h1
    exact Nat.eq_of_mul_eq_mul_right hzp h1
  refine ⟨ad, xs[k], e, hb, List.getElem?_eq_getElem (by omega), fun j u hu => ?_⟩
  rw [add_of_add]
  have hj : j < z := by
    rcases Nat.lt_or_ge j z with h1 | h1
    · exact h1
    · rw [List.getElem?_eq_none (by rw [hz]; exact h1)] at hu; cases hu
  exact hc _ u (by rw [recs_at hz (List.getElem?_eq_getElem (by omega)) hj]; exact hu)
theorem recs_rlen {f : α → List Value} {z : Nat} (hz : ∀ x, (f x).length = z) (hzp : 0 < z) {w : World} {B n : Nat} {A : Option Addr} {xs : List α} (h : Reads w B z A n (recs f xs)) : xs.length = n := by
  have h1 := h.1
  rw [recs_len hz] at h1
  exact Nat.eq_of_mul_eq_mul_right hzp h1
theorem recs_one {f : α → List Value} (hf : ∀ x, ∀ u ∈ f x, u.oneCell' = true) (xs : List α) : ∀ u ∈ recs f xs, u.oneCell' = true := by
  intro u hu
  unfold recs at hu
  obtain ⟨x, _, hx⟩ := List.mem_flatMap.1 hu
  exact hf x u hx
/-- Some cells are written from a place on. -/
def setL (cur : Array Value) (o : Nat) : List Value → Array Value
  | [] => cur
  | v :: t => setL (cur.setIfInBounds o v) (o + 1) t
theorem setL_size (vs : List Value) : ∀ (cur : Array Value) (o : Nat), (setL cur o vs).size = cur.size := by
  induction vs with
  | nil => intro cur o; rfl
  | cons v t ih => intro cur o; simp only [setL]; rw [ih]; simp
theorem setL_lo (vs : List Value) : ∀ (cur : Array Value) (o j : Nat), j < o → (setL cur o vs)[j]? = cur[j]? := by
  induction vs with
  | nil => intro cur o j h; rfl
  | cons v t ih =>
    intro cur o j h
    simp only [setL]
    rw [ih _ _ _ (by omega), Array.getElem?_setIfInBounds, if_neg (by omega)]
theorem setL_at (vs : List Value) : ∀ (cur : Array Value) (o j : Nat), j < vs.length → o + j < cur.size → (setL cur o vs)[o + j]? = vs[j]? := by
  induction vs with
  | nil => intro cur o j h; simp at h
  | cons v t ih =>
    intro cur o j h hs
    simp only [setL]
    rcases Nat.eq_zero_or_pos j with h0 | h0
    · subst h0
      rw [setL_lo _ _ _ _ (by omega), Array.getElem?_setIfInBounds, if_pos (by omega), if_pos (by omega)]; rfl
    · obtain ⟨i, rfl⟩ : ∃ i, j = i + 1 := ⟨j - 1, by omega⟩
      have h1 := ih (cur.setIfInBounds o v) (o + 1) i (by simp at h; omega) (by simp; omega)
      rw [show o + (i + 1) = o + 1 + i by omega, h1]; simp
theorem rel_set {f : α → List Value} {z : Nat} (hz : ∀ x, (f x).length = z) {xs : List α} {n k : Nat} {x : α} {cur : Array Value} (hx : xs[k]? = some x) (hk : k < n) (hs : cur.size = n * z) (ho : ∀ j, j < k * z → cur[j]? = (recs f xs)[j]?) :
    (setL cur (k * z) (f x)).size = n * z ∧ ∀ j, j < (k + 1) * z → (setL cur (k * z) (f x))[j]? = (recs f xs)[j]? := by
  refine ⟨by rw [setL_size]; exact hs, fun j hj => ?_⟩
  rw [Nat.add_mul, Nat.one_mul] at hj
  rcases Nat.lt_or_ge j (k * z) with h1 | h1
  · rw [setL_lo _ _ _ _ h1]; exact ho j h1
  · obtain ⟨i, rfl⟩ : ∃ i, j = k * z + i := ⟨j - k * z, by omega⟩
    have hkn : (k + 1) * z ≤ n * z := Nat.mul_le_mul_right z hk
    rw [Nat.add_mul, Nat.one_mul] at hkn
    rw [setL_at _ _ _ _ (by rw [hz]; omega) (by omega), recs_at hz hx (by omega)]
theorem own_of_blkZ {w : World} {g e n z : Nat} {cur : Array Value} {xs : List Value} (h : Blk w g e cur) (hl : xs.length = n * z) (hs : cur.size = n * z) (hm : n ≤ maxLen) (hx : ∀ j, j < n * z → cur[j]? = xs[j]?) :
    w.ownsRow g e z (.slice (some ⟨g, 0, none⟩) n n) n xs := by
  refine ⟨hl, .inr ⟨g, n, cur, rfl, Nat.le_refl _, h, Nat.le_refl _, hm, hs, ?_⟩⟩
  apply List.ext_getElem?
  intro j
  rw [List.getElem?_take]
  by_cases hj : j < n * z
  · rw [if_pos hj, Array.getElem?_toList, hx j hj]
  · rw [if_neg hj, List.getElem?_eq_none (by omega)]
theorem run_make_rowN {P : Program} (t e : TypeId) (i : TypeInfo) (z : Value) (ht : P.underlying t = some (.slice e)) (hi : P.info? e = some i) (hz : i.zero = some z)
    (kl kc : IntKind) (n c : Nat) (hnc : n ≤ c) (hbytes : i.bytes * c ≤ 281474976710656) (h63 : c ≤ 9223372036854775807) (w : World) :
    (Instr.makeSlice t (.int kl (n : Int)) (.int kc (c : Int))).run P w = .ok (.slice (some ⟨w.heap.size, 0, none⟩) n c) (w.alloc (.cells (madeCells z.cells (c * i.size)) e)) := by
  have hb : (i.bytes : Int) * (c : Int) ≤ 281474976710656 := by
    have h : ((i.bytes * c : Nat) : Int) ≤ 281474976710656 := by omega
    rwa [Int.natCast_mul] at h
  have hr := run_make (P := P) w t e i z ht hi hz kl kc n c (by omega) (by omega) hb (by omega)
  simp only [Int.toNat_natCast] at hr
  exact hr
/-- What is left of l behind s, or -1. -/
def szI (l s : Int) : Int := if l < s then -1 else l - s
theorem szI_n {l s : Int} (h : l < s) : szI l s = -1 := by unfold szI; rw [if_pos h]
theorem szI_y {l s : Int} (h : ¬ l < s) : szI l s = l - s := by unfold szI; rw [if_neg h]
def sumN (f : α → Nat) : List α → Int
  | [] => 0
  | x :: t => f x + sumN f t
theorem sumN_nonneg (f : α → Nat) : ∀ xs : List α, 0 ≤ sumN f xs
  | [] => by simp [sumN]
  | x :: t => by
    have := sumN_nonneg f t
    simp only [sumN]; omega
theorem sumN_append (f : α → Nat) (xs ys : List α) : sumN f (xs ++ ys) = sumN f xs + sumN f ys := by
  induction xs with
  | nil => simp [sumN]
  | cons x t ih => simp [sumN, ih]; omega
theorem sumN_snoc {f : α → Nat} {xs : List α} {k : Nat} {x : α} (h : xs[k]? = some x) : sumN f (xs.take (k + 1)) = sumN f (xs.take k) + f x := by
  rw [take_snoc h, sumN_append]; simp [sumN]
theorem sumN_take (f : α → Nat) (xs : List α) (k : Nat) : sumN f (xs.take k) ≤ sumN f xs := by
  have h : sumN f xs = sumN f (xs.take k) + sumN f (xs.drop k) := by rw [← sumN_append, List.take_append_drop]
  have := sumN_nonneg f (xs.drop k)
  omega
theorem sumN_mem {f : α → Nat} {xs : List α} {x : α} (h : x ∈ xs) : (f x : Int) ≤ sumN f xs := by
  induction xs with
  | nil => simp at h
  | cons y t ih =>
    have h0 := sumN_nonneg f t
    rcases List.mem_cons.1 h with rfl | h
    · simp only [sumN]; omega
    · have := ih h; simp only [sumN]; omega
end
theorem grown_below {a w w' : World} {row : Option Nat} (h : a.grownBy w row) (hb : Below w.heap.size w w') : a.grownBy w' row :=
  ⟨hb.os.trans h.os, hb.tape.trans h.tape, hb.output.trans h.output, Nat.le_trans h.size hb.size, fun i hi hn => (hb.block i (Nat.lt_of_lt_of_le hi h.size)).trans (h.block i hi hn)⟩
/-- What is left to write has few digits. -/
def Few (s : ByteArray) (k : Nat) : Prop := s.size ≤ 100 ∧ k < 2 ^ (100 - s.size)
theorem few_start {k : Nat} (h : k ≤ 1099511627776) : Few ByteArray.empty k := ⟨by show 0 ≤ 100; omega, Nat.lt_of_le_of_lt h (by show _ < 2 ^ 100; decide)⟩
theorem few_next {s t : ByteArray} {k : Nat} (h : Few s k) (h0 : 0 < k) (ht : t.size = 1) : Few (t ++ s) (k / 10) := by
  obtain ⟨h1, h2⟩ := h
  have e : (t ++ s).size = 1 + s.size := by rw [ByteArray.size_append, ht]
  rcases Nat.lt_or_ge s.size 100 with h3 | h3
  · refine ⟨by omega, ?_⟩
    rw [e]
    have h4 : 2 ^ (100 - s.size) = 2 * 2 ^ (100 - (1 + s.size)) := by
      rw [show 100 - s.size = (100 - (1 + s.size)) + 1 by omega, Nat.pow_succ]; omega
    omega
  · rw [show 100 - s.size = 0 by omega] at h2
    simp at h2; omega
set_option maxHeartbeats 800000 in
set_option maxRecDepth 20000 in
theorem markText_any (k : Int) (w : World) (h0 : 0 ≤ k) (h1 : k ≤ 1099511627776) :
    Calls Try.prog 71 #[.int .i64 k] w fun e w' => ∃ s, e = .returned (.string s) ∧ Below w.heap.size w w' := by
  by_cases hk : k ≤ 0
  · go_enter Try.func71, Try.ntmps71
    go_wp2
    go_ret
    exact ⟨_, rfl, Below.refl _ _⟩
  · have hconv : ∀ (W : World) (n : Int), (convert 135 9 (.slice (some ⟨W.heap.size, 0, none⟩) 1 1)).run Try.prog (W.alloc (.cells #[.int .u8 n] 5)) = .ok (.string (strOfNums [n])) (W.alloc (.cells #[.int .u8 n] 5)) := fun W n =>
      run_convert_bytes_arg _ 135 5 Try.underlying135 Try.underlying5 _ 0 1 1 [n] rfl (fun i hi => by
        obtain rfl : i = 0 := by omega
        exact cell_new1 W _ _) 9 Try.underlying9
    have hone : ∀ n : Int, (strOfNums [n]).size = 1 := fun n => rfl
    go_enter Try.func71, Try.ntmps71
    go_wp2
    go_loopw [0, 3] (fun a o wr => ∃ (k : Nat) (s : ByteArray), a = .int .i64 k ∧ o = .string s ∧ k ≤ 1099511627776 ∧ Hid (Few s k) ∧ Below w.heap.size w wr) (fun a _ _ => (intOf a).toNat)
    case atStart => exact ⟨k.toNat, ByteArray.empty, by go_num, rfl, by omega, few_start (by omega), Below.refl _ _⟩
    case round =>
      obtain ⟨k, s, rfl, rfl, hk1, HS, hbr⟩ := hrel
      have hs : s.size ≤ 100 := HS.out.1
      by_cases hlt : 0 < k
      · go_wp2
        go_roundw
        case rel => exact ⟨k / 10, _, by go_num, rfl, by omega, few_next HS.out hlt (hone _), hbr.alloc hbr.size _⟩
        case measure => simp [intOf]; omega
      · go_wp2
        go_ret
        exact ⟨_, rfl, hbr⟩
end Go.Proofs.Ytjmhhbjbmgpagaa

/- What a call made itself, by the range of its blocks; what another call changed, by range. -/
namespace Go.Proofs.Ytjmhhbjbmgpagaa
set_option linter.unusedVariables false
set_option linter.unusedSimpArgs false
open Go.RowKit
/-- The blocks from lo up to hi are as they were. -/
structure Same (lo hi : Nat) (a b : World) : Prop where
  blk : ∀ i, lo ≤ i → i < hi → b.heap[i]? = a.heap[i]?
  size : a.heap.size ≤ b.heap.size
theorem Same.refl (lo hi : Nat) (a : World) : Same lo hi a a := ⟨fun _ _ _ => rfl, Nat.le_refl _⟩
theorem Same.below {lo hi : Nat} {a b c : World} (h : Same lo hi a b) (hb : Below b.heap.size b c) (hs : hi ≤ b.heap.size) : Same lo hi a c :=
  ⟨fun i h1 h2 => (hb.block i (by omega)).trans (h.blk i h1 h2), Nat.le_trans h.size hb.size⟩
/-- Only the blocks from lo up to hi, and new ones, have changed. -/
structure Chg (lo hi : Nat) (a b : World) : Prop where
  os : b.os = a.os
  tape : b.tape = a.tape
  output : b.output = a.output
  size : a.heap.size ≤ b.heap.size
  blk : ∀ i, i < a.heap.size → (i < lo ∨ hi ≤ i) → b.heap[i]? = a.heap[i]?
theorem Chg.refl (lo hi : Nat) (a : World) : Chg lo hi a a := ⟨rfl, rfl, rfl, Nat.le_refl _, fun _ _ _ => rfl⟩
theorem Chg.trans {lo hi : Nat} {a b c : World} (h : Chg lo hi a b) (k : Chg lo hi b c) : Chg lo hi a c :=
  ⟨k.os.trans h.os, k.tape.trans h.tape, k.output.trans h.output, Nat.le_trans h.size k.size, fun i h1 h2 => (k.blk i (Nat.lt_of_lt_of_le h1 h.size) h2).trans (h.blk i h1 h2)⟩
theorem Chg.of_below {lo hi : Nat} {a b : World} (h : Below a.heap.size a b) : Chg lo hi a b := ⟨h.os, h.tape, h.output, h.size, fun i h1 _ => h.block i h1⟩
theorem Chg.of_grown {lo hi : Nat} {a b : World} {row : Option Nat} (h : a.grownBy b row) (hr : ∀ k, row = some k → lo ≤ k ∧ k < hi) : Chg lo hi a b :=
  ⟨h.os, h.tape, h.output, h.size, fun i h1 h2 => h.block i h1 fun e => by have := hr i e.symm; omega⟩
theorem Same.chg {lo hi l2 h2 : Nat} {a b c : World} (h : Same lo hi a b) (hc : Chg l2 h2 b c) (hs : hi ≤ b.heap.size) (hd : hi ≤ l2 ∨ h2 ≤ lo) : Same lo hi a c :=
  ⟨fun i h1 h3 => (hc.blk i (by omega) (by omega)).trans (h.blk i h1 h3), Nat.le_trans h.size hc.size⟩
theorem below_chg {lo hi B : Nat} {w a b : World} (h : Below B w a) (hc : Chg lo hi a b) (hl : B ≤ lo) (hs : B ≤ a.heap.size) : Below B w b :=
  ⟨hc.os.trans h.os, hc.tape.trans h.tape, hc.output.trans h.output, Nat.le_trans h.size hc.size, fun i hi => (hc.blk i (by omega) (by omega)).trans (h.block i hi)⟩
theorem Same.drew {lo hi : Nat} {a b : World} (h : Same lo hi a b) : Same lo hi a b.drew := ⟨h.blk, h.size⟩
theorem below_drew {B : Nat} {a w : World} (h : Below B a w) : Below B a w.drew := h.drew
theorem below_undrew {w w' : World} (h : Below w.drew.heap.size w.drew w') : Below w.heap.size w w' := ((Below.refl _ _).drew).trans h
theorem Chg.cell {lo hi : Nat} {a b : World} {p : Addr} {v : Value} (h : Chg lo hi a b) (hc : a.cell? p = some v) (hd : p.block < lo ∨ hi ≤ p.block) : b.cell? p = some v :=
  (World.cell?_of_block (h.blk p.block (block_lt_of_cell hc) hd)).trans hc
/-- A row that lies from block lo up to block hi. -/
structure Own (w : World) (lo hi e z : Nat) (A : Option Addr) (n c : Nat) (xs : List Value) : Prop where
  own : w.ownsRow lo e z (.slice A n c) n xs
  top : ∀ k, Value.ownBlock (.slice A n c) = some k → k < hi
theorem own_mk {w : World} {lo e z n c : Nat} {A : Option Addr} {xs : List Value} (h : w.ownsRow lo e z (.slice A n c) n xs) : Own w lo w.heap.size e z A n c xs := ⟨h, fun k hk => (h.lt k hk).2⟩
theorem owns_same {a b : World} {lo hi e z n : Nat} {v : Value} {xs : List Value} (h : a.ownsRow lo e z v n xs) (ht : ∀ k, v.ownBlock = some k → k < hi) (s : Same lo hi a b) : b.ownsRow lo e z v n xs := by
  refine ⟨h.1, ?_⟩
  rcases h.2 with h0 | ⟨g, cap, cur, h1, h2, h3, h4⟩
  · exact .inl h0
  · subst h1
    exact .inr ⟨g, cap, cur, rfl, h2, (s.blk g h2 (ht g rfl)).trans h3, h4⟩
theorem Own.same {a b : World} {lo hi e z n c : Nat} {A : Option Addr} {xs : List Value} (h : Own a lo hi e z A n c xs) (s : Same lo hi a b) : Own b lo hi e z A n c xs := ⟨owns_same h.own h.top s, h.top⟩
theorem Own.range {a : World} {lo hi e z n c : Nat} {A : Option Addr} {xs : List Value} (h : Own a lo hi e z A n c xs) : ∀ k, Value.ownBlock (.slice A n c) = some k → lo ≤ k ∧ k < hi := fun k hk => ⟨(h.own.lt k hk).1, h.top k hk⟩
theorem Own.reads {a : World} {lo hi e z n c : Nat} {A : Option Addr} {xs : List Value} (h : Own a lo hi e z A n c xs) : Reads a a.heap.size z A n xs := Reads.of_own h.own
/-- Rows that the call made, all of them from block lo up to block hi. -/
structure Oss (w : World) (lo hi : Nat) (A : Option Addr) (n c : Nat) (rs : List Row) : Prop where
  oss : OSS w lo A n c rs
  top : ∀ k, Value.ownBlock (.slice A n c) = some k → k < hi
  rtop : ∀ r ∈ rs, ∀ k, r.val.ownBlock = some k → k < hi
theorem oss_mk {w : World} {lo n c : Nat} {A : Option Addr} {rs : List Row} (h : OSS w lo A n c rs) : Oss w lo w.heap.size A n c rs :=
  ⟨h, fun k hk => (h.out.lt k hk).2, fun r hr k hk => ((h.row r hr).lt k hk).2⟩
theorem Oss.same {a b : World} {lo hi n c : Nat} {A : Option Addr} {rs : List Row} (h : Oss a lo hi A n c rs) (s : Same lo hi a b) : Oss b lo hi A n c rs :=
  ⟨⟨owns_same h.oss.out h.top s, fun r hr => owns_same (h.oss.row r hr) (h.rtop r hr) s, h.oss.apart⟩, h.top, h.rtop⟩
theorem Oss.reads {a : World} {lo hi n c : Nat} {A : Option Addr} {rs : List Row} (h : Oss a lo hi A n c rs) : RSS a a.heap.size A n rs := h.oss.reads
/-- Copies of rows are as short as the rows. -/
theorem bound_dat {w w' : World} {B B' n m : Nat} {A A' : Option Addr} {rs rs' : List Row} (h : RSS w B A n rs) (h' : RSS w' B' A' m rs') (hd : dat rs' = dat rs) {M : Nat} (hb : ∀ r ∈ rs, r.n ≤ M) : ∀ r ∈ rs', r.n ≤ M := by
  intro r hr
  obtain ⟨k, hk⟩ := List.getElem?_of_mem hr
  have h1 := dat_at hk
  rw [hd] at h1
  unfold dat at h1
  rw [List.getElem?_map] at h1
  cases e : rs[k]? with
  | none => rw [e] at h1; simp at h1
  | some q =>
    rw [e] at h1
    have h2 : q.xs = r.xs := by simpa using h1
    have h3 := ints_len (h.row q (List.mem_of_getElem? e))
    have h4 := ints_len (h'.row r hr)
    have h5 := hb q (List.mem_of_getElem? e)
    rw [h2] at h3
    omega
theorem szRows_any (A : Option Addr) (n c : Nat) (rs : List Row) (l : Int) (w : World) (hr : RSS w w.heap.size A n rs) (h1 : 0 ≤ l) (h2 : l ≤ 1048576) (hn : n ≤ maxLen) (hrn : ∀ r ∈ rs, r.n ≤ maxLen) :
    Calls Try.prog 114 #[.slice A n c, .int .i64 l] w fun e w' => e = .returned (.int .i64 (szI l (n + tot rs))) ∧ Below w.heap.size w w' :=
  (szInt64SS_any A n c rs l w hr h1 h2 hn hrn).mono fun _ _ ⟨he, hw⟩ => ⟨he, hw ▸ Below.refl _ _⟩
end Go.Proofs.Ytjmhhbjbmgpagaa

/- Contracts of the two square roots, and of sort.Search with a closure that only reads. -/
namespace Go.Proofs.Ytjmhhbjbmgpagaa
set_option linter.unusedVariables false
set_option linter.unusedSimpArgs false
open Go.RowKit
theorem l01Root_any (n : Int) (w : World) (_ : -9223372036854775808 ≤ n) (hn : n ≤ 9223372036854775807) :
    Calls Try.prog 128 #[.int .i64 n] w fun e w' => e = .returned (.int .i64 (rootI n)) ∧ w = w' := by
  have hr0 := rootI_nonneg n
  have hr1 := rootI_max hn
  go_enter Try.func128, Try.ntmps128
  go_wp2
  go_loop [3, 4] (fun l h => ∃ lo hi : Int, 0 ≤ lo ∧ lo ≤ rootI n ∧ rootI n ≤ hi ∧ hi ≤ 3037000499 ∧ l = .int .i64 lo ∧ h = .int .i64 hi) (fun l h => (intOf h - intOf l).toNat)
  case atStart => exact ⟨0, 3037000499, by omega, by omega, by omega, by omega, rfl, rfl⟩
  case round =>
    obtain ⟨lo, hi, h1, h2, h3, h4, rfl, rfl⟩ := hrel
    by_cases hlt : lo < hi
    · have hm := mul_pos_bnd (x := (lo + hi + 1) / 2) (y := (lo + hi + 1) / 2) (X := 3037000499) (Y := 3037000499) (M := 9223372036854775807) (by omega) (by omega) (by omega) (by omega) (by omega)
      obtain ⟨hm1, hm2⟩ := hm
      have hk := rootI_le (n := n) (m := (lo + hi + 1) / 2) (by omega)
      by_cases hc : (lo + hi + 1) / 2 * ((lo + hi + 1) / 2) ≤ n
      · have hle : (lo + hi + 1) / 2 ≤ rootI n := hk.2 (.inr hc)
        clear hk
        go_wp2
        go_round
        case rel => exact ⟨(lo + hi + 1) / 2, hi, by omega, by omega, by omega, by omega, rfl, rfl⟩
        case measure => simp [intOf]; omega
      · have hle : rootI n ≤ (lo + hi + 1) / 2 - 1 := by
          rcases Int.lt_or_le (rootI n) ((lo + hi + 1) / 2) with h5 | h5
          · omega
          · rcases hk.1 h5 with h6 | h6
            · omega
            · exact absurd h6 hc
        clear hk
        go_wp2
        go_round
        case rel => exact ⟨lo, (lo + hi + 1) / 2 - 1, by omega, by omega, by omega, by omega, rfl, rfl⟩
        case measure => simp [intOf]; omega
    · go_wp2
      go_ret
      exact ⟨ret_int (by omega), rfl⟩
set_option maxHeartbeats 400000 in
/-- sort.Search: the first place at which a closure says true, where what it says only turns from false to true. -/
theorem search_any (g : Nat) (cb : Array Value) (N : Int) (n : Nat) (hN : N = (n : Int)) (p : Nat → Bool) (w : World) (eg : ∀ args W, (callFunc g args).run Try.prog W = .ok (.enter g args) W) (hsz : n < 4611686018427387904)
    (hf : ∀ (W : World) (i : Nat), Below w.heap.size w W → i < n → Calls Try.prog g (#[.int .i64 i] ++ cb) W fun e w' => e = .returned (.bool (p i)) ∧ Below W.heap.size W w')
    (hmono : ∀ a b, a ≤ b → b < n → p a = true → p b = true) :
    Calls Try.prog 161 #[.int .i64 N, .func (.func g) #[] cb] w fun e w' => ∃ k : Nat, e = .returned (.int .i64 k) ∧ k ≤ n ∧ (∀ i, i < k → p i = false) ∧ (∀ i, k ≤ i → i < n → p i = true) ∧ Below w.heap.size w w' := by
  subst hN
  have HF := Lib.hid hf
  have HM := Lib.hid hmono
  clear hf hmono
  go_enter Try.func161, Try.ntmps161
  go_wp2
  go_loopw [5, 6] (fun s5 s6 wr => ∃ lo hi : Nat, s5 = .int .i64 lo ∧ s6 = .int .i64 hi ∧ lo ≤ hi ∧ hi ≤ n ∧ Below w.heap.size w wr ∧
    Hid ((∀ t, t < lo → p t = false) ∧ (∀ t, hi ≤ t → t < n → p t = true))) (fun s5 s6 _ => (intOf s6 - intOf s5).toNat)
  case atStart => exact ⟨0, n, rfl, rfl, by omega, by omega, Below.refl _ _, ⟨fun t ht => absurd ht (Nat.not_lt_zero _), fun t h1 h2 => by omega⟩⟩
  case round =>
    obtain ⟨lo, hi, rfl, rfl, hlh, hin, hbw, I⟩ := hrel
    by_cases hlt : lo < hi
    · have hc := HF.out wr ((lo + hi) / 2) hbw (by omega)
      rw [show (((lo + hi) / 2 : Nat) : Int) = ((lo : Int) + (hi : Int)) / 2 by omega] at hc
      cases hp : p ((lo + hi) / 2) <;> rw [hp] at hc
      · have HP := Lib.hid hp
        clear hp
        go_wp2_with (go_at_fn g; refine hc.mono ?_; rintro e w' ⟨rfl, hb1⟩)
        go_roundw
        case rel =>
          refine ⟨(lo + hi) / 2 + 1, hi, by go_num, rfl, by omega, by omega, hbw.trans (hb1.mono hbw.size), ?_, I.out.2⟩
          intro t ht
          cases htt : p t with
          | false => rfl
          | true =>
            have := HM.out t ((lo + hi) / 2) (by omega) (by omega) htt
            rw [HP.out] at this; cases this
        case measure => simp [intOf]; omega
      · have HP := Lib.hid hp
        clear hp
        go_wp2_with (go_at_fn g; refine hc.mono ?_; rintro e w' ⟨rfl, hb1⟩)
        go_roundw
        case rel =>
          refine ⟨lo, (lo + hi) / 2, rfl, by go_num, by omega, by omega, hbw.trans (hb1.mono hbw.size), I.out.1, ?_⟩
          intro t ht1 ht2
          exact HM.out ((lo + hi) / 2) t (by omega) (by omega) HP.out
        case measure => simp [intOf]; omega
    · have e : lo = hi := by omega
      subst e
      go_wp2
      go_ret
      exact ⟨lo, rfl, hin, I.out.1, I.out.2, hbw⟩
theorem rootClosure_any (n : Int) (r : Int) (b : Nat) (w : World) (hc : w.cell? ⟨b, 0, none⟩ = some (.int .i64 n)) (h1 : 0 ≤ r) (h2 : r ≤ 3037000498) :
    Calls Try.prog 162 #[.int .i64 r, .pointer (some ⟨b, 0, none⟩)] w fun e w' => e = .returned (.bool (decide (n < (r + 1) * (r + 1)))) ∧ ∃ m, w' = w.drewN m := by
  obtain ⟨h3, h4⟩ := mul_pos_bnd (x := r + 1) (y := r + 1) (X := 3037000499) (Y := 3037000499) (M := 9223372036854775807) (by omega) (by omega) (by omega) (by omega) (by omega)
  go_enter Try.func162, Try.ntmps162
  go_wp2
  go_ret
  exact ⟨rfl, 0, rfl⟩
set_option maxRecDepth 100000 in
theorem rootSearch (n : Int) (b : Nat) (W : World) (hc : W.cell? ⟨b, 0, none⟩ = some (.int .i64 n)) (hb0 : b < W.heap.size) (hn : n ≤ 9223372036854775807) :
    Calls Try.prog 161 #[.int .i64 3037000499, .func (.func 162) #[] #[.pointer (some ⟨b, 0, none⟩)]] W fun e w' => e = .returned (.int .i64 (rootI n)) ∧ Below W.heap.size W w' := by
  refine (search_any 162 _ 3037000499 3037000499 rfl (fun i => decide (n < ((i : Int) + 1) * ((i : Int) + 1))) W (fun args W => rfl) (by omega) ?hf ?hm).mono ?_
  case hf =>
    intro W' i hb hi
    refine (rootClosure_any n i b W' ?_ (by omega) (by omega)).mono ?_
    · rw [hb.cell (by exact hb0)]; exact hc
    · rintro e w' ⟨rfl, m, rfl⟩
      exact ⟨rfl, below_drewN (Below.refl _ _) _⟩
  case hm =>
    intro a b hab hbn h
    have h := of_decide_eq_true h
    apply decide_eq_true
    have h1 : (a : Int) + 1 ≤ (b : Int) + 1 := by omega
    have h2 := Int.mul_le_mul h1 h1 (by omega) (by omega)
    omega
  rintro e w' ⟨k, rfl, hk1, hk2, hk3, hb⟩
  refine ⟨ret_int ?_, hb⟩
  have h1 := rootI_max hn
  have h2 : (k : Int) ≤ rootI n := by
    refine (rootI_le (by omega)).2 ?_
    by_cases hk0 : k = 0
    · left; omega
    · right
      have h3 := of_decide_eq_false (hk2 (k - 1) (by omega))
      have e : ((k - 1 : Nat) : Int) + 1 = (k : Int) := by omega
      rw [e] at h3; omega
  rcases Nat.lt_or_ge k 3037000499 with h4 | h4
  · have h5 := of_decide_eq_true (hk3 k (by omega) h4)
    rcases Int.lt_or_le (k : Int) (rootI n) with h6 | h6
    · rcases (rootI_le (n := n) (m := (k : Int) + 1) (by omega)).1 (by omega) with h7 | h7 <;> omega
    · omega
  · omega
theorem rootOf_any (n : Int) (w : World) (hn : n ≤ 9223372036854775807) :
    Calls Try.prog 131 #[.int .i64 n] w fun e w' => e = .returned (.int .i64 (rootI n)) ∧ Below w.heap.size w w' := by
  by_cases h0 : n < 0
  · have h1 := rootI_neg h0
    have H1 := Lib.hid h1
    clear h1
    go_enter Try.func131, Try.ntmps131
    go_wp2
    go_ret
    exact ⟨ret_int H1.out.symm, by exact (Below.refl _ _).alloc (Nat.le_refl _) _⟩
  · go_enter Try.func131, Try.ntmps131
    go_wp2_with (go_at_call 161; refine (rootSearch n _ _ (cell_new1 _ _ _) (by simp) hn).mono ?_; rintro e w' ⟨rfl, hb⟩)
    go_ret
    exact ⟨rfl, ((Below.refl _ _).alloc (Nat.le_refl _) _).trans (hb.mono (by simp))⟩
end Go.Proofs.Ytjmhhbjbmgpagaa

/- Contracts of the two tests of a name. -/
namespace Go.Proofs.Ytjmhhbjbmgpagaa
set_option linter.unusedVariables false
set_option linter.unusedSimpArgs false
open Go.RowKit
theorem l01Small_any (c : Int) (w : World) :
    Calls Try.prog 165 #[.int .u8 c] w fun e w' => e = .returned (.bool (inB c 97 122)) ∧ w = w' := by
  unfold inB
  go_enter Try.func165, Try.ntmps165
  go_wp2
  all_goals
    go_ret
    exact ⟨ret_bool (by simp; omega), rfl⟩
theorem l01Digit_any (c : Int) (w : World) :
    Calls Try.prog 166 #[.int .u8 c] w fun e w' => e = .returned (.bool (inB c 48 57)) ∧ w = w' := by
  unfold inB
  go_enter Try.func166, Try.ntmps166
  go_wp2
  all_goals
    go_ret
    exact ⟨ret_bool (by simp; omega), rfl⟩
theorem nonempty_list {s : ByteArray} (h : 1 ≤ s.size) : s.toList.isEmpty = false := by
  rw [ByteArray.toList_eq]
  cases e : s.data.toList with
  | nil => simp [ByteArray.size, ← Array.length_toList, e] at h
  | cons _ _ => rfl
theorem empty_list {s : ByteArray} (h : s.size = 0) : s.toList.isEmpty = true := by
  rw [ByteArray.toList_eq]
  cases e : s.data.toList with
  | nil => rfl
  | cons _ _ => simp [ByteArray.size, ← Array.length_toList, e] at h
set_option maxHeartbeats 800000 in
theorem l01Name_any (s : ByteArray) (w : World) (hs : s.size ≤ maxLen) :
    Calls Try.prog 145 #[.string s] w fun e w' => e = .returned (.bool (isName s)) ∧ w = w' := by
  unfold maxLen at hs
  by_cases h0 : s.size = 0
  · have h1 := empty_list h0
    have h2 := isName_len (s := s) (by omega)
    have H2 := Lib.hid h2
    clear h0 h2
    go_enter Try.func145, Try.ntmps145
    go_wp2
    go_ret
    exact ⟨ret_bool H2.out.symm, rfl⟩
  have h1 := nonempty_list (s := s) (by omega)
  by_cases h10 : 10 < s.size
  · have h2 := isName_len (s := s) (by omega)
    have H2 := Lib.hid h2
    clear h0 h2
    go_enter Try.func145, Try.ntmps145
    go_wp2
    go_ret
    exact ⟨ret_bool H2.out.symm, rfl⟩
  have hlen : 0 < s.size := by omega
  have H : Hid (1 ≤ s.size ∧ s.size ≤ 10) := ⟨by omega, by omega⟩
  have HB := Lib.hid (byte_at hlen)
  clear h0
  rcases Bool.eq_false_or_eq_true (inB (s[0]!).toNat 97 122) with h3 | h3
  · have H3 := Lib.hid (isName_rest H.out h3)
    rw [HB.out] at h3
    go_enter Try.func145, Try.ntmps145
    go_wp2_with (go_at_call 165; refine (l01Small_any _ _).mono ?_; rintro e w' ⟨rfl, rfl⟩)
    go_loop [3] (fun i => ∃ k : Nat, k ≤ s.size ∧ i = .int .i64 k ∧ Hid (∀ j, j < k → nameB s[j]! = true)) (fun i => s.size - (intOf i).toNat)
    case atStart => exact ⟨0, by omega, rfl, fun j hj => absurd hj (Nat.not_lt_zero _)⟩
    case round =>
      obtain ⟨k, hk, rfl, HK⟩ := hrel
      by_cases hlt : k < s.size
      · have HBk := Lib.hid (byte_at hlt)
        rcases Bool.eq_false_or_eq_true (inB (s[k]!).toNat 97 122) with h4 | h4 <;> rcases Bool.eq_false_or_eq_true (inB (s[k]!).toNat 48 57) with h5 | h5
        · have HN : Hid (nameB s[k]! = true) := by show nameB _ = _; simp [nameB, h4]
          rw [HBk.out] at h4 h5
          go_wp2_with (first | (go_at_call 165; refine (l01Small_any _ _).mono ?_; rintro e w' ⟨rfl, rfl⟩) | (go_at_call 166; refine (l01Digit_any _ _).mono ?_; rintro e w' ⟨rfl, rfl⟩))
          go_round
          case rel =>
            refine ⟨k + 1, by omega, by go_num, fun j hj => ?_⟩
            rcases Nat.lt_or_ge j k with hjk | hjk
            · exact HK.out j hjk
            · obtain rfl : j = k := by omega
              exact HN.out
          case measure => simp [intOf]; omega
        · have HN : Hid (nameB s[k]! = true) := by show nameB _ = _; simp [nameB, h4]
          rw [HBk.out] at h4 h5
          go_wp2_with (first | (go_at_call 165; refine (l01Small_any _ _).mono ?_; rintro e w' ⟨rfl, rfl⟩) | (go_at_call 166; refine (l01Digit_any _ _).mono ?_; rintro e w' ⟨rfl, rfl⟩))
          go_round
          case rel =>
            refine ⟨k + 1, by omega, by go_num, fun j hj => ?_⟩
            rcases Nat.lt_or_ge j k with hjk | hjk
            · exact HK.out j hjk
            · obtain rfl : j = k := by omega
              exact HN.out
          case measure => simp [intOf]; omega
        · have HN : Hid (nameB s[k]! = true) := by show nameB _ = _; simp [nameB, h5]
          rw [HBk.out] at h4 h5
          go_wp2_with (first | (go_at_call 165; refine (l01Small_any _ _).mono ?_; rintro e w' ⟨rfl, rfl⟩) | (go_at_call 166; refine (l01Digit_any _ _).mono ?_; rintro e w' ⟨rfl, rfl⟩))
          go_round
          case rel =>
            refine ⟨k + 1, by omega, by go_num, fun j hj => ?_⟩
            rcases Nat.lt_or_ge j k with hjk | hjk
            · exact HK.out j hjk
            · obtain rfl : j = k := by omega
              exact HN.out
          case measure => simp [intOf]; omega
        · have HN : Hid (nameB s[k]! = false) := by show nameB _ = _; simp [nameB, h4, h5]
          rw [HBk.out] at h4 h5
          go_wp2_with (first | (go_at_call 165; refine (l01Small_any _ _).mono ?_; rintro e w' ⟨rfl, rfl⟩) | (go_at_call 166; refine (l01Digit_any _ _).mono ?_; rintro e w' ⟨rfl, rfl⟩))
          go_ret
          exact ⟨ret_bool (by rw [H3.out, allUpto_f hlt HN.out]), rfl⟩
      · go_wp2
        go_ret
        exact ⟨ret_bool (by rw [H3.out, allUpto_t fun j hj => HK.out j (by omega)]), rfl⟩
  · have H3 := Lib.hid (isName_head h3)
    rw [HB.out] at h3
    go_enter Try.func145, Try.ntmps145
    go_wp2_with (go_at_call 165; refine (l01Small_any _ _).mono ?_; rintro e w' ⟨rfl, rfl⟩)
    go_ret
    exact ⟨ret_bool H3.out.symm, rfl⟩
set_option maxHeartbeats 800000 in
theorem onlyNameBytes_any (s : ByteArray) (w : World) (hs : s.size ≤ maxLen) :
    Calls Try.prog 167 #[.string s] w fun e w' => e = .returned (.bool (allUpto s.size fun k => nameB s[k]!)) ∧ w = w' := by
  unfold maxLen at hs
  go_enter Try.func167, Try.ntmps167
  go_wp2
  go_loop [7] (fun i => ∃ k : Nat, k ≤ s.size ∧ i = .int .i64 k ∧ Hid (∀ j, j < k → nameB s[j]! = true)) (fun i => s.size - (intOf i).toNat)
  case atStart => exact ⟨0, by omega, rfl, fun j hj => absurd hj (Nat.not_lt_zero _)⟩
  case round =>
    obtain ⟨k, hk, rfl, HK⟩ := hrel
    by_cases hlt : k < s.size
    · have HBk := Lib.hid (byte_at hlt)
      by_cases h4 : (97 : Int) ≤ (s[k].toNat : Int) ∧ (s[k].toNat : Int) ≤ 122 ∨ (48 : Int) ≤ (s[k].toNat : Int) ∧ (s[k].toNat : Int) ≤ 57
      · have HN : Hid (nameB s[k]! = true) := by show nameB _ = _; rw [HBk.out]; unfold nameB inB; simp only [Bool.or_eq_true, decide_eq_true_eq]; exact h4
        go_wp2
        all_goals
          first
          | (go_round
             case rel =>
               refine ⟨k + 1, by omega, by go_num, fun j hj => ?_⟩
               rcases Nat.lt_or_ge j k with hjk | hjk
               · exact HK.out j hjk
               · obtain rfl : j = k := by omega
                 exact HN.out
             case measure => simp [intOf]; omega)
          | (exfalso; omega)
      · have HN : Hid (nameB s[k]! = false) := by
          show nameB _ = _; rw [HBk.out]; unfold nameB inB
          rw [Bool.or_eq_false_iff]
          exact ⟨decide_eq_false fun h => h4 (.inl h), decide_eq_false fun h => h4 (.inr h)⟩
        go_wp2
        all_goals
          first
          | (go_ret
             exact ⟨ret_bool (by rw [allUpto_f hlt HN.out]), rfl⟩)
          | (exfalso; omega)
    · go_wp2
      go_ret
      exact ⟨ret_bool (by rw [allUpto_t fun j hj => HK.out j (by omega)]), rfl⟩
theorem isName_any (s : ByteArray) (w : World) (hs : s.size ≤ maxLen) :
    Calls Try.prog 147 #[.string s] w fun e w' => e = .returned (.bool (isName s)) ∧ w = w' := by
  have hs' := hs
  unfold maxLen at hs
  by_cases h : 1 ≤ s.size ∧ s.size ≤ 10
  · obtain ⟨ha, hb⟩ := h
    have hlen : 0 < s.size := by omega
    have HB := Lib.hid (byte_at hlen)
    by_cases hc : (97 : Int) ≤ (s[0].toNat : Int) ∧ (s[0].toNat : Int) ≤ 122
    · have H3 : Hid (isName s = _) := isName_rest ⟨ha, hb⟩ (by rw [HB.out]; exact decide_eq_true hc)
      obtain ⟨hc1, hc2⟩ := hc
      go_enter Try.func147, Try.ntmps147
      go_wp2_with (go_at_call 167; refine (onlyNameBytes_any _ _ hs').mono ?_; rintro e w' ⟨rfl, rfl⟩)
      go_ret
      exact ⟨ret_bool H3.out.symm, rfl⟩
    · have H3 : Hid (isName s = false) := isName_head (by rw [HB.out]; exact decide_eq_false hc)
      go_enter Try.func147, Try.ntmps147
      go_wp2_with (go_at_call 167; refine (onlyNameBytes_any _ _ hs').mono ?_; rintro e w' ⟨rfl, rfl⟩)
      all_goals
        first
        | (go_ret
           exact ⟨ret_bool H3.out.symm, rfl⟩)
        | (exfalso; omega)
  · have H3 : Hid (isName s = false) := isName_len h
    go_enter Try.func147, Try.ntmps147
    go_wp2_with (go_at_call 167; refine (onlyNameBytes_any _ _ hs').mono ?_; rintro e w' ⟨rfl, rfl⟩)
    all_goals
      first
      | (go_ret
         exact ⟨ret_bool H3.out.symm, rfl⟩)
      | (exfalso; omega)
end Go.Proofs.Ytjmhhbjbmgpagaa

/- Contracts of the functions on the density of air and the draught of a column. -/
namespace Go.Proofs.Ytjmhhbjbmgpagaa
set_option linter.unusedVariables false
set_option linter.unusedSimpArgs false
open Go.RowKit
def warmT (t : Int) : Int := dr 3531183 (2731 + t)
def warmR (t : Int) : Int × Int := if inB t (-300) 600 = true then (warmT t, 0) else (0, 2)
theorem l09Temp_any (t : Int) (w : World) :
    Calls Try.prog 142 #[.int .i64 t] w fun e w' => e = .returned (.bool (inB t (-300) 600)) ∧ w = w' := by
  go_enter Try.func142, Try.ntmps142
  go_wp2_with (go_at_call 77; refine (l00In_any _ _ _ _).mono ?_; rintro e w' ⟨rfl, rfl⟩)
  go_ret
  exact ⟨rfl, rfl⟩
theorem l09Density_any (t : Int) (w : World) (h : inB t (-300) 600 = true) :
    Calls Try.prog 143 #[.int .i64 t] w fun e w' => e = .returned (.int .i64 (warmT t)) ∧ w = w' := by
  obtain ⟨h1, h2⟩ := inB_t h
  clear h
  go_enter Try.func143, Try.ntmps143
  go_wp2_with (go_at_call 127; refine (l01Div_any _ _ _ (by omega) (by omega) (by omega) (by omega)).mono ?_; rintro e w' ⟨rfl, rfl⟩)
  go_ret
  exact ⟨rfl, rfl⟩
theorem warmDensity_any (t : Int) (w : World) (h : inB t (-300) 600 = true) :
    Calls Try.prog 144 #[.int .i64 t] w fun e w' => e = .returned (.int .i64 (warmT t)) ∧ ∃ n, w' = w.drewN n := by
  obtain ⟨h1, h2⟩ := inB_t h
  clear h
  go_enter Try.func144, Try.ntmps144
  go_wp2_with (go_at_call 130; refine (divRound_any _ _ _ (by omega) (by omega) (by omega) (by omega)).mono ?_; rintro e w' ⟨rfl, n, rfl⟩)
  go_ret
  exact ⟨rfl, _, rfl⟩
theorem warmT_bnd (t : Int) (h : inB t (-300) 600 = true) : 0 ≤ warmT t ∧ warmT t ≤ 3531183 := by
  have := inB_t h
  exact ⟨dr_nonneg (by omega) (by omega), (dr_bnd (m := 3531183) (by omega) (by omega) (by omega)).2⟩
def columnT (r t : Int) : Int := dr (981 * (1200 - warmT t) * r) 100000
def columnR (r t : Int) : Int × Int := if inB r (-6000) 6000 = true ∧ inB t (-300) 600 = true then (columnT r t, 0) else (0, 2)
theorem column_bnd (r t : Int) (hr : inB r (-6000) 6000 = true) (ht : inB t (-300) 600 = true) :
    -100000000000000 ≤ 981 * (1200 - warmT t) * r ∧ 981 * (1200 - warmT t) * r ≤ 100000000000000 := by
  have := warmT_bnd t ht
  have := inB_t hr
  exact mul_bnd (X := 3464090523) (Y := 6000) (by omega) (by omega) (by omega) (by omega) (by omega)
theorem l09Column_any (r t : Int) (w : World) (hr : inB r (-6000) 6000 = true) (ht : inB t (-300) 600 = true) :
    Calls Try.prog 94 #[.int .i64 r, .int .i64 t] w fun e w' => e = .returned (.int .i64 (columnT r t)) ∧ w = w' := by
  obtain ⟨h1, h2⟩ := column_bnd r t hr ht
  obtain ⟨h3, h4⟩ := warmT_bnd t ht
  go_enter Try.func94, Try.ntmps94
  go_wp2_with (first | (go_at_call 143; refine (l09Density_any _ _ ht).mono ?_; rintro e w' ⟨rfl, rfl⟩) | (go_at_call 127; refine (l01Div_any _ _ _ (by omega) (by omega) (by omega) (by omega)).mono ?_; rintro e w' ⟨rfl, rfl⟩))
  go_ret
  exact ⟨rfl, rfl⟩
theorem columnDraught_any (r t : Int) (w : World) (hr : inB r (-6000) 6000 = true) (ht : inB t (-300) 600 = true) :
    Calls Try.prog 100 #[.int .i64 r, .int .i64 t] w fun e w' => e = .returned (.int .i64 (columnT r t)) ∧ ∃ n, w' = w.drewN n := by
  obtain ⟨h1, h2⟩ := column_bnd r t hr ht
  obtain ⟨h3, h4⟩ := warmT_bnd t ht
  go_enter Try.func100, Try.ntmps100
  go_wp2_with (first | (go_at_call 144; refine (warmDensity_any _ _ ht).mono ?_; rintro e w' ⟨rfl, n1, rfl⟩) | (go_at_call 130; refine (divRound_any _ _ _ (by omega) (by omega) (by omega) (by omega)).mono ?_; rintro e w' ⟨rfl, n2, rfl⟩))
  go_ret
  exact ⟨rfl, _, rfl⟩
end Go.Proofs.Ytjmhhbjbmgpagaa

/- Contracts of resistances and conductances. -/
namespace Go.Proofs.Ytjmhhbjbmgpagaa
set_option linter.unusedVariables false
set_option linter.unusedSimpArgs false
open Go.RowKit
def isRes (r : Int) : Bool := inB r 1 1000000
theorem isRes_t {r : Int} (h : isRes r = true) : 1 ≤ r ∧ r ≤ 1000000 := inB_t h
def cond (r : Int) : Int := rootI (10000000000000000 / r)
def condR (r : Int) : Int × Int := if isRes r = true then (cond r, 0) else (0, 2)
def orifR (r : Int) : Int × Int := if isRes r = true then (rootI (14161000000 / r), 0) else (0, 2)
theorem quo_bnd {a r : Int} (ha : 0 ≤ a) (h : isRes r = true) : 0 ≤ a / r ∧ a / r ≤ a := ediv_bounds ha (by have := isRes_t h; omega) (Int.le_refl _)
theorem cond_bnd {r : Int} (h : isRes r = true) : 100000 ≤ cond r ∧ cond r ≤ 100000000 := by
  have h1 := isRes_t h
  have h2 := quo_bnd (a := 10000000000000000) (by omega) h
  refine ⟨?_, (rootI_bnd (n := 10000000000000000 / r) (M := 100000000) (m := 0) (by omega) (by omega)).2⟩
  refine (rootI_le (by omega)).2 (.inr ?_)
  have h3 : 10000000000 ≤ 10000000000000000 / r := by
    apply Int.le_ediv_of_mul_le (by omega)
    omega
  omega
theorem l03Res_any (r : Int) (w : World) :
    Calls Try.prog 132 #[.int .i64 r] w fun e w' => e = .returned (.bool (isRes r)) ∧ w = w' := by
  go_enter Try.func132, Try.ntmps132
  go_wp2_with (go_at_call 77; refine (l00In_any _ _ _ _).mono ?_; rintro e w' ⟨rfl, rfl⟩)
  go_ret
  exact ⟨rfl, rfl⟩
theorem l08Conductance_any (r : Int) (w : World) (h : isRes r = true) :
    Calls Try.prog 163 #[.int .i64 r] w fun e w' => e = .returned (.int .i64 (cond r)) ∧ w = w' := by
  obtain ⟨h1, h2⟩ := isRes_t h
  obtain ⟨h3, h4⟩ := quo_bnd (a := 10000000000000000) (by omega) h
  have h5 : r ≠ 0 := by omega
  clear h
  go_enter Try.func163, Try.ntmps163
  go_wp2_with (go_at_call 128; refine (l01Root_any _ _ (by omega) (by omega)).mono ?_; rintro e w' ⟨rfl, rfl⟩)
  go_ret
  exact ⟨rfl, rfl⟩
theorem conductance_any (r : Int) (w : World) (h : isRes r = true) :
    Calls Try.prog 164 #[.int .i64 r] w fun e w' => e = .returned (.int .i64 (cond r)) ∧ Below w.heap.size w w' := by
  obtain ⟨h1, h2⟩ := isRes_t h
  obtain ⟨h3, h4⟩ := quo_bnd (a := 10000000000000000) (by omega) h
  have h5 : r ≠ 0 := by omega
  clear h
  go_enter Try.func164, Try.ntmps164
  go_wp2_with (go_at_call 131; refine (rootOf_any _ _ (by omega)).mono ?_; rintro e w' ⟨rfl, hb⟩)
  go_ret
  exact ⟨rfl, hb⟩
end Go.Proofs.Ytjmhhbjbmgpagaa

/- Contracts on lists of numbers: sums, bounds, series, drops. -/
namespace Go.Proofs.Ytjmhhbjbmgpagaa
set_option linter.unusedVariables false
set_option linter.unusedSimpArgs false
open Go.RowKit
theorem l00Min_any (a b : Int) (w : World) :
    Calls Try.prog 129 #[.int .i64 a, .int .i64 b] w fun e w' => e = .returned (.int .i64 (min a b)) ∧ w = w' := by
  go_enter Try.func129, Try.ntmps129
  go_wp2
  all_goals
    go_ret
    exact ⟨ret_int (by omega), rfl⟩
theorem l00Max_any (a b : Int) (w : World) :
    Calls Try.prog 113 #[.int .i64 a, .int .i64 b] w fun e w' => e = .returned (.int .i64 (max a b)) ∧ w = w' := by
  go_enter Try.func113, Try.ntmps113
  go_wp2
  all_goals
    go_ret
    exact ⟨ret_int (by omega), rfl⟩
theorem l03Abs_any (a : Int) (w : World) (h1 : -9223372036854775807 ≤ a) (h2 : a ≤ 9223372036854775807) :
    Calls Try.prog 58 #[.int .i64 a] w fun e w' => e = .returned (.int .i64 (absI a)) ∧ w = w' := by
  go_enter Try.func58, Try.ntmps58
  go_wp2_with fail; ((with_reducible refine (l00Max_any _ _ _).mono ?_); rintro e w' ⟨rfl, rfl⟩)
  go_wp2
  go_ret
  exact ⟨ret_int (by unfold absI; omega), rfl⟩
def isFlow (q : Int) : Bool := inB q (-100000) 100000
theorem isFlow_t {q : Int} (h : isFlow q = true) : -100000 ≤ q ∧ q ≤ 100000 := inB_t h
theorem l03Flow_any (r : Int) (w : World) :
    Calls Try.prog 49 #[.int .i64 r] w fun e w' => e = .returned (.bool (isFlow r)) ∧ w = w' := by
  go_enter Try.func49, Try.ntmps49
  go_wp2_with fail; ((with_reducible refine (l00In_any _ _ _ _).mono ?_); rintro e w' ⟨rfl, rfl⟩)
  go_wp2
  go_ret
  exact ⟨rfl, rfl⟩
def drop (r q : Int) : Int := dr (r * q * absI q) 10000000000
theorem drop_in {r q : Int} (hr : isRes r = true) (hq : isFlow q = true) : -100000000000 ≤ r * q ∧ r * q ≤ 100000000000 ∧ -10000000000000000 ≤ r * q * absI q ∧ r * q * absI q ≤ 10000000000000000 := by
  obtain ⟨h1, h2⟩ := isRes_t hr
  obtain ⟨h3, h4⟩ := isFlow_t hq
  obtain ⟨h5, h6⟩ := mul_bnd (x := r) (y := q) (X := 1000000) (Y := 100000) (M := 100000000000) (by omega) (by omega) (by omega) (by omega) (by omega)
  have h7 := absI_nonneg q
  have h8 := absI_le (n := q) (b := 100000) (by omega) (by omega)
  obtain ⟨h9, h10⟩ := mul_bnd (x := r * q) (y := absI q) (X := 100000000000) (Y := 100000) (M := 10000000000000000) (by omega) (by omega) (by omega) (by omega) (by omega)
  exact ⟨h5, h6, h9, h10⟩
theorem drop_bnd {r q : Int} (hr : isRes r = true) (hq : isFlow q = true) : -1000000 ≤ drop r q ∧ drop r q ≤ 1000000 := by
  obtain ⟨_, _, h1, h2⟩ := drop_in hr hq
  exact dr_scale (by omega) (by omega) (by omega)
theorem dr_mono {a b c : Int} (hc : 0 < c) (h : a ≤ b) : dr a c ≤ dr b c := by
  have key : ∀ x : Int, dr x c = if x < 0 then -((2 * (-x) + c) / (2 * c)) else (2 * x + c) / (2 * c) := by
    intro x; unfold dr
    by_cases hx : x < 0
    · rw [if_pos hx, if_pos hx]
      have e : c - 2 * x = 2 * (-x) + c := by omega
      rw [e]
    · rw [if_neg hx, if_neg hx]
  rw [key, key]
  have n1 : ∀ x : Int, 0 ≤ x → 0 ≤ (2 * x + c) / (2 * c) := fun x hx => Int.ediv_nonneg (by omega) (by omega)
  by_cases ha : a < 0 <;> by_cases hb : b < 0
  · rw [if_pos ha, if_pos hb]
    have := Int.ediv_le_ediv (c := 2 * c) (by omega) (show 2 * (-b) + c ≤ 2 * (-a) + c by omega)
    omega
  · rw [if_pos ha, if_neg hb]
    have h1 := n1 (-a) (by omega)
    have h2 := n1 b (by omega)
    omega
  · omega
  · rw [if_neg ha, if_neg hb]
    exact Int.ediv_le_ediv (by omega) (by omega)
theorem l03Drop_any (r q : Int) (w : World) (hr : isRes r = true) (hq : isFlow q = true) :
    Calls Try.prog 159 #[.int .i64 r, .int .i64 q] w fun e w' => e = .returned (.int .i64 (drop r q)) ∧ w = w' := by
  obtain ⟨h1, h2, h3, h4⟩ := drop_in hr hq
  obtain ⟨h5, h6⟩ := isFlow_t hq
  clear hr hq
  go_enter Try.func159, Try.ntmps159
  go_wp2_with fail; ((with_reducible refine (l03Abs_any _ _ (by omega) (by omega)).mono ?_); rintro e w' ⟨rfl, rfl⟩)
  go_wp2_with fail; ((with_reducible refine (l01Div_any _ _ _ (by omega) (by omega) (by omega) (by omega)).mono ?_); rintro e w' ⟨rfl, rfl⟩)
  go_wp2
  go_ret
  exact ⟨rfl, rfl⟩
theorem dropOf_any (r q : Int) (w : World) (hr : isRes r = true) (hq : isFlow q = true) :
    Calls Try.prog 160 #[.int .i64 r, .int .i64 q] w fun e w' => e = .returned (.int .i64 (drop r q)) ∧ ∃ n, w' = w.drewN n := by
  obtain ⟨h1, h2, h3, h4⟩ := drop_in hr hq
  obtain ⟨h5, h6⟩ := isFlow_t hq
  clear hr hq
  go_enter Try.func160, Try.ntmps160
  go_wp2_with fail; ((with_reducible refine (abs_any _ _ (by omega) (by omega)).mono ?_); rintro e w' ⟨rfl, rfl⟩)
  go_wp2_with fail; ((with_reducible refine (divRound_any _ _ _ (by omega) (by omega) (by omega) (by omega)).mono ?_); rintro e w' ⟨rfl, n1, rfl⟩)
  go_wp2
  go_ret
  exact ⟨rfl, _, rfl⟩
def resList (xs : List Int) : Bool := decide (1 ≤ xs.length ∧ xs.length ≤ 24) && allIn 1 1000000 xs
theorem resList_t {xs : List Int} (h : resList xs = true) : (1 ≤ xs.length ∧ xs.length ≤ 24) ∧ allIn 1 1000000 xs = true := by
  unfold resList at h
  rw [Bool.and_eq_true, decide_eq_true_eq] at h
  exact h
def dropList (xs : List Int) : Bool := decide (xs.length ≤ 64) && allIn (-10000) 10000 xs
theorem dropList_t {xs : List Int} (h : dropList xs = true) : xs.length ≤ 64 ∧ allIn (-10000) 10000 xs = true := by
  unfold dropList at h
  rw [Bool.and_eq_true, decide_eq_true_eq] at h
  exact h
set_option maxHeartbeats 800000 in
theorem l08List_any (A : Option Addr) (n c : Nat) (xs : List Int) (w : World) (hr : Reads w w.heap.size 1 A n (ints xs)) (hn : n ≤ 1048576) :
    Calls Try.prog 83 #[.slice A n c] w fun e w' => e = .returned (.bool (resList xs)) ∧ w = w' := by
  have HL := Lib.hid (ints_len hr)
  go_enter Try.func83, Try.ntmps83
  go_wp2
  go_loop [3] (fun i => ∃ k : Nat, k ≤ n ∧ i = .int .i64 k ∧ Hid ((xs.take k).all (fun x => inB x 1 1000000) = true)) (fun i => n - (intOf i).toNat)
  case atStart => exact ⟨0, by omega, rfl, rfl⟩
  case round =>
    obtain ⟨k, hk, rfl, HK⟩ := hrel
    by_cases hlt : k < n
    · obtain ⟨ad, u, rfl, had, hx, hc⟩ := hr.at_ hlt
      obtain ⟨b, hb, rfl⟩ := ints_at hx
      have HX := Lib.hid hb
      clear hb hx
      cases hp : isRes b
      · have HP : Hid (isRes b = false) := hp
        go_wp2_with (go_at_call 132; refine (l03Res_any _ _).mono ?_; rintro e w' ⟨rfl, rfl⟩)
        go_ret
        exact ⟨ret_bool (by unfold resList allIn; rw [all_false (p := fun x => inB x 1 1000000) HX.out HP.out, Bool.and_false]), rfl⟩
      · have HP : Hid (isRes b = true) := hp
        go_wp2_with (go_at_call 132; refine (l03Res_any _ _).mono ?_; rintro e w' ⟨rfl, rfl⟩)
        go_round
        case rel => exact ⟨k + 1, by omega, by go_num, all_take HX.out HK.out HP.out⟩
        case measure => simp [intOf]; omega
    · have e : k = n := by omega
      subst e
      have HA : Hid (allIn 1 1000000 xs = true) := all_whole HL.out HK.out
      by_cases h1 : 1 ≤ k <;> by_cases h24 : k ≤ 24
      all_goals
        first
        | (exfalso; omega)
        | (have HR : Hid (resList xs = decide (1 ≤ k ∧ k ≤ 24)) := by show resList xs = _; unfold resList; rw [HA.out, HL.out, Bool.and_true]
           go_wp2
           go_ret
           refine ⟨ret_bool ?_, rfl⟩
           rw [HR.out]
           first
           | exact Bool.eq_iff_iff.2 (by simp only [decide_eq_true_eq]; omega)
           | exact (decide_eq_false (by omega)).symm
           | exact (decide_eq_true (by omega)).symm)
def serR (xs : List Int) : Int × Int := if resList xs = true then (if 1000000 < sumI xs then (0, 6) else (sumI xs, 0)) else (0, 2)
theorem serR_ok {xs : List Int} (h : resList xs = true) (hs : ¬ 1000000 < sumI xs) : serR xs = (sumI xs, 0) := by unfold serR; rw [if_pos h, if_neg hs]
theorem serR_big {xs : List Int} (h : resList xs = true) (hs : 1000000 < sumI xs) : serR xs = (0, 6) := by unfold serR; rw [if_pos h, if_pos hs]
theorem res_range {xs : List Int} (h : resList xs = true) : ∀ x ∈ xs, -1000000 ≤ x ∧ x ≤ 1000000 := fun x hx => by
  have := allIn_mem (resList_t h).2 hx; omega
end Go.Proofs.Ytjmhhbjbmgpagaa

/- Contracts of locks of doors. -/
namespace Go.Proofs.Ytjmhhbjbmgpagaa
set_option linter.unusedVariables false
set_option linter.unusedSimpArgs false
open Go.RowKit
theorem quietB' {P : Program} {f : FuncId} {args : Array Value} {w : World} {n : Nat} {b c : Bool}
    (h : Calls P f args (w.drewN n) fun e w' => e = .returned (.bool b) ∧ w.drewN n = w') (hb : b = c) : Calls P f args (w.drewN n) fun e w'' => e = .returned (.bool c) ∧ ∃ m, w'' = w.drewN m :=
  h.mono fun _ _ ⟨he, hm⟩ => ⟨by rw [he, hb], n, hm.symm⟩
def lockN (ls : List (List Int)) (k : Nat) : Nat := (ls.getD k []).length
def lockA (ls : List (List Int)) (k : Nat) : Int := (ls.getD k []).getD 0 0
def lockB (ls : List (List Int)) (k : Nat) : Int := (ls.getD k []).getD 1 0
def lockLt (ls : List (List Int)) (k : Nat) : Bool := decide (lockA ls (k - 1) < lockA ls k ∨ lockA ls (k - 1) = lockA ls k ∧ lockB ls (k - 1) < lockB ls k)
def lkAt (d : Int) (ls : List (List Int)) (k : Nat) : Bool :=
  decide (lockN ls k = 2) && inB (lockB ls k) 0 (d - 1) && inB (lockA ls k) 0 (lockB ls k - 1) && (decide (k = 0) || lockLt ls k)
def locksOk (d : Int) (ls : List (List Int)) : Bool := inB d 0 8 && decide (ls.length ≤ 12) && allUpto ls.length (lkAt d ls)
theorem upto_succ {f : Nat → Bool} {k : Nat} (h : ∀ j, j < k → f j = true) (h1 : f k = true) : ∀ j, j < k + 1 → f j = true := by
  intro j hj
  rcases Nat.lt_succ_iff_lt_or_eq.1 hj with h2 | rfl
  · exact h j h2
  · exact h1
theorem getD_at {α : Type} {l : List α} {k : Nat} {x d : α} (h : l[k]? = some x) : l.getD k d = x := by rw [List.getD_eq_getElem?_getD, h]; rfl
theorem lock_row {ls : List (List Int)} {k : Nat} {x : List Int} (h : ls[k]? = some x) : lockN ls k = x.length ∧ lockA ls k = x.getD 0 0 ∧ lockB ls k = x.getD 1 0 := by
  unfold lockN lockA lockB; rw [getD_at h]; exact ⟨rfl, rfl, rfl⟩
theorem lk_n {d : Int} {ls : List (List Int)} {k : Nat} (h : lockN ls k ≠ 2) : lkAt d ls k = false := by unfold lkAt; rw [decide_eq_false h]; rfl
theorem lk_b {d : Int} {ls : List (List Int)} {k : Nat} (h : inB (lockB ls k) 0 (d - 1) = false) : lkAt d ls k = false := by unfold lkAt; rw [h]; simp
theorem lk_a {d : Int} {ls : List (List Int)} {k : Nat} (h : inB (lockA ls k) 0 (lockB ls k - 1) = false) : lkAt d ls k = false := by unfold lkAt; rw [h]; simp
theorem lk_p {d : Int} {ls : List (List Int)} {k : Nat} (h0 : k ≠ 0) (h : lockLt ls k = false) : lkAt d ls k = false := by unfold lkAt; rw [h, decide_eq_false h0]; simp
theorem lk_y {d : Int} {ls : List (List Int)} {k : Nat} (h1 : lockN ls k = 2) (h2 : inB (lockB ls k) 0 (d - 1) = true) (h3 : inB (lockA ls k) 0 (lockB ls k - 1) = true) (h4 : k = 0 ∨ lockLt ls k = true) : lkAt d ls k = true := by
  unfold lkAt; rw [decide_eq_true h1, h2, h3]
  rcases h4 with h | h
  · rw [decide_eq_true h]; rfl
  · rw [h]; simp
theorem lk_two {d : Int} {ls : List (List Int)} {k : Nat} (h : lkAt d ls k = true) : lockN ls k = 2 ∧ inB (lockB ls k) 0 (d - 1) = true ∧ inB (lockA ls k) 0 (lockB ls k - 1) = true := by
  unfold lkAt at h
  simp only [Bool.and_eq_true, decide_eq_true_eq] at h
  exact ⟨h.1.1.1, h.1.1.2, h.1.2⟩
/-- A row of two numbers, opened. -/
theorem open_two {w : World} {B : Nat} {r : Row} (h : Reads w B 1 r.A r.n (ints r.xs)) (h2 : r.xs.length = 2) :
    ∃ ra, r.A = some ra ∧ r.n = 2 ∧ w.cell? ra = some (.int .i64 (r.xs.getD 0 0)) ∧ w.cell? (ra.add 0) = some (.int .i64 (r.xs.getD 0 0)) ∧ w.cell? ⟨ra.block, ra.off + 1, none⟩ = some (.int .i64 (r.xs.getD 1 0)) := by
  have hn : r.n = 2 := by have := ints_len h; omega
  obtain ⟨ra, u, h3, _, h4, h5⟩ := h.at_ (k := 0) (by omega)
  obtain ⟨ra', u', h6, _, h7, h8⟩ := h.at_ (k := 1) (by omega)
  rw [h3] at h6
  injection h6 with h6
  subst h6
  obtain ⟨b, h9, rfl⟩ := ints_at h4
  obtain ⟨b', h10, rfl⟩ := ints_at h7
  rw [getD_at h9, getD_at h10]
  exact ⟨ra, h3, hn, h5, h5, h8⟩
end Go.Proofs.Ytjmhhbjbmgpagaa

/- Records of the kind Airway: their cells, and the contracts of the laws' helpers on them. -/
namespace Go.Proofs.Ytjmhhbjbmgpagaa
set_option linter.unusedVariables false
set_option linter.unusedSimpArgs false
open Go.RowKit
structure Awy where
  s : ByteArray
  a : Int
  b : Int
  l : Int
  c : Int
  f : Int
  h : Int
instance : Inhabited Awy := ⟨⟨ByteArray.empty, 0, 0, 0, 0, 0, 0⟩⟩
def Awy.cells (x : Awy) : List Value := [.string x.s, .int .i64 x.a, .int .i64 x.b, .int .i64 x.l, .int .i64 x.c, .int .i64 x.f, .int .i64 x.h]
def Awy.val (x : Awy) : Value := .agg #[.string x.s, .int .i64 x.a, .int .i64 x.b, .int .i64 x.l, .int .i64 x.c, .int .i64 x.f, .int .i64 x.h]
theorem Awy.clen (x : Awy) : x.cells.length = 7 := rfl
def Awy.len (x : Awy) : Nat := x.s.size
theorem Awy.one (x : Awy) : ∀ u ∈ x.cells, u.oneCell' = true := by
  intro u hu
  simp only [Awy.cells, List.mem_cons, List.not_mem_nil, or_false] at hu
  rcases hu with rfl | rfl | rfl | rfl | rfl | rfl | rfl <;> rfl
abbrev Awy.recs (xs : List Awy) : List Value := Go.Proofs.Ytjmhhbjbmgpagaa.recs Awy.cells xs
theorem Awy.open_ {w : World} {p : Addr} {x : Awy} (h : Cells w p x.cells) : w.cell? p = some (.string x.s) ∧ w.cell? ⟨p.block, p.off + 1, none⟩ = some (.int .i64 x.a) ∧ w.cell? ⟨p.block, p.off + 2, none⟩ = some (.int .i64 x.b) ∧ w.cell? ⟨p.block, p.off + 3, none⟩ = some (.int .i64 x.l) ∧ w.cell? ⟨p.block, p.off + 4, none⟩ = some (.int .i64 x.c) ∧ w.cell? ⟨p.block, p.off + 5, none⟩ = some (.int .i64 x.f) ∧ w.cell? ⟨p.block, p.off + 6, none⟩ = some (.int .i64 x.h) :=
  ⟨h.z rfl, h.at_ 0 rfl, h.at_ 1 rfl, h.at_ 2 rfl, h.at_ 3 rfl, h.at_ 4 rfl, h.at_ 5 rfl⟩
theorem Awy.shut_ {w : World} {g : Nat} {x : Awy} (h0 : w.cell? ⟨g, 0, none⟩ = some (.string x.s)) (h1 : w.cell? ⟨g, 1, none⟩ = some (.int .i64 x.a)) (h2 : w.cell? ⟨g, 2, none⟩ = some (.int .i64 x.b)) (h3 : w.cell? ⟨g, 3, none⟩ = some (.int .i64 x.l)) (h4 : w.cell? ⟨g, 4, none⟩ = some (.int .i64 x.c)) (h5 : w.cell? ⟨g, 5, none⟩ = some (.int .i64 x.f)) (h6 : w.cell? ⟨g, 6, none⟩ = some (.int .i64 x.h)) : Cells w ⟨g, 0, none⟩ x.cells := by
  intro j u e
  have hj : j < 7 := by
    rcases Nat.lt_or_ge j 7 with h | h
    · exact h
    · rw [List.getElem?_eq_none (by rw [Awy.clen]; exact h)] at e; cases e
  match j, hj with
  | 0, _ => obtain rfl := Option.some.inj e; exact h0
  | 1, _ => obtain rfl := Option.some.inj e; exact h1
  | 2, _ => obtain rfl := Option.some.inj e; exact h2
  | 3, _ => obtain rfl := Option.some.inj e; exact h3
  | 4, _ => obtain rfl := Option.some.inj e; exact h4
  | 5, _ => obtain rfl := Option.some.inj e; exact h5
  | 6, _ => obtain rfl := Option.some.inj e; exact h6
theorem szAwy_any (x : Awy) (l : Int) (w : World) (hs : x.s.size ≤ maxLen) (h1 : 0 ≤ l) (h2 : l ≤ 1048576) :
    Calls Try.prog 91 #[.agg #[.string x.s, .int .i64 x.a, .int .i64 x.b, .int .i64 x.l, .int .i64 x.c, .int .i64 x.f, .int .i64 x.h], .int .i64 l] w fun e w' => e = .returned (.int .i64 (szI l x.s.size)) ∧ Below w.heap.size w w' := by
  unfold maxLen at hs
  by_cases h : l < x.s.size
  all_goals
    go_enter Try.func91, Try.ntmps91
    go_wp2
    go_ret
    exact ⟨ret_int (by unfold szI; split <;> omega), (Below.refl _ _).alloc (Nat.le_refl _) _⟩
set_option maxHeartbeats 800000 in
theorem szAwyS_any (A : Option Addr) (n c : Nat) (xs : List Awy) (l : Int) (w : World) (hr : Reads w w.heap.size 7 A n (Awy.recs xs)) (h1 : 0 ≤ l) (h2 : l ≤ 1048576) (hn : n ≤ maxLen) (hxs : ∀ x ∈ xs, x.s.size ≤ maxLen) :
    Calls Try.prog 36 #[.slice A n c, .int .i64 l] w fun e w' => e = .returned (.int .i64 (szI l (n + sumN Awy.len xs))) ∧ Below w.heap.size w w' := by
  unfold maxLen at hn
  have HL := Lib.hid (recs_rlen Awy.clen (by omega) hr)
  have HM := Lib.hid hxs
  have t0 := sumN_nonneg Awy.len xs
  clear hxs
  by_cases hb : l < n
  · have HS := Lib.hid (szI_n (l := l) (s := n + sumN Awy.len xs) (by omega))
    go_enter Try.func36, Try.ntmps36
    go_wp2
    go_ret
    exact ⟨ret_int HS.out.symm, Below.refl _ _⟩
  · go_enter Try.func36, Try.ntmps36
    go_wp2
    go_loopw [1, 5] (fun s i wr => ∃ k : Nat, k ≤ n ∧ i = .int .i64 k ∧ s = .int .i64 (l - n - sumN Awy.len (xs.take k)) ∧ n + sumN Awy.len (xs.take k) ≤ l ∧ Below w.heap.size w wr) (fun _ i _ => n - (intOf i).toNat)
    case atStart => exact ⟨0, by omega, rfl, by simp [sumN], by simp [sumN]; omega, Below.refl _ _⟩
    case round =>
      obtain ⟨k, hk, rfl, rfl, hok, hbr⟩ := hrel
      have p0 := sumN_nonneg Awy.len (xs.take k)
      by_cases hlt : k < n
      · obtain ⟨ad, x, rfl, had, hx, hc⟩ := (hr.below hbr).rec_at Awy.clen (by omega) hlt
        have HX := Lib.hid (sumN_snoc (f := Awy.len) hx)
        have HT := Lib.hid (sumN_take Awy.len xs (k + 1))
        have hm := HM.out x (List.mem_of_getElem? hx)
        obtain ⟨h0, h1, h2, h3, h4, h5, h6⟩ := Awy.open_ hc
        clear hx hc
        by_cases hs : l - n - sumN Awy.len (xs.take k) < x.s.size
        · have HS := Lib.hid (szI_n (l := l) (s := n + sumN Awy.len xs) (by have := HX.out; have := HT.out; simp only [Awy.len] at *; omega))
          have cc := szAwy_any x (l - n - sumN Awy.len (xs.take k)) wr hm (by omega) (by omega)
          rw [szI_n hs] at cc
          go_wp2_with fail; ((with_reducible refine cc.mono ?_); rintro e w1 ⟨rfl, hb1⟩)
          go_wp2
          go_ret
          exact ⟨ret_int HS.out.symm, hbr.trans (hb1.mono hbr.size)⟩
        · have cc := szAwy_any x (l - n - sumN Awy.len (xs.take k)) wr hm (by omega) (by omega)
          rw [szI_y hs] at cc
          go_wp2_with fail; ((with_reducible refine cc.mono ?_); rintro e w1 ⟨rfl, hb1⟩)
          go_wp2
          go_roundw
          case rel => exact ⟨k + 1, by omega, by go_num, by rw [HX.out]; exact congrArg (Value.int .i64) (by simp only [Awy.len]; omega), by rw [HX.out]; simp only [Awy.len]; omega, hbr.trans (hb1.mono hbr.size)⟩
          case measure => simp [intOf]; omega
      · have e : k = n := by omega
        have HT : Hid (xs.take k = xs) := List.take_of_length_le (by rw [HL.out]; omega)
        rw [HT.out] at hok
        have HS := Lib.hid (szI_y (l := l) (s := n + sumN Awy.len xs) (by omega))
        go_wp2
        go_ret
        exact ⟨ret_int (by rw [HS.out, HT.out]; omega), hbr⟩
theorem toAwy_any (x : Awy) (w : World) (hs : x.s.size ≤ maxLen) :
    Calls Try.prog 95 #[.agg #[.string x.s, .int .i64 x.a, .int .i64 x.b, .int .i64 x.l, .int .i64 x.c, .int .i64 x.f, .int .i64 x.h]] w fun e w' => e = .returned (.agg #[.string x.s, .int .i64 x.a, .int .i64 x.b, .int .i64 x.l, .int .i64 x.c, .int .i64 x.f, .int .i64 x.h]) ∧ Below w.heap.size w w' := by
  go_enter Try.func95, Try.ntmps95
  go_wp2
  refine bodyPost_ret (v := .agg #[.string x.s, .int .i64 x.a, .int .i64 x.b, .int .i64 x.l, .int .i64 x.c, .int .i64 x.f, .int .i64 x.h]) (by simp [results, Try.results95, go_sem]) rfl ⟨rfl, ?_⟩
  (repeat (first | exact Below.refl _ _ | assumption | (refine Below.alloc ?_ (by first | exact Nat.le_refl _ | (simp; done) | (simp; omega)) _) | (refine below_drewN ?_ _) | (refine Below.trans ?_ (Below.mono (by assumption) (by first | exact Nat.le_refl _ | (simp; done) | (simp; omega) | omega)))))
theorem info_Awy : (Try.prog.info? 99).map (fun i => (i.zero, i.size, i.bytes)) = some (some (.agg #[.string ByteArray.empty, .int .i64 0, .int .i64 0, .int .i64 0, .int .i64 0, .int .i64 0, .int .i64 0]), 7, 64) := by kernel_rfl
set_option maxHeartbeats 1600000 in
theorem toAwyS_any (A : Option Addr) (n c : Nat) (xs : List Awy) (w : World) (hr : Reads w w.heap.size 7 A n (Awy.recs xs)) (hn : n ≤ 1048576) (hxs : ∀ x ∈ xs, x.s.size ≤ maxLen) :
    Calls Try.prog 41 #[.slice A n c] w fun e w' => e = .returned (.slice (some ⟨w.heap.size, 0, none⟩) n n) ∧ w'.ownsRow w.heap.size 99 7 (.slice (some ⟨w.heap.size, 0, none⟩) n n) n (Awy.recs xs) ∧ Below w.heap.size w w' := by
  have HL := Lib.hid hr.1
  have HM := Lib.hid hxs
  clear hxs
  obtain ⟨i0, hi0, hz0, hz1, hz2⟩ := info_parts info_Awy
  have hmk := run_make_rowN (P := Try.prog) 29 99 i0 _ Try.underlying29 hi0 hz0 .i64 .i64 n n (Nat.le_refl _) (by rw [hz2]; omega) (by omega)
  rw [hz1] at hmk
  go_enter Try.func41, Try.ntmps41
  go_wp2
  go_loopw [4] (fun i wr => ∃ (k : Nat) (cur : Array Value), k ≤ n ∧ i = .int .i64 k ∧ Blk wr w.heap.size 99 cur ∧ Hid (cur.size = n * 7 ∧ ∀ j, j < k * 7 → cur[j]? = (Awy.recs xs)[j]?) ∧ Below w.heap.size w wr) (fun i _ => n - (intOf i).toNat)
  case atStart => exact ⟨0, _, by omega, rfl, Blk.new _ _ _, ⟨size_madeCells _ _, fun j hj => absurd hj (by omega)⟩, by (repeat (first | exact Below.refl _ _ | assumption | (refine Below.alloc ?_ (by first | exact Nat.le_refl _ | (simp; done) | (simp; omega)) _) | (refine below_drewN ?_ _) | (refine Below.trans ?_ (Below.mono (by assumption) (by first | exact Nat.le_refl _ | (simp; done) | (simp; omega) | omega)))))⟩
  case round =>
    obtain ⟨k, cur, hk, rfl, hbk, HC, hbw⟩ := hrel
    have hz := hbw.size
    have hgl := hbk.lt
    by_cases hlt : k < n
    · obtain ⟨ad, x, rfl, had, hx, hc⟩ := (hr.below hbw).rec_at Awy.clen (by omega) hlt
      have hm := HM.out x (List.mem_of_getElem? hx)
      have HX := Lib.hid (rel_set Awy.clen hx hlt HC.out.1 HC.out.2)
      obtain ⟨h0, h1, h2, h3, h4, h5, h6⟩ := Awy.open_ hc
      clear hx hc
      go_wp2_with fail; ((with_reducible refine (toAwy_any x _ hm).mono ?_); rintro e w1 ⟨rfl, hb1⟩)
      have hbk1 := hbk.below hb1 hgl
      have hcs : Hid (cur.size = n * 7) := HC.out.1
      have hkz : k * 7 + 6 < cur.size := by rw [hcs.out]; omega

      have o0 : w1.cell? ⟨w.heap.size, k * 7, none⟩ = some (cur[k * 7 + 0]'(by omega)) := by rw [hbk1.cell]; exact Array.getElem?_eq_getElem (by omega)
      have f0 := hbk1.frozen (k * 7)
      have o1 : w1.cell? ⟨w.heap.size, k * 7 + 1, none⟩ = some (cur[k * 7 + 1]'(by omega)) := by rw [hbk1.cell]; exact Array.getElem?_eq_getElem (by omega)
      have f1 := hbk1.frozen (k * 7 + 1)
      have o2 : w1.cell? ⟨w.heap.size, k * 7 + 2, none⟩ = some (cur[k * 7 + 2]'(by omega)) := by rw [hbk1.cell]; exact Array.getElem?_eq_getElem (by omega)
      have f2 := hbk1.frozen (k * 7 + 2)
      have o3 : w1.cell? ⟨w.heap.size, k * 7 + 3, none⟩ = some (cur[k * 7 + 3]'(by omega)) := by rw [hbk1.cell]; exact Array.getElem?_eq_getElem (by omega)
      have f3 := hbk1.frozen (k * 7 + 3)
      have o4 : w1.cell? ⟨w.heap.size, k * 7 + 4, none⟩ = some (cur[k * 7 + 4]'(by omega)) := by rw [hbk1.cell]; exact Array.getElem?_eq_getElem (by omega)
      have f4 := hbk1.frozen (k * 7 + 4)
      have o5 : w1.cell? ⟨w.heap.size, k * 7 + 5, none⟩ = some (cur[k * 7 + 5]'(by omega)) := by rw [hbk1.cell]; exact Array.getElem?_eq_getElem (by omega)
      have f5 := hbk1.frozen (k * 7 + 5)
      have o6 : w1.cell? ⟨w.heap.size, k * 7 + 6, none⟩ = some (cur[k * 7 + 6]'(by omega)) := by rw [hbk1.cell]; exact Array.getElem?_eq_getElem (by omega)
      have f6 := hbk1.frozen (k * 7 + 6)
      go_wp2
      go_roundw
      case rel => exact ⟨k + 1, _, by omega, by go_num, (((((((hbk1.set_ (k * 7) _).set_ (k * 7 + 1) _).set_ (k * 7 + 2) _).set_ (k * 7 + 3) _).set_ (k * 7 + 4) _).set_ (k * 7 + 5) _).set_ (k * 7 + 6) _), HX.out, ((((((((hbw.trans (hb1.mono hz)).setCell (by simp) _).setCell (by simp) _).setCell (by simp) _).setCell (by simp) _).setCell (by simp) _).setCell (by simp) _).setCell (by simp) _)⟩
      case measure => simp [intOf]; omega
    · have e : k = n := by omega
      subst e
      go_wp2
      go_ret
      exact ⟨rfl, own_of_blkZ hbk HL.out HC.out.1 (wfmax hn) HC.out.2, hbw⟩
theorem eqAwy_any (x : Awy) (w : World) :
    Calls Try.prog 101 #[.agg #[.string x.s, .int .i64 x.a, .int .i64 x.b, .int .i64 x.l, .int .i64 x.c, .int .i64 x.f, .int .i64 x.h], .agg #[.string x.s, .int .i64 x.a, .int .i64 x.b, .int .i64 x.l, .int .i64 x.c, .int .i64 x.f, .int .i64 x.h]] w fun e w' => e = .returned (.bool true) ∧ Below w.heap.size w w' := by
  go_enter Try.func101, Try.ntmps101
  go_wp2
  go_ret
  exact ⟨rfl, by (repeat (first | exact Below.refl _ _ | assumption | (refine Below.alloc ?_ (by first | exact Nat.le_refl _ | (simp; done) | (simp; omega)) _) | (refine below_drewN ?_ _) | (refine Below.trans ?_ (Below.mono (by assumption) (by first | exact Nat.le_refl _ | (simp; done) | (simp; omega) | omega)))))⟩
set_option maxHeartbeats 1600000 in
set_option maxRecDepth 100000 in
theorem eqAwyS_b (A B : Option Addr) (n c d : Nat) (xs : List Awy) (w : World) (hr : Reads w w.heap.size 7 A n (Awy.recs xs)) (hq : Reads w w.heap.size 7 B n (Awy.recs xs)) (hn : n ≤ 1099511627776) :
    Calls Try.prog 46 #[.slice A n c, .slice B n d] w fun e w' => e = .returned (.bool true) ∧ Below w.heap.size w w' := by
  go_enter Try.func46, Try.ntmps46
  go_wp2
  go_loopw [5] (fun i wr => ∃ (k : Nat), k ≤ n ∧ i = .int .i64 k ∧ Below w.heap.size w wr) (fun i _ => n - (intOf i).toNat)
  case atStart => exact ⟨0, by omega, rfl, Below.refl _ _⟩
  case round =>
    obtain ⟨k, hk, rfl, hbw⟩ := hrel
    have hz := hbw.size
    by_cases hlt : k < n
    · obtain ⟨ad, x, rfl, had, hx, hc⟩ := (hr.below hbw).rec_at Awy.clen (by omega) hlt
      obtain ⟨bd, x', rfl, hbd, hx', hc'⟩ := (hq.below hbw).rec_at Awy.clen (by omega) hlt
      obtain rfl : x = x' := by rw [hx] at hx'; exact Option.some.inj hx'
      obtain ⟨h0, h1, h2, h3, h4, h5, h6⟩ := Awy.open_ hc
      obtain ⟨k0, k1, k2, k3, k4, k5, k6⟩ := Awy.open_ hc'
      have hlt' : (k : Int) < (n : Int) := by omega
      clear hx hx' hc hc'
      go_wp2
      go_still_tail 8, (by kernel_rfl)
      go_wp2_with fail; ((with_reducible refine (eqAwy_any x _).mono ?_); rintro e w1 ⟨rfl, hb1⟩)
      go_wp2
      go_roundw
      case rel => exact ⟨k + 1, by omega, by go_num, (below_drewN hbw 1).trans (hb1.mono hz)⟩
      case measure => simp [intOf]; omega
    · go_wp2
      go_ret
      exact ⟨rfl, hbw⟩
set_option maxHeartbeats 3200000 in
theorem markAwyS_any (A : Option Addr) (n c : Nat) (xs : List Value) (k : Int) (base : Nat) (w : World) (hown : w.ownsRow base 99 7 (.slice A n c) n xs) (hn : n ≤ 1048576) (hk0 : 0 ≤ k) (hk1 : k ≤ 1073741824) :
    Calls Try.prog 57 #[.slice A n c, .int .i64 k] w fun e w' => e = .returned (.int .i64 (k + 7 * n)) ∧ w.grownBy w' (Value.ownBlock (.slice A n c)) := by
  rcases Nat.eq_zero_or_pos n with h0 | hpos
  · subst h0
    go_enter Try.func57, Try.ntmps57
    go_wp2
    go_loop [1, 5] (fun kk i => kk = .int .i64 k ∧ i = .int .i64 0) (fun _ _ => 0)
    case atStart => exact ⟨rfl, rfl⟩
    case round =>
      obtain ⟨rfl, rfl⟩ := hrel
      go_wp2
      go_ret
      exact ⟨ret_int (by omega), World.grownBy.refl _ _⟩
  · rcases hown.2 with ⟨_, h0⟩ | ⟨g, cap, cur, hv, hbg, hgb, hnc, hcm, hcs, htake⟩
    · exfalso
      have h1 := hown.1
      rw [h0] at h1
      simp at h1; omega
    injection hv with hA _ hc
    subst hA
    subst hc
    have hBlk : Blk w g 99 cur := hgb
    have HS := Lib.hid hcs
    clear hcs htake
    have hgl := hBlk.lt
    go_enter Try.func57, Try.ntmps57
    go_wp2
    go_loopw [1, 5] (fun kk i wr => ∃ (j : Nat) (cu : Array Value), j ≤ n ∧ kk = .int .i64 (k + 7 * j) ∧ i = .int .i64 j ∧ Blk wr g 99 cu ∧ Hid (cu.size = cur.size) ∧ w.grownBy wr (some g)) (fun _ i _ => n - (intOf i).toNat)
    case atStart => exact ⟨0, cur, by omega, by go_num, rfl, hBlk, rfl, World.grownBy.refl _ _⟩
    case round =>
      obtain ⟨j, cu, hj, rfl, rfl, hbk, HC, hgr⟩ := hrel
      by_cases hlt : j < n
      · have hgw := hbk.lt
        have hks : k + 7 * (j : Int) ≤ 1099511627776 := by omega
        have hks0 : 0 ≤ k + 7 * (j : Int) := by omega
        go_wp2_with fail; ((with_reducible refine (markText_any _ _ hks0 hks).mono ?_); rintro e w1 ⟨ms, rfl, hb1⟩)
        have hbk1 := hbk.below hb1 hgw
        have hjz : j * 7 + 6 < cu.size := by rw [HC.out, HS.out]; omega
        have o0 : w1.cell? ⟨g, j * 7, none⟩ = some (cu[j * 7 + 0]'(by omega)) := by rw [hbk1.cell]; exact Array.getElem?_eq_getElem (by omega)
        have f0 := hbk1.frozen (j * 7)
        have o1 : w1.cell? ⟨g, j * 7 + 1, none⟩ = some (cu[j * 7 + 1]'(by omega)) := by rw [hbk1.cell]; exact Array.getElem?_eq_getElem (by omega)
        have f1 := hbk1.frozen (j * 7 + 1)
        have o2 : w1.cell? ⟨g, j * 7 + 2, none⟩ = some (cu[j * 7 + 2]'(by omega)) := by rw [hbk1.cell]; exact Array.getElem?_eq_getElem (by omega)
        have f2 := hbk1.frozen (j * 7 + 2)
        have o3 : w1.cell? ⟨g, j * 7 + 3, none⟩ = some (cu[j * 7 + 3]'(by omega)) := by rw [hbk1.cell]; exact Array.getElem?_eq_getElem (by omega)
        have f3 := hbk1.frozen (j * 7 + 3)
        have o4 : w1.cell? ⟨g, j * 7 + 4, none⟩ = some (cu[j * 7 + 4]'(by omega)) := by rw [hbk1.cell]; exact Array.getElem?_eq_getElem (by omega)
        have f4 := hbk1.frozen (j * 7 + 4)
        have o5 : w1.cell? ⟨g, j * 7 + 5, none⟩ = some (cu[j * 7 + 5]'(by omega)) := by rw [hbk1.cell]; exact Array.getElem?_eq_getElem (by omega)
        have f5 := hbk1.frozen (j * 7 + 5)
        have o6 : w1.cell? ⟨g, j * 7 + 6, none⟩ = some (cu[j * 7 + 6]'(by omega)) := by rw [hbk1.cell]; exact Array.getElem?_eq_getElem (by omega)
        have f6 := hbk1.frozen (j * 7 + 6)
        go_wp2
        go_roundw
        case rel => exact ⟨j + 1, _, by omega, by go_num, by go_num, (((((((hbk1.set_ (j * 7) _).set_ (j * 7 + 1) _).set_ (j * 7 + 2) _).set_ (j * 7 + 3) _).set_ (j * 7 + 4) _).set_ (j * 7 + 5) _).set_ (j * 7 + 6) _), by show _ = _; simpa using HC.out, (only_setCell (only_setCell (only_setCell (only_setCell (only_setCell (only_setCell (only_setCell (grown_below hgr hb1) (.inl rfl) _) (.inl rfl) _) (.inl rfl) _) (.inl rfl) _) (.inl rfl) _) (.inl rfl) _) (.inl rfl) _)⟩
        case measure => simp [intOf]; omega
      · have e : j = n := by omega
        subst e
        go_wp2
        go_ret
        exact ⟨rfl, hgr⟩
end Go.Proofs.Ytjmhhbjbmgpagaa
