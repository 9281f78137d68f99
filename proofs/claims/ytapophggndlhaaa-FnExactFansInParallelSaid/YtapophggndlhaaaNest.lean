/- Slices of slices of numbers: reading, owning, and the laws' own helpers on them. -/
import Derived.Test.YtapophggndlhaaaCopy
namespace Go.Proofs.Ytapophggndlhaaa
set_option linter.unusedVariables false
set_option linter.unusedSimpArgs false
open Go.RowKit
structure Row where
  A : Option Addr
  n : Nat
  c : Nat
  xs : List Int
def Row.val (r : Row) : Value := .slice r.A r.n r.c
def rowsV (rs : List Row) : List Value := rs.map Row.val
def dat (rs : List Row) : List (List Int) := rs.map Row.xs
/-- A slice of slices of numbers that reads. -/
structure RSS (w : World) (B : Nat) (A : Option Addr) (n : Nat) (rs : List Row) : Prop where
  out : Reads w B 1 A n (rowsV rs)
  row : ∀ r ∈ rs, Reads w B 1 r.A r.n (ints r.xs)
theorem RSS.below {w w' : World} {B n : Nat} {A : Option Addr} {rs : List Row} (h : RSS w B A n rs) (hb : Below B w w') : RSS w' B A n rs :=
  ⟨h.out.below hb, fun r hr => (h.row r hr).below hb⟩
theorem RSS.more {w : World} {B B' n : Nat} {A : Option Addr} {rs : List Row} (h : RSS w B A n rs) (hB : B ≤ B') : RSS w B' A n rs :=
  ⟨h.out.more hB, fun r hr => (h.row r hr).more hB⟩
theorem RSS.len {w : World} {B n : Nat} {A : Option Addr} {rs : List Row} (h : RSS w B A n rs) : rs.length = n := by
  have := h.out.1; simpa [rowsV] using this
theorem rowsV_at {rs : List Row} {k : Nat} {u : Value} (h : (rowsV rs)[k]? = some u) : ∃ r, rs[k]? = some r ∧ u = r.val := by
  unfold rowsV at h
  rw [List.getElem?_map] at h
  cases e : rs[k]? with
  | none => rw [e] at h; simp at h
  | some b => rw [e] at h; simp at h; exact ⟨b, rfl, h.symm⟩
theorem RSS.at_ {w : World} {B n k : Nat} {A : Option Addr} {rs : List Row} (h : RSS w B A n rs) (hk : k < n) :
    ∃ ad r, A = some ad ∧ rs[k]? = some r ∧ w.cell? (ad.add k) = some (.slice r.A r.n r.c) ∧ Reads w B 1 r.A r.n (ints r.xs) := by
  obtain ⟨ad, u, h1, _, h2, h3⟩ := h.out.at_ hk
  obtain ⟨r, h4, rfl⟩ := rowsV_at h2
  exact ⟨ad, r, h1, h4, h3, h.row r (List.mem_of_getElem? h4)⟩
theorem dat_at {rs : List Row} {k : Nat} {r : Row} (h : rs[k]? = some r) : (dat rs)[k]? = some r.xs := by
  unfold dat; rw [List.getElem?_map, h]; rfl
theorem dat_len (rs : List Row) : (dat rs).length = rs.length := by simp [dat]
def tot : List Row → Int
  | [] => 0
  | r :: t => r.n + tot t
theorem tot_nonneg : ∀ rs : List Row, 0 ≤ tot rs
  | [] => by simp [tot]
  | r :: t => by have := tot_nonneg t; simp only [tot]; omega
theorem tot_append (a b : List Row) : tot (a ++ b) = tot a + tot b := by
  induction a with
  | nil => simp [tot]
  | cons r t ih => simp only [List.cons_append, tot, ih]; omega
theorem tot_snoc {rs : List Row} {k : Nat} {r : Row} (h : rs[k]? = some r) : tot (rs.take (k + 1)) = tot (rs.take k) + r.n := by
  rw [List.take_add_one, h, tot_append]; simp [tot]
theorem tot_take (rs : List Row) (k : Nat) : tot (rs.take k) ≤ tot rs := by
  have e := tot_append (rs.take k) (rs.drop k)
  rw [List.take_append_drop] at e
  have := tot_nonneg (rs.drop k)
  omega
theorem tot_mem {rs : List Row} {r : Row} (h : r ∈ rs) : (r.n : Int) ≤ tot rs := by
  induction rs with
  | nil => simp at h
  | cons x t ih =>
    have h0 := tot_nonneg t
    rcases List.mem_cons.1 h with rfl | h
    · simp only [tot]; omega
    · have := ih h; simp only [tot]; omega
/-- What is left of l behind n places and all their numbers, or -1. -/
def szV (l : Int) (n : Nat) (rs : List Row) : Int := if l < n + tot rs then -1 else l - (n + tot rs)
theorem szV_y {l : Int} {n : Nat} {rs : List Row} (h : ¬ l < n + tot rs) : szV l n rs = l - (n + tot rs) := by unfold szV; rw [if_neg h]
theorem szV_n {l : Int} {n : Nat} {rs : List Row} (h : l < n + tot rs) : szV l n rs = -1 := by unfold szV; rw [if_pos h]
theorem szV_ok {l : Int} {n : Nat} {rs : List Row} (h : ¬ szV l n rs < 0) (hl : 0 ≤ l) : n + tot rs ≤ l := by
  unfold szV at h
  by_cases hc : l < n + tot rs
  · rw [if_pos hc] at h; omega
  · omega
theorem szV_bnd {l : Int} {n : Nat} {rs : List Row} (hl : 0 ≤ l) : -1 ≤ szV l n rs ∧ szV l n rs ≤ l := by
  have := tot_nonneg rs
  unfold szV
  split <;> omega
theorem szInt64S_any (A : Option Addr) (n c : Nat) (l : Int) (w : World) (h1 : 0 ≤ l) (h2 : l ≤ 1048576) (hn : n ≤ maxLen) :
    Calls Try.prog 66 #[.slice A n c, .int .i64 l] w fun e w' => e = .returned (.int .i64 (if l < n then -1 else l - n)) ∧ w = w' := by
  unfold maxLen at hn
  by_cases h : l < n
  all_goals
    go_enter Try.func66, Try.ntmps66
    go_wp2
    go_ret
    exact ⟨ret_int (by simp [h]), rfl⟩
set_option maxHeartbeats 400000 in
theorem szInt64SS_any (A : Option Addr) (n c : Nat) (rs : List Row) (l : Int) (w : World) (hr : RSS w w.heap.size A n rs) (h1 : 0 ≤ l) (h2 : l ≤ 1048576) (hn : n ≤ maxLen) (hrn : ∀ r ∈ rs, r.n ≤ maxLen) :
    Calls Try.prog 35 #[.slice A n c, .int .i64 l] w fun e w' => e = .returned (.int .i64 (szV l n rs)) ∧ w = w' := by
  unfold maxLen at hn
  have HL := Lib.hid hr.len
  have HM := Lib.hid hrn
  have t0 := tot_nonneg rs
  clear hrn
  by_cases hb : l < n
  · have HS := Lib.hid (szV_n (l := l) (n := n) (rs := rs) (by omega))
    go_enter Try.func35, Try.ntmps35
    go_wp2
    go_ret
    exact ⟨ret_int HS.out.symm, rfl⟩
  · go_enter Try.func35, Try.ntmps35
    go_wp2
    go_loop [1, 5] (fun s i => ∃ k : Nat, k ≤ n ∧ i = .int .i64 k ∧ s = .int .i64 (l - n - tot (rs.take k)) ∧ n + tot (rs.take k) ≤ l) (fun _ i => n - (intOf i).toNat)
    case atStart => exact ⟨0, by omega, rfl, by simp [tot], by simp [tot]; omega⟩
    case round =>
      obtain ⟨k, hk, rfl, rfl, hok⟩ := hrel
      have p0 := tot_nonneg (rs.take k)
      by_cases hlt : k < n
      · obtain ⟨ad, r, rfl, hx, hc, hrr⟩ := hr.at_ hlt
        have HX := Lib.hid (tot_snoc hx)
        have HT := Lib.hid (tot_take rs (k + 1))
        have hm := HM.out r (List.mem_of_getElem? hx)
        clear hx
        by_cases hs : l - n - tot (rs.take k) < r.n
        · have HS := Lib.hid (szV_n (l := l) (n := n) (rs := rs) (by have := HX.out; have := HT.out; omega))
          go_wp2_with (go_at_call 66; refine (szInt64S_any _ _ _ _ _ (by omega) (by omega) hm).mono ?_; rintro e w' ⟨rfl, rfl⟩; rw [if_pos hs])
          go_ret
          exact ⟨ret_int HS.out.symm, rfl⟩
        · go_wp2_with (go_at_call 66; refine (szInt64S_any _ _ _ _ _ (by omega) (by omega) hm).mono ?_; rintro e w' ⟨rfl, rfl⟩; rw [if_neg hs])
          go_round
          case rel => exact ⟨k + 1, by omega, by go_num, by rw [HX.out]; exact congrArg (Value.int .i64) (by omega), by rw [HX.out]; omega⟩
          case measure => simp [intOf]; omega
      · have e : k = n := by omega
        have HT : Hid (rs.take k = rs) := List.take_of_length_le (by rw [HL.out]; omega)
        have H3 : Hid (tot (rs.take n) = tot rs) := show tot (rs.take n) = tot rs by rw [List.take_of_length_le (by rw [HL.out]; omega)]
        rw [HT.out] at hok
        have HS := Lib.hid (szV_y (l := l) (n := n) (rs := rs) (by omega))
        go_wp2
        go_ret
        exact ⟨ret_int (by rw [HS.out, H3.out]; omega), rfl⟩
/-- A slice of slices of numbers that the call itself made, from block lo on: no two rows share a block. -/
structure OSS (w : World) (lo : Nat) (A : Option Addr) (n c : Nat) (rs : List Row) : Prop where
  out : w.ownsRow lo 53 1 (.slice A n c) n (rowsV rs)
  row : ∀ r ∈ rs, w.ownsRow lo 2 1 r.val r.n (ints r.xs)
  apart : rs.Pairwise fun r s => ∀ k, r.val.ownBlock = some k → s.val.ownBlock = some k → False
theorem OSS.below {w w' : World} {lo n c : Nat} {A : Option Addr} {rs : List Row} (h : OSS w lo A n c rs) (hb : Below w.heap.size w w') : OSS w' lo A n c rs :=
  ⟨own_below h.out hb, fun r hr => own_below (h.row r hr) hb, h.apart⟩
theorem OSS.reads {w : World} {lo n c : Nat} {A : Option Addr} {rs : List Row} (h : OSS w lo A n c rs) : RSS w w.heap.size A n rs :=
  ⟨Reads.of_own h.out, fun r hr => Reads.of_own (c := r.c) (h.row r hr)⟩
theorem OSS.base {w : World} {lo lo' n c : Nat} {A : Option Addr} {rs : List Row} (h : OSS w lo A n c rs) (hl : lo' ≤ lo) : OSS w lo' A n c rs :=
  ⟨own_base h.out hl, fun r hr => own_base (h.row r hr) hl, h.apart⟩
theorem info_Int64SS : (Try.prog.info? 53).map (fun i => (i.zero, i.size, i.bytes)) = some (some (.slice none 0 0), 1, 24) := by kernel_rfl
set_option maxHeartbeats 1600000 in
theorem toInt64SS_any (A : Option Addr) (n c : Nat) (rs : List Row) (w : World) (hr : RSS w w.heap.size A n rs) (hn : n ≤ 1048576) (hrn : ∀ r ∈ rs, r.n ≤ 1048576) :
    Calls Try.prog 39 #[.slice A n c] w fun e w' => ∃ rs', e = .returned (.slice (some ⟨w.heap.size, 0, none⟩) n n) ∧ OSS w' w.heap.size (some ⟨w.heap.size, 0, none⟩) n n rs' ∧ dat rs' = dat rs ∧ Below w.heap.size w w' := by
  have HL := Lib.hid hr.len
  have HM := Lib.hid hrn
  clear hrn
  have hmk := run_make_row' (P := Try.prog) 22 53 (.slice none 0 0) 24 Try.underlying22 info_Int64SS rfl .i64 .i64 n (by omega) (by omega)
  go_enter Try.func39, Try.ntmps39
  go_wp2
  go_loopw [4] (fun i wr => ∃ (k : Nat) (cur : Array Value) (rs' : List Row), k ≤ n ∧ i = .int .i64 k ∧ Blk wr w.heap.size 53 cur ∧
    Hid (cur.size = n ∧ rs'.length = k ∧ dat rs' = (dat rs).take k ∧ (∀ j, j < k → cur[j]? = (rowsV rs')[j]?) ∧ (∀ r ∈ rs', wr.ownsRow (w.heap.size + 1) 2 1 r.val r.n (ints r.xs)) ∧
      rs'.Pairwise fun r s => ∀ k, r.val.ownBlock = some k → s.val.ownBlock = some k → False) ∧ Below w.heap.size w wr) (fun i _ => n - (intOf i).toNat)
  case atStart => exact ⟨0, _, [], by omega, rfl, Blk.new _ _ _, ⟨size_madeCells _ _, rfl, by simp [dat], fun j hj => absurd hj (Nat.not_lt_zero _), fun r h => by simp at h, List.Pairwise.nil⟩, by (repeat (first | exact Below.refl _ _ | assumption | (refine Below.alloc ?_ (by first | exact Nat.le_refl _ | (simp; done) | (simp; omega)) _) | (refine below_drewN ?_ _) | (refine Below.trans ?_ (Below.mono (by assumption) (by first | exact Nat.le_refl _ | (simp; done) | (simp; omega) | omega)))))⟩
  case round =>
    obtain ⟨k, cur, rs', hk, rfl, hbk, HC, hbw⟩ := hrel
    have hz := hbw.size
    have hgl := hbk.lt
    by_cases hlt : k < n
    · obtain ⟨ad, r, rfl, hx, hc, hrr⟩ := (hr.below hbw).at_ hlt
      have hm := HM.out r (List.mem_of_getElem? hx)
      have HX := Lib.hid (dat_at hx)
      clear hx
      go_wp2_with fail; ((with_reducible refine (toInt64S_any r.A r.n r.c r.xs _ (hrr.more hz) hm).mono ?_); rintro e w1 ⟨rfl, ho1, hb1⟩)
      have hbk1 := hbk.below hb1 hgl
      have hcur : k < cur.size := by rw [HC.out.1]; exact hlt
      have hold : w1.cell? ⟨w.heap.size, k, none⟩ = some cur[k] := by rw [hbk1.cell k]; exact Array.getElem?_eq_getElem hcur
      have hfz := hbk1.frozen k
      go_wp2
      go_roundw
      case rel =>
        obtain ⟨c1, c2, c3, c4, c5, c6⟩ := HC.out
        have hown : ∀ q ∈ rs', w1.ownsRow (w.heap.size + 1) 2 1 q.val q.n (ints q.xs) := fun q hq => own_below (c5 q hq) hb1
        refine ⟨k + 1, _, rs' ++ [⟨some ⟨wr.heap.size, 0, none⟩, r.n, r.n, r.xs⟩], by omega, by go_num, hbk1.set_ k _, ⟨by simpa using c1, by simp [c2], ?_, fun j hj => ?_, ?_, ?_⟩, (hbw.trans (hb1.mono hz)).setCell (by simp) _⟩
        · rw [take_snoc' HX.out]
          unfold dat at *
          rw [List.map_append, c3]; rfl
        · rw [Array.getElem?_setIfInBounds]
          unfold rowsV
          rw [List.map_append]
          by_cases hjk : k = j
          · subst hjk
            rw [if_pos rfl, if_pos hcur, List.getElem?_append_right (by simp [c2])]
            simp [c2, Row.val]
          · rw [if_neg hjk, c4 j (by omega), List.getElem?_append_left (by simp [c2]; omega)]
            rfl
        · intro q hq
          rw [List.mem_append, List.mem_singleton] at hq
          rcases hq with hq | rfl
          · exact ownsRow_setCell_below (hown q hq) (by simp) _
          · exact ownsRow_setCell_below (own_base ho1 (by omega)) (by simp) _
        · rw [List.pairwise_append]
          refine ⟨c6, List.pairwise_singleton _ _, fun q hq s hs j h1 h2 => ?_⟩
          rw [List.mem_singleton] at hs
          subst hs
          have h3 := ((c5 q hq).lt j h1).2
          injection h2 with h2
          subst h2
          exact absurd h3 (Nat.lt_irrefl _)
      case measure => simp [intOf]; omega
    · have e : k = n := by omega
      subst e
      go_wp2
      go_ret
      obtain ⟨c1, c2, c3, c4, c5, c6⟩ := HC.out
      refine ⟨rs', rfl, ⟨own_of_blk hbk (by simpa [rowsV] using c2) c1 (wfmax hn) c4, fun r hr => own_base (c5 r hr) (by omega), c6⟩, ?_, hbw⟩
      rw [c3, List.take_of_length_le (by rw [dat_len, HL.out]; omega)]
set_option maxHeartbeats 1600000 in
theorem eqInt64SS_b (A B : Option Addr) (n c d : Nat) (rs qs : List Row) (w : World) (hr : RSS w w.heap.size A n rs) (hq : RSS w w.heap.size B n qs) (hd : dat rs = dat qs) (hn : n ≤ 1099511627776) (hrn : ∀ r ∈ rs, r.n ≤ 1099511627776) :
    Calls Try.prog 42 #[.slice A n c, .slice B n d] w fun e w' => e = .returned (.bool true) ∧ Below w.heap.size w w' := by
  have HM := Lib.hid hrn
  have HD := Lib.hid hd
  clear hrn hd
  go_enter Try.func42, Try.ntmps42
  go_wp2
  go_loopw [5] (fun i wr => ∃ (k : Nat), k ≤ n ∧ i = .int .i64 k ∧ Below w.heap.size w wr) (fun i _ => n - (intOf i).toNat)
  case atStart => exact ⟨0, by omega, rfl, Below.refl _ _⟩
  case round =>
    obtain ⟨k, hk, rfl, hbw⟩ := hrel
    have hz := hbw.size
    by_cases hlt : k < n
    · obtain ⟨ad, r, rfl, hx, hc, hrr⟩ := (hr.below hbw).at_ hlt
      obtain ⟨bd, q, rfl, hx', hc', hqq⟩ := (hq.below hbw).at_ hlt
      have hm := HM.out r (List.mem_of_getElem? hx)
      have hxs : r.xs = q.xs := by
        have h1 := dat_at hx
        rw [HD.out, dat_at hx'] at h1
        exact (Option.some.inj h1).symm
      have hrn : r.n = q.n := by
        have h1 := ints_len hrr
        have h2 := ints_len hqq
        rw [hxs] at h1
        omega
      have hlt' : (k : Int) < (n : Int) := by omega
      rw [hxs] at hrr
      obtain ⟨rA, rn, rc, rxs⟩ := r
      obtain ⟨qA, qn, qc, qxs⟩ := q
      simp only at hrn hrr hqq hc hc' hm
      subst hrn
      clear hx hx' hxs
      have hcall : ∀ m : Nat, Calls Try.prog 71 #[.slice rA rn rc, .slice qA rn qc] (wr.drewN m) fun e w' => e = .returned (.bool true) ∧ ∃ j, w' = (wr.drewN m).drewN j :=
        fun m => eqInt64S_same rA qA rn rc qc qxs _ ((hrr.more hz).drewN m) ((hqq.more hz).drewN m) hm
      have HK := Lib.hid hcall
      clear hcall
      go_wp2_with fail
      go_quiet ((go_at_call 71; exact Calls.quiet_of (HK.out _)))
      go_wp2
      go_roundw
      case rel => exact ⟨k + 1, by omega, by go_num, below_drewN hbw _⟩
      case measure => simp [intOf]; omega
    · go_wp2
      go_ret
      exact ⟨rfl, hbw⟩
end Go.Proofs.Ytapophggndlhaaa
