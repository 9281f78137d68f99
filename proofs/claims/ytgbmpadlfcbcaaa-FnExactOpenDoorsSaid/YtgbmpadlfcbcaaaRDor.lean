/- Records of the kind Door: their cells, and the contracts of the laws' helpers on them. -/
import Derived.Test.YtgbmpadlfcbcaaaRec
namespace Go.Proofs.Ytgbmpadlfcbcaaa
set_option linter.unusedVariables false
set_option linter.unusedSimpArgs false
open Go.RowKit
structure Dor where
  s : ByteArray
  a : Int
  b : Int
  c : Int
instance : Inhabited Dor := ⟨⟨ByteArray.empty, 0, 0, 0⟩⟩
def Dor.cells (x : Dor) : List Value := [.string x.s, .int .i64 x.a, .int .i64 x.b, .int .i64 x.c]
def Dor.val (x : Dor) : Value := .agg #[.string x.s, .int .i64 x.a, .int .i64 x.b, .int .i64 x.c]
theorem Dor.clen (x : Dor) : x.cells.length = 4 := rfl
def Dor.len (x : Dor) : Nat := x.s.size
theorem Dor.one (x : Dor) : ∀ u ∈ x.cells, u.oneCell' = true := by
  intro u hu
  simp only [Dor.cells, List.mem_cons, List.not_mem_nil, or_false] at hu
  rcases hu with rfl | rfl | rfl | rfl <;> rfl
abbrev Dor.recs (xs : List Dor) : List Value := Go.Proofs.Ytgbmpadlfcbcaaa.recs Dor.cells xs
theorem Dor.open_ {w : World} {p : Addr} {x : Dor} (h : Cells w p x.cells) : w.cell? p = some (.string x.s) ∧ w.cell? ⟨p.block, p.off + 1, none⟩ = some (.int .i64 x.a) ∧ w.cell? ⟨p.block, p.off + 2, none⟩ = some (.int .i64 x.b) ∧ w.cell? ⟨p.block, p.off + 3, none⟩ = some (.int .i64 x.c) :=
  ⟨h.z rfl, h.at_ 0 rfl, h.at_ 1 rfl, h.at_ 2 rfl⟩
theorem Dor.shut_ {w : World} {g : Nat} {x : Dor} (h0 : w.cell? ⟨g, 0, none⟩ = some (.string x.s)) (h1 : w.cell? ⟨g, 1, none⟩ = some (.int .i64 x.a)) (h2 : w.cell? ⟨g, 2, none⟩ = some (.int .i64 x.b)) (h3 : w.cell? ⟨g, 3, none⟩ = some (.int .i64 x.c)) : Cells w ⟨g, 0, none⟩ x.cells := by
  intro j u e
  have hj : j < 4 := by
    rcases Nat.lt_or_ge j 4 with h | h
    · exact h
    · rw [List.getElem?_eq_none (by rw [Dor.clen]; exact h)] at e; cases e
  match j, hj with
  | 0, _ => obtain rfl := Option.some.inj e; exact h0
  | 1, _ => obtain rfl := Option.some.inj e; exact h1
  | 2, _ => obtain rfl := Option.some.inj e; exact h2
  | 3, _ => obtain rfl := Option.some.inj e; exact h3
theorem szDor_any (x : Dor) (l : Int) (w : World) (hs : x.s.size ≤ maxLen) (h1 : 0 ≤ l) (h2 : l ≤ 1048576) :
    Calls Try.prog 68 #[.agg #[.string x.s, .int .i64 x.a, .int .i64 x.b, .int .i64 x.c], .int .i64 l] w fun e w' => e = .returned (.int .i64 (szI l x.s.size)) ∧ Below w.heap.size w w' := by
  unfold maxLen at hs
  by_cases h : l < x.s.size
  all_goals
    go_enter Try.func68, Try.ntmps68
    go_wp2
    go_ret
    exact ⟨ret_int (by unfold szI; split <;> omega), (Below.refl _ _).alloc (Nat.le_refl _) _⟩
set_option maxHeartbeats 800000 in
theorem szDorS_any (A : Option Addr) (n c : Nat) (xs : List Dor) (l : Int) (w : World) (hr : Reads w w.heap.size 4 A n (Dor.recs xs)) (h1 : 0 ≤ l) (h2 : l ≤ 1048576) (hn : n ≤ maxLen) (hxs : ∀ x ∈ xs, x.s.size ≤ maxLen) :
    Calls Try.prog 25 #[.slice A n c, .int .i64 l] w fun e w' => e = .returned (.int .i64 (szI l (n + sumN Dor.len xs))) ∧ Below w.heap.size w w' := by
  unfold maxLen at hn
  have HL := Lib.hid (recs_rlen Dor.clen (by omega) hr)
  have HM := Lib.hid hxs
  have t0 := sumN_nonneg Dor.len xs
  clear hxs
  by_cases hb : l < n
  · have HS := Lib.hid (szI_n (l := l) (s := n + sumN Dor.len xs) (by omega))
    go_enter Try.func25, Try.ntmps25
    go_wp2
    go_ret
    exact ⟨ret_int HS.out.symm, Below.refl _ _⟩
  · go_enter Try.func25, Try.ntmps25
    go_wp2
    go_loopw [1, 5] (fun s i wr => ∃ k : Nat, k ≤ n ∧ i = .int .i64 k ∧ s = .int .i64 (l - n - sumN Dor.len (xs.take k)) ∧ n + sumN Dor.len (xs.take k) ≤ l ∧ Below w.heap.size w wr) (fun _ i _ => n - (intOf i).toNat)
    case atStart => exact ⟨0, by omega, rfl, by simp [sumN], by simp [sumN]; omega, Below.refl _ _⟩
    case round =>
      obtain ⟨k, hk, rfl, rfl, hok, hbr⟩ := hrel
      have p0 := sumN_nonneg Dor.len (xs.take k)
      by_cases hlt : k < n
      · obtain ⟨ad, x, rfl, had, hx, hc⟩ := (hr.below hbr).rec_at Dor.clen (by omega) hlt
        have HX := Lib.hid (sumN_snoc (f := Dor.len) hx)
        have HT := Lib.hid (sumN_take Dor.len xs (k + 1))
        have hm := HM.out x (List.mem_of_getElem? hx)
        obtain ⟨h0, h1, h2, h3⟩ := Dor.open_ hc
        clear hx hc
        by_cases hs : l - n - sumN Dor.len (xs.take k) < x.s.size
        · have HS := Lib.hid (szI_n (l := l) (s := n + sumN Dor.len xs) (by have := HX.out; have := HT.out; simp only [Dor.len] at *; omega))
          have cc := szDor_any x (l - n - sumN Dor.len (xs.take k)) wr hm (by omega) (by omega)
          rw [szI_n hs] at cc
          go_wp2_with fail; ((with_reducible refine cc.mono ?_); rintro e w1 ⟨rfl, hb1⟩)
          go_wp2
          go_ret
          exact ⟨ret_int HS.out.symm, hbr.trans (hb1.mono hbr.size)⟩
        · have cc := szDor_any x (l - n - sumN Dor.len (xs.take k)) wr hm (by omega) (by omega)
          rw [szI_y hs] at cc
          go_wp2_with fail; ((with_reducible refine cc.mono ?_); rintro e w1 ⟨rfl, hb1⟩)
          go_wp2
          go_roundw
          case rel => exact ⟨k + 1, by omega, by go_num, by rw [HX.out]; exact congrArg (Value.int .i64) (by simp only [Dor.len]; omega), by rw [HX.out]; simp only [Dor.len]; omega, hbr.trans (hb1.mono hbr.size)⟩
          case measure => simp [intOf]; omega
      · have e : k = n := by omega
        have HT : Hid (xs.take k = xs) := List.take_of_length_le (by rw [HL.out]; omega)
        rw [HT.out] at hok
        have HS := Lib.hid (szI_y (l := l) (s := n + sumN Dor.len xs) (by omega))
        go_wp2
        go_ret
        exact ⟨ret_int (by rw [HS.out, HT.out]; omega), hbr⟩
theorem toDor_any (x : Dor) (w : World) (hs : x.s.size ≤ maxLen) :
    Calls Try.prog 70 #[.agg #[.string x.s, .int .i64 x.a, .int .i64 x.b, .int .i64 x.c]] w fun e w' => e = .returned (.agg #[.string x.s, .int .i64 x.a, .int .i64 x.b, .int .i64 x.c]) ∧ Below w.heap.size w w' := by
  go_enter Try.func70, Try.ntmps70
  go_wp2
  refine bodyPost_ret (v := .agg #[.string x.s, .int .i64 x.a, .int .i64 x.b, .int .i64 x.c]) (by simp [results, Try.results70, go_sem]) rfl ⟨rfl, ?_⟩
  (repeat (first | exact Below.refl _ _ | assumption | (refine Below.alloc ?_ (by first | exact Nat.le_refl _ | (simp; done) | (simp; omega)) _) | (refine below_drewN ?_ _) | (refine Below.trans ?_ (Below.mono (by assumption) (by first | exact Nat.le_refl _ | (simp; done) | (simp; omega) | omega)))))
theorem info_Dor : (Try.prog.info? 87).map (fun i => (i.zero, i.size, i.bytes)) = some (some (.agg #[.string ByteArray.empty, .int .i64 0, .int .i64 0, .int .i64 0]), 4, 40) := by kernel_rfl
set_option maxHeartbeats 1600000 in
theorem toDorS_any (A : Option Addr) (n c : Nat) (xs : List Dor) (w : World) (hr : Reads w w.heap.size 4 A n (Dor.recs xs)) (hn : n ≤ 1048576) (hxs : ∀ x ∈ xs, x.s.size ≤ maxLen) :
    Calls Try.prog 27 #[.slice A n c] w fun e w' => e = .returned (.slice (some ⟨w.heap.size, 0, none⟩) n n) ∧ w'.ownsRow w.heap.size 87 4 (.slice (some ⟨w.heap.size, 0, none⟩) n n) n (Dor.recs xs) ∧ Below w.heap.size w w' := by
  have HL := Lib.hid hr.1
  have HM := Lib.hid hxs
  clear hxs
  obtain ⟨i0, hi0, hz0, hz1, hz2⟩ := info_parts info_Dor
  have hmk := run_make_rowN (P := Try.prog) 44 87 i0 _ Try.underlying44 hi0 hz0 .i64 .i64 n n (Nat.le_refl _) (by rw [hz2]; omega) (by omega)
  rw [hz1] at hmk
  go_enter Try.func27, Try.ntmps27
  go_wp2
  go_loopw [4] (fun i wr => ∃ (k : Nat) (cur : Array Value), k ≤ n ∧ i = .int .i64 k ∧ Blk wr w.heap.size 87 cur ∧ Hid (cur.size = n * 4 ∧ ∀ j, j < k * 4 → cur[j]? = (Dor.recs xs)[j]?) ∧ Below w.heap.size w wr) (fun i _ => n - (intOf i).toNat)
  case atStart => exact ⟨0, _, by omega, rfl, Blk.new _ _ _, ⟨size_madeCells _ _, fun j hj => absurd hj (by omega)⟩, by (repeat (first | exact Below.refl _ _ | assumption | (refine Below.alloc ?_ (by first | exact Nat.le_refl _ | (simp; done) | (simp; omega)) _) | (refine below_drewN ?_ _) | (refine Below.trans ?_ (Below.mono (by assumption) (by first | exact Nat.le_refl _ | (simp; done) | (simp; omega) | omega)))))⟩
  case round =>
    obtain ⟨k, cur, hk, rfl, hbk, HC, hbw⟩ := hrel
    have hz := hbw.size
    have hgl := hbk.lt
    by_cases hlt : k < n
    · obtain ⟨ad, x, rfl, had, hx, hc⟩ := (hr.below hbw).rec_at Dor.clen (by omega) hlt
      have hm := HM.out x (List.mem_of_getElem? hx)
      have HX := Lib.hid (rel_set Dor.clen hx hlt HC.out.1 HC.out.2)
      obtain ⟨h0, h1, h2, h3⟩ := Dor.open_ hc
      clear hx hc
      go_wp2_with fail; ((with_reducible refine (toDor_any x _ hm).mono ?_); rintro e w1 ⟨rfl, hb1⟩)
      have hbk1 := hbk.below hb1 hgl
      have hcs : Hid (cur.size = n * 4) := HC.out.1
      have hkz : k * 4 + 3 < cur.size := by rw [hcs.out]; omega

      have o0 : w1.cell? ⟨w.heap.size, k * 4, none⟩ = some (cur[k * 4 + 0]'(by omega)) := by rw [hbk1.cell]; exact Array.getElem?_eq_getElem (by omega)
      have f0 := hbk1.frozen (k * 4)
      have o1 : w1.cell? ⟨w.heap.size, k * 4 + 1, none⟩ = some (cur[k * 4 + 1]'(by omega)) := by rw [hbk1.cell]; exact Array.getElem?_eq_getElem (by omega)
      have f1 := hbk1.frozen (k * 4 + 1)
      have o2 : w1.cell? ⟨w.heap.size, k * 4 + 2, none⟩ = some (cur[k * 4 + 2]'(by omega)) := by rw [hbk1.cell]; exact Array.getElem?_eq_getElem (by omega)
      have f2 := hbk1.frozen (k * 4 + 2)
      have o3 : w1.cell? ⟨w.heap.size, k * 4 + 3, none⟩ = some (cur[k * 4 + 3]'(by omega)) := by rw [hbk1.cell]; exact Array.getElem?_eq_getElem (by omega)
      have f3 := hbk1.frozen (k * 4 + 3)
      go_wp2
      go_roundw
      case rel => exact ⟨k + 1, _, by omega, by go_num, ((((hbk1.set_ (k * 4) _).set_ (k * 4 + 1) _).set_ (k * 4 + 2) _).set_ (k * 4 + 3) _), HX.out, (((((hbw.trans (hb1.mono hz)).setCell (by simp) _).setCell (by simp) _).setCell (by simp) _).setCell (by simp) _)⟩
      case measure => simp [intOf]; omega
    · have e : k = n := by omega
      subst e
      go_wp2
      go_ret
      exact ⟨rfl, own_of_blkZ hbk HL.out HC.out.1 (wfmax hn) HC.out.2, hbw⟩
theorem eqDor_any (x : Dor) (w : World) :
    Calls Try.prog 75 #[.agg #[.string x.s, .int .i64 x.a, .int .i64 x.b, .int .i64 x.c], .agg #[.string x.s, .int .i64 x.a, .int .i64 x.b, .int .i64 x.c]] w fun e w' => e = .returned (.bool true) ∧ Below w.heap.size w w' := by
  go_enter Try.func75, Try.ntmps75
  go_wp2
  go_ret
  exact ⟨rfl, by (repeat (first | exact Below.refl _ _ | assumption | (refine Below.alloc ?_ (by first | exact Nat.le_refl _ | (simp; done) | (simp; omega)) _) | (refine below_drewN ?_ _) | (refine Below.trans ?_ (Below.mono (by assumption) (by first | exact Nat.le_refl _ | (simp; done) | (simp; omega) | omega)))))⟩
set_option maxHeartbeats 1600000 in
set_option maxRecDepth 100000 in
theorem eqDorS_b (A B : Option Addr) (n c d : Nat) (xs : List Dor) (w : World) (hr : Reads w w.heap.size 4 A n (Dor.recs xs)) (hq : Reads w w.heap.size 4 B n (Dor.recs xs)) (hn : n ≤ 1099511627776) :
    Calls Try.prog 29 #[.slice A n c, .slice B n d] w fun e w' => e = .returned (.bool true) ∧ Below w.heap.size w w' := by
  go_enter Try.func29, Try.ntmps29
  go_wp2
  go_loopw [5] (fun i wr => ∃ (k : Nat), k ≤ n ∧ i = .int .i64 k ∧ Below w.heap.size w wr) (fun i _ => n - (intOf i).toNat)
  case atStart => exact ⟨0, by omega, rfl, Below.refl _ _⟩
  case round =>
    obtain ⟨k, hk, rfl, hbw⟩ := hrel
    have hz := hbw.size
    by_cases hlt : k < n
    · obtain ⟨ad, x, rfl, had, hx, hc⟩ := (hr.below hbw).rec_at Dor.clen (by omega) hlt
      obtain ⟨bd, x', rfl, hbd, hx', hc'⟩ := (hq.below hbw).rec_at Dor.clen (by omega) hlt
      obtain rfl : x = x' := by rw [hx] at hx'; exact Option.some.inj hx'
      obtain ⟨h0, h1, h2, h3⟩ := Dor.open_ hc
      obtain ⟨k0, k1, k2, k3⟩ := Dor.open_ hc'
      have hlt' : (k : Int) < (n : Int) := by omega
      clear hx hx' hc hc'
      go_wp2
      go_still_tail 8, (by kernel_rfl)
      go_wp2_with fail; ((with_reducible refine (eqDor_any x _).mono ?_); rintro e w1 ⟨rfl, hb1⟩)
      go_wp2
      go_roundw
      case rel => exact ⟨k + 1, by omega, by go_num, (below_drewN hbw 1).trans (hb1.mono hz)⟩
      case measure => simp [intOf]; omega
    · go_wp2
      go_ret
      exact ⟨rfl, hbw⟩
set_option maxHeartbeats 3200000 in
theorem markDorS_any (A : Option Addr) (n c : Nat) (xs : List Value) (k : Int) (base : Nat) (w : World) (hown : w.ownsRow base 87 4 (.slice A n c) n xs) (hn : n ≤ 1048576) (hk0 : 0 ≤ k) (hk1 : k ≤ 1073741824) :
    Calls Try.prog 49 #[.slice A n c, .int .i64 k] w fun e w' => e = .returned (.int .i64 (k + 4 * n)) ∧ w.grownBy w' (Value.ownBlock (.slice A n c)) := by
  rcases Nat.eq_zero_or_pos n with h0 | hpos
  · subst h0
    go_enter Try.func49, Try.ntmps49
    go_wp2
    go_loop [1, 5] (fun kk i => kk = .int .i64 k ∧ i = .int .i64 0) (fun _ _ => 0)
    case atStart => exact ⟨rfl, rfl⟩
    case round =>
      obtain ⟨rfl, rfl⟩ := hrel
      go_wp2
      go_ret
      exact ⟨ret_int (by omega), World.grownBy.refl _ _⟩
  · rcases hown.2 with ⟨_, h0⟩ | ⟨g, cap, cur, hv, hbg, hgb, hnc, hcm, hcs, htake⟩
    · exfalso
      have h1 := hown.1
      rw [h0] at h1
      simp at h1; omega
    injection hv with hA _ hc
    subst hA
    subst hc
    have hBlk : Blk w g 87 cur := hgb
    have HS := Lib.hid hcs
    clear hcs htake
    have hgl := hBlk.lt
    go_enter Try.func49, Try.ntmps49
    go_wp2
    go_loopw [1, 5] (fun kk i wr => ∃ (j : Nat) (cu : Array Value), j ≤ n ∧ kk = .int .i64 (k + 4 * j) ∧ i = .int .i64 j ∧ Blk wr g 87 cu ∧ Hid (cu.size = cur.size) ∧ w.grownBy wr (some g)) (fun _ i _ => n - (intOf i).toNat)
    case atStart => exact ⟨0, cur, by omega, by go_num, rfl, hBlk, rfl, World.grownBy.refl _ _⟩
    case round =>
      obtain ⟨j, cu, hj, rfl, rfl, hbk, HC, hgr⟩ := hrel
      by_cases hlt : j < n
      · have hgw := hbk.lt
        have hks : k + 4 * (j : Int) ≤ 1099511627776 := by omega
        have hks0 : 0 ≤ k + 4 * (j : Int) := by omega
        go_wp2_with fail; ((with_reducible refine (markText_any _ _ hks0 hks).mono ?_); rintro e w1 ⟨ms, rfl, hb1⟩)
        have hbk1 := hbk.below hb1 hgw
        have hjz : j * 4 + 3 < cu.size := by rw [HC.out, HS.out]; omega
        have o0 : w1.cell? ⟨g, j * 4, none⟩ = some (cu[j * 4 + 0]'(by omega)) := by rw [hbk1.cell]; exact Array.getElem?_eq_getElem (by omega)
        have f0 := hbk1.frozen (j * 4)
        have o1 : w1.cell? ⟨g, j * 4 + 1, none⟩ = some (cu[j * 4 + 1]'(by omega)) := by rw [hbk1.cell]; exact Array.getElem?_eq_getElem (by omega)
        have f1 := hbk1.frozen (j * 4 + 1)
        have o2 : w1.cell? ⟨g, j * 4 + 2, none⟩ = some (cu[j * 4 + 2]'(by omega)) := by rw [hbk1.cell]; exact Array.getElem?_eq_getElem (by omega)
        have f2 := hbk1.frozen (j * 4 + 2)
        have o3 : w1.cell? ⟨g, j * 4 + 3, none⟩ = some (cu[j * 4 + 3]'(by omega)) := by rw [hbk1.cell]; exact Array.getElem?_eq_getElem (by omega)
        have f3 := hbk1.frozen (j * 4 + 3)
        go_wp2
        go_roundw
        case rel => exact ⟨j + 1, _, by omega, by go_num, by go_num, ((((hbk1.set_ (j * 4) _).set_ (j * 4 + 1) _).set_ (j * 4 + 2) _).set_ (j * 4 + 3) _), by show _ = _; simpa using HC.out, (only_setCell (only_setCell (only_setCell (only_setCell (grown_below hgr hb1) (.inl rfl) _) (.inl rfl) _) (.inl rfl) _) (.inl rfl) _)⟩
        case measure => simp [intOf]; omega
      · have e : j = n := by omega
        subst e
        go_wp2
        go_ret
        exact ⟨rfl, hgr⟩
end Go.Proofs.Ytgbmpadlfcbcaaa
