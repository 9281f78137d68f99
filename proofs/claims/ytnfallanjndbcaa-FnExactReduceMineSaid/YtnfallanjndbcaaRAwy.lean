/- Records of the kind Airway: their cells, and the contracts of the laws' helpers on them. -/
import Derived.Test.YtnfallanjndbcaaRec
namespace Go.Proofs.Ytnfallanjndbcaa
set_option linter.unusedVariables false
set_option linter.unusedSimpArgs false
open Go.RowKit
structure Awy where
  s : ByteArray
  a : Int
  b : Int
  l : Int
  c : Int
  f : Int
  h : Int
instance : Inhabited Awy := ⟨⟨ByteArray.empty, 0, 0, 0, 0, 0, 0⟩⟩
def Awy.cells (x : Awy) : List Value := [.string x.s, .int .i64 x.a, .int .i64 x.b, .int .i64 x.l, .int .i64 x.c, .int .i64 x.f, .int .i64 x.h]
def Awy.val (x : Awy) : Value := .agg #[.string x.s, .int .i64 x.a, .int .i64 x.b, .int .i64 x.l, .int .i64 x.c, .int .i64 x.f, .int .i64 x.h]
theorem Awy.clen (x : Awy) : x.cells.length = 7 := rfl
def Awy.len (x : Awy) : Nat := x.s.size
theorem Awy.one (x : Awy) : ∀ u ∈ x.cells, u.oneCell' = true := by
  intro u hu
  simp only [Awy.cells, List.mem_cons, List.not_mem_nil, or_false] at hu
  rcases hu with rfl | rfl | rfl | rfl | rfl | rfl | rfl <;> rfl
abbrev Awy.recs (xs : List Awy) : List Value := Go.Proofs.Ytnfallanjndbcaa.recs Awy.cells xs
theorem Awy.open_ {w : World} {p : Addr} {x : Awy} (h : Cells w p x.cells) : w.cell? p = some (.string x.s) ∧ w.cell? ⟨p.block, p.off + 1, none⟩ = some (.int .i64 x.a) ∧ w.cell? ⟨p.block, p.off + 2, none⟩ = some (.int .i64 x.b) ∧ w.cell? ⟨p.block, p.off + 3, none⟩ = some (.int .i64 x.l) ∧ w.cell? ⟨p.block, p.off + 4, none⟩ = some (.int .i64 x.c) ∧ w.cell? ⟨p.block, p.off + 5, none⟩ = some (.int .i64 x.f) ∧ w.cell? ⟨p.block, p.off + 6, none⟩ = some (.int .i64 x.h) :=
  ⟨h.z rfl, h.at_ 0 rfl, h.at_ 1 rfl, h.at_ 2 rfl, h.at_ 3 rfl, h.at_ 4 rfl, h.at_ 5 rfl⟩
theorem Awy.shut_ {w : World} {g : Nat} {x : Awy} (h0 : w.cell? ⟨g, 0, none⟩ = some (.string x.s)) (h1 : w.cell? ⟨g, 1, none⟩ = some (.int .i64 x.a)) (h2 : w.cell? ⟨g, 2, none⟩ = some (.int .i64 x.b)) (h3 : w.cell? ⟨g, 3, none⟩ = some (.int .i64 x.l)) (h4 : w.cell? ⟨g, 4, none⟩ = some (.int .i64 x.c)) (h5 : w.cell? ⟨g, 5, none⟩ = some (.int .i64 x.f)) (h6 : w.cell? ⟨g, 6, none⟩ = some (.int .i64 x.h)) : Cells w ⟨g, 0, none⟩ x.cells := by
  intro j u e
  have hj : j < 7 := by
    rcases Nat.lt_or_ge j 7 with h | h
    · exact h
    · rw [List.getElem?_eq_none (by rw [Awy.clen]; exact h)] at e; cases e
  match j, hj with
  | 0, _ => obtain rfl := Option.some.inj e; exact h0
  | 1, _ => obtain rfl := Option.some.inj e; exact h1
  | 2, _ => obtain rfl := Option.some.inj e; exact h2
  | 3, _ => obtain rfl := Option.some.inj e; exact h3
  | 4, _ => obtain rfl := Option.some.inj e; exact h4
  | 5, _ => obtain rfl := Option.some.inj e; exact h5
  | 6, _ => obtain rfl := Option.some.inj e; exact h6
theorem szAwy_any (x : Awy) (l : Int) (w : World) (hs : x.s.size ≤ maxLen) (h1 : 0 ≤ l) (h2 : l ≤ 1048576) :
    Calls Try.prog 25 #[.agg #[.string x.s, .int .i64 x.a, .int .i64 x.b, .int .i64 x.l, .int .i64 x.c, .int .i64 x.f, .int .i64 x.h], .int .i64 l] w fun e w' => e = .returned (.int .i64 (szI l x.s.size)) ∧ Below w.heap.size w w' := by
  unfold maxLen at hs
  by_cases h : l < x.s.size
  all_goals
    go_enter Try.func25, Try.ntmps25
    go_wp2
    go_ret
    exact ⟨ret_int (by unfold szI; split <;> omega), (Below.refl _ _).alloc (Nat.le_refl _) _⟩
set_option maxHeartbeats 800000 in
theorem szAwyS_any (A : Option Addr) (n c : Nat) (xs : List Awy) (l : Int) (w : World) (hr : Reads w w.heap.size 7 A n (Awy.recs xs)) (h1 : 0 ≤ l) (h2 : l ≤ 1048576) (hn : n ≤ maxLen) (hxs : ∀ x ∈ xs, x.s.size ≤ maxLen) :
    Calls Try.prog 11 #[.slice A n c, .int .i64 l] w fun e w' => e = .returned (.int .i64 (szI l (n + sumN Awy.len xs))) ∧ Below w.heap.size w w' := by
  unfold maxLen at hn
  have HL := Lib.hid (recs_rlen Awy.clen (by omega) hr)
  have HM := Lib.hid hxs
  have t0 := sumN_nonneg Awy.len xs
  clear hxs
  by_cases hb : l < n
  · have HS := Lib.hid (szI_n (l := l) (s := n + sumN Awy.len xs) (by omega))
    go_enter Try.func11, Try.ntmps11
    go_wp2
    go_ret
    exact ⟨ret_int HS.out.symm, Below.refl _ _⟩
  · go_enter Try.func11, Try.ntmps11
    go_wp2
    go_loopw [1, 5] (fun s i wr => ∃ k : Nat, k ≤ n ∧ i = .int .i64 k ∧ s = .int .i64 (l - n - sumN Awy.len (xs.take k)) ∧ n + sumN Awy.len (xs.take k) ≤ l ∧ Below w.heap.size w wr) (fun _ i _ => n - (intOf i).toNat)
    case atStart => exact ⟨0, by omega, rfl, by simp [sumN], by simp [sumN]; omega, Below.refl _ _⟩
    case round =>
      obtain ⟨k, hk, rfl, rfl, hok, hbr⟩ := hrel
      have p0 := sumN_nonneg Awy.len (xs.take k)
      by_cases hlt : k < n
      · obtain ⟨ad, x, rfl, had, hx, hc⟩ := (hr.below hbr).rec_at Awy.clen (by omega) hlt
        have HX := Lib.hid (sumN_snoc (f := Awy.len) hx)
        have HT := Lib.hid (sumN_take Awy.len xs (k + 1))
        have hm := HM.out x (List.mem_of_getElem? hx)
        obtain ⟨h0, h1, h2, h3, h4, h5, h6⟩ := Awy.open_ hc
        clear hx hc
        by_cases hs : l - n - sumN Awy.len (xs.take k) < x.s.size
        · have HS := Lib.hid (szI_n (l := l) (s := n + sumN Awy.len xs) (by have := HX.out; have := HT.out; simp only [Awy.len] at *; omega))
          have cc := szAwy_any x (l - n - sumN Awy.len (xs.take k)) wr hm (by omega) (by omega)
          rw [szI_n hs] at cc
          go_wp2_with fail; ((with_reducible refine cc.mono ?_); rintro e w1 ⟨rfl, hb1⟩)
          go_wp2
          go_ret
          exact ⟨ret_int HS.out.symm, hbr.trans (hb1.mono hbr.size)⟩
        · have cc := szAwy_any x (l - n - sumN Awy.len (xs.take k)) wr hm (by omega) (by omega)
          rw [szI_y hs] at cc
          go_wp2_with fail; ((with_reducible refine cc.mono ?_); rintro e w1 ⟨rfl, hb1⟩)
          go_wp2
          go_roundw
          case rel => exact ⟨k + 1, by omega, by go_num, by rw [HX.out]; exact congrArg (Value.int .i64) (by simp only [Awy.len]; omega), by rw [HX.out]; simp only [Awy.len]; omega, hbr.trans (hb1.mono hbr.size)⟩
          case measure => simp [intOf]; omega
      · have e : k = n := by omega
        have HT : Hid (xs.take k = xs) := List.take_of_length_le (by rw [HL.out]; omega)
        rw [HT.out] at hok
        have HS := Lib.hid (szI_y (l := l) (s := n + sumN Awy.len xs) (by omega))
        go_wp2
        go_ret
        exact ⟨ret_int (by rw [HS.out, HT.out]; omega), hbr⟩
theorem toAwy_any (x : Awy) (w : World) (hs : x.s.size ≤ maxLen) :
    Calls Try.prog 32 #[.agg #[.string x.s, .int .i64 x.a, .int .i64 x.b, .int .i64 x.l, .int .i64 x.c, .int .i64 x.f, .int .i64 x.h]] w fun e w' => e = .returned (.agg #[.string x.s, .int .i64 x.a, .int .i64 x.b, .int .i64 x.l, .int .i64 x.c, .int .i64 x.f, .int .i64 x.h]) ∧ Below w.heap.size w w' := by
  go_enter Try.func32, Try.ntmps32
  go_wp2
  refine bodyPost_ret (v := .agg #[.string x.s, .int .i64 x.a, .int .i64 x.b, .int .i64 x.l, .int .i64 x.c, .int .i64 x.f, .int .i64 x.h]) (by simp [results, Try.results32, go_sem]) rfl ⟨rfl, ?_⟩
  (repeat (first | exact Below.refl _ _ | assumption | (refine Below.alloc ?_ (by first | exact Nat.le_refl _ | (simp; done) | (simp; omega)) _) | (refine below_drewN ?_ _) | (refine Below.trans ?_ (Below.mono (by assumption) (by first | exact Nat.le_refl _ | (simp; done) | (simp; omega) | omega)))))
theorem info_Awy : (Try.prog.info? 44).map (fun i => (i.zero, i.size, i.bytes)) = some (some (.agg #[.string ByteArray.empty, .int .i64 0, .int .i64 0, .int .i64 0, .int .i64 0, .int .i64 0, .int .i64 0]), 7, 64) := by kernel_rfl
set_option maxHeartbeats 1600000 in
theorem toAwyS_any (A : Option Addr) (n c : Nat) (xs : List Awy) (w : World) (hr : Reads w w.heap.size 7 A n (Awy.recs xs)) (hn : n ≤ 1048576) (hxs : ∀ x ∈ xs, x.s.size ≤ maxLen) :
    Calls Try.prog 16 #[.slice A n c] w fun e w' => e = .returned (.slice (some ⟨w.heap.size, 0, none⟩) n n) ∧ w'.ownsRow w.heap.size 44 7 (.slice (some ⟨w.heap.size, 0, none⟩) n n) n (Awy.recs xs) ∧ Below w.heap.size w w' := by
  have HL := Lib.hid hr.1
  have HM := Lib.hid hxs
  clear hxs
  obtain ⟨i0, hi0, hz0, hz1, hz2⟩ := info_parts info_Awy
  have hmk := run_make_rowN (P := Try.prog) 29 44 i0 _ Try.underlying29 hi0 hz0 .i64 .i64 n n (Nat.le_refl _) (by rw [hz2]; omega) (by omega)
  rw [hz1] at hmk
  go_enter Try.func16, Try.ntmps16
  go_wp2
  go_loopw [4] (fun i wr => ∃ (k : Nat) (cur : Array Value), k ≤ n ∧ i = .int .i64 k ∧ Blk wr w.heap.size 44 cur ∧ Hid (cur.size = n * 7 ∧ ∀ j, j < k * 7 → cur[j]? = (Awy.recs xs)[j]?) ∧ Below w.heap.size w wr) (fun i _ => n - (intOf i).toNat)
  case atStart => exact ⟨0, _, by omega, rfl, Blk.new _ _ _, ⟨size_madeCells _ _, fun j hj => absurd hj (by omega)⟩, by (repeat (first | exact Below.refl _ _ | assumption | (refine Below.alloc ?_ (by first | exact Nat.le_refl _ | (simp; done) | (simp; omega)) _) | (refine below_drewN ?_ _) | (refine Below.trans ?_ (Below.mono (by assumption) (by first | exact Nat.le_refl _ | (simp; done) | (simp; omega) | omega)))))⟩
  case round =>
    obtain ⟨k, cur, hk, rfl, hbk, HC, hbw⟩ := hrel
    have hz := hbw.size
    have hgl := hbk.lt
    by_cases hlt : k < n
    · obtain ⟨ad, x, rfl, had, hx, hc⟩ := (hr.below hbw).rec_at Awy.clen (by omega) hlt
      have hm := HM.out x (List.mem_of_getElem? hx)
      have HX := Lib.hid (rel_set Awy.clen hx hlt HC.out.1 HC.out.2)
      obtain ⟨h0, h1, h2, h3, h4, h5, h6⟩ := Awy.open_ hc
      clear hx hc
      go_wp2_with fail; ((with_reducible refine (toAwy_any x _ hm).mono ?_); rintro e w1 ⟨rfl, hb1⟩)
      have hbk1 := hbk.below hb1 hgl
      have hcs : Hid (cur.size = n * 7) := HC.out.1
      have hkz : k * 7 + 6 < cur.size := by rw [hcs.out]; omega

      have o0 : w1.cell? ⟨w.heap.size, k * 7, none⟩ = some (cur[k * 7 + 0]'(by omega)) := by rw [hbk1.cell]; exact Array.getElem?_eq_getElem (by omega)
      have f0 := hbk1.frozen (k * 7)
      have o1 : w1.cell? ⟨w.heap.size, k * 7 + 1, none⟩ = some (cur[k * 7 + 1]'(by omega)) := by rw [hbk1.cell]; exact Array.getElem?_eq_getElem (by omega)
      have f1 := hbk1.frozen (k * 7 + 1)
      have o2 : w1.cell? ⟨w.heap.size, k * 7 + 2, none⟩ = some (cur[k * 7 + 2]'(by omega)) := by rw [hbk1.cell]; exact Array.getElem?_eq_getElem (by omega)
      have f2 := hbk1.frozen (k * 7 + 2)
      have o3 : w1.cell? ⟨w.heap.size, k * 7 + 3, none⟩ = some (cur[k * 7 + 3]'(by omega)) := by rw [hbk1.cell]; exact Array.getElem?_eq_getElem (by omega)
      have f3 := hbk1.frozen (k * 7 + 3)
      have o4 : w1.cell? ⟨w.heap.size, k * 7 + 4, none⟩ = some (cur[k * 7 + 4]'(by omega)) := by rw [hbk1.cell]; exact Array.getElem?_eq_getElem (by omega)
      have f4 := hbk1.frozen (k * 7 + 4)
      have o5 : w1.cell? ⟨w.heap.size, k * 7 + 5, none⟩ = some (cur[k * 7 + 5]'(by omega)) := by rw [hbk1.cell]; exact Array.getElem?_eq_getElem (by omega)
      have f5 := hbk1.frozen (k * 7 + 5)
      have o6 : w1.cell? ⟨w.heap.size, k * 7 + 6, none⟩ = some (cur[k * 7 + 6]'(by omega)) := by rw [hbk1.cell]; exact Array.getElem?_eq_getElem (by omega)
      have f6 := hbk1.frozen (k * 7 + 6)
      go_wp2
      go_roundw
      case rel => exact ⟨k + 1, _, by omega, by go_num, (((((((hbk1.set_ (k * 7) _).set_ (k * 7 + 1) _).set_ (k * 7 + 2) _).set_ (k * 7 + 3) _).set_ (k * 7 + 4) _).set_ (k * 7 + 5) _).set_ (k * 7 + 6) _), HX.out, ((((((((hbw.trans (hb1.mono hz)).setCell (by simp) _).setCell (by simp) _).setCell (by simp) _).setCell (by simp) _).setCell (by simp) _).setCell (by simp) _).setCell (by simp) _)⟩
      case measure => simp [intOf]; omega
    · have e : k = n := by omega
      subst e
      go_wp2
      go_ret
      exact ⟨rfl, own_of_blkZ hbk HL.out HC.out.1 (wfmax hn) HC.out.2, hbw⟩
theorem eqAwy_any (x : Awy) (w : World) :
    Calls Try.prog 43 #[.agg #[.string x.s, .int .i64 x.a, .int .i64 x.b, .int .i64 x.l, .int .i64 x.c, .int .i64 x.f, .int .i64 x.h], .agg #[.string x.s, .int .i64 x.a, .int .i64 x.b, .int .i64 x.l, .int .i64 x.c, .int .i64 x.f, .int .i64 x.h]] w fun e w' => e = .returned (.bool true) ∧ Below w.heap.size w w' := by
  go_enter Try.func43, Try.ntmps43
  go_wp2
  go_ret
  exact ⟨rfl, by (repeat (first | exact Below.refl _ _ | assumption | (refine Below.alloc ?_ (by first | exact Nat.le_refl _ | (simp; done) | (simp; omega)) _) | (refine below_drewN ?_ _) | (refine Below.trans ?_ (Below.mono (by assumption) (by first | exact Nat.le_refl _ | (simp; done) | (simp; omega) | omega)))))⟩
set_option maxHeartbeats 1600000 in
set_option maxRecDepth 100000 in
theorem eqAwyS_b (A B : Option Addr) (n c d : Nat) (xs : List Awy) (w : World) (hr : Reads w w.heap.size 7 A n (Awy.recs xs)) (hq : Reads w w.heap.size 7 B n (Awy.recs xs)) (hn : n ≤ 1099511627776) :
    Calls Try.prog 24 #[.slice A n c, .slice B n d] w fun e w' => e = .returned (.bool true) ∧ Below w.heap.size w w' := by
  go_enter Try.func24, Try.ntmps24
  go_wp2
  go_loopw [5] (fun i wr => ∃ (k : Nat), k ≤ n ∧ i = .int .i64 k ∧ Below w.heap.size w wr) (fun i _ => n - (intOf i).toNat)
  case atStart => exact ⟨0, by omega, rfl, Below.refl _ _⟩
  case round =>
    obtain ⟨k, hk, rfl, hbw⟩ := hrel
    have hz := hbw.size
    by_cases hlt : k < n
    · obtain ⟨ad, x, rfl, had, hx, hc⟩ := (hr.below hbw).rec_at Awy.clen (by omega) hlt
      obtain ⟨bd, x', rfl, hbd, hx', hc'⟩ := (hq.below hbw).rec_at Awy.clen (by omega) hlt
      obtain rfl : x = x' := by rw [hx] at hx'; exact Option.some.inj hx'
      obtain ⟨h0, h1, h2, h3, h4, h5, h6⟩ := Awy.open_ hc
      obtain ⟨k0, k1, k2, k3, k4, k5, k6⟩ := Awy.open_ hc'
      have hlt' : (k : Int) < (n : Int) := by omega
      clear hx hx' hc hc'
      go_wp2
      go_still_tail 8, (by kernel_rfl)
      go_wp2_with fail; ((with_reducible refine (eqAwy_any x _).mono ?_); rintro e w1 ⟨rfl, hb1⟩)
      go_wp2
      go_roundw
      case rel => exact ⟨k + 1, by omega, by go_num, (below_drewN hbw 1).trans (hb1.mono hz)⟩
      case measure => simp [intOf]; omega
    · go_wp2
      go_ret
      exact ⟨rfl, hbw⟩
end Go.Proofs.Ytnfallanjndbcaa
