/- The laws' own helpers on fans and mines: size, copy, compare, mark. -/
import Derived.Test.YtjmhhbjbmgpagaaOwn
import Derived.Test.YtjmhhbjbmgpagaaRAwy
namespace Go.Proofs.Ytjmhhbjbmgpagaa
set_option linter.unusedVariables false
set_option linter.unusedSimpArgs false
open Go.RowKit
theorem szFan_any (s : ByteArray) (a : Int) (A : Option Addr) (n c : Nat) (rs : List Row) (l : Int) (w : World) (hs : s.size ≤ maxLen) (hr : RSS w w.heap.size A n rs) (h1 : 0 ≤ l) (h2 : l ≤ 1048576) (hn : n ≤ maxLen) (hrn : ∀ r ∈ rs, r.n ≤ maxLen) :
    Calls Try.prog 60 #[.agg #[.string s, .int .i64 a, .slice A n c], .int .i64 l] w fun e w' => e = .returned (.int .i64 (szI l (s.size + (n + tot rs)))) ∧ Below w.heap.size w w' := by
  have HM := Lib.hid hrn
  have t0 := tot_nonneg rs
  have HR : Hid (∀ W, Below w.heap.size w W → RSS W W.heap.size A n rs) := fun W hb => (hr.below hb).more hb.size
  have hn0 : n ≤ maxLen := hn
  have hs' := hs
  unfold maxLen at hs
  clear hrn
  by_cases hl : l < s.size
  · have HS := Lib.hid (szI_n (l := l) (s := s.size + (n + tot rs)) (by omega))
    go_enter Try.func60, Try.ntmps60
    go_wp2
    go_ret
    exact ⟨ret_int HS.out.symm, by (repeat (first | exact Below.refl _ _ | assumption | (refine Below.alloc ?_ (by first | exact Nat.le_refl _ | (simp; done) | (simp; omega)) _) | (refine below_drewN ?_ _) | (refine Below.trans ?_ (Below.mono (by assumption) (by first | exact Nat.le_refl _ | (simp; done) | (simp; omega) | omega)))))⟩
  · by_cases hl2 : l - s.size < n + tot rs
    · have HS := Lib.hid (szI_n (l := l) (s := s.size + (n + tot rs)) (by omega))
      have H2 : Hid (szI (l - s.size) (n + tot rs) = -1) := szI_n hl2
      go_enter Try.func60, Try.ntmps60
      go_wp2_with fail; ((with_reducible refine (szRows_any A n c rs _ _ (HR.out _ (by (repeat (first | exact Below.refl _ _ | assumption | (refine Below.alloc ?_ (by first | exact Nat.le_refl _ | (simp; done) | (simp; omega)) _) | (refine below_drewN ?_ _) | (refine Below.trans ?_ (Below.mono (by assumption) (by first | exact Nat.le_refl _ | (simp; done) | (simp; omega) | omega))))))) (by omega) (by omega) hn0 HM.out).mono ?_); rintro e w1 ⟨rfl, hb1⟩)
      rw [H2.out]
      go_wp2
      go_ret
      exact ⟨ret_int HS.out.symm, ((Below.refl _ _).alloc (Nat.le_refl _) _).trans (hb1.mono (by simp))⟩
    · have HS := Lib.hid (szI_y (l := l) (s := s.size + (n + tot rs)) (by omega))
      have H2 : Hid (szI (l - s.size) (n + tot rs) = l - s.size - (n + tot rs)) := szI_y hl2
      go_enter Try.func60, Try.ntmps60
      go_wp2_with fail; ((with_reducible refine (szRows_any A n c rs _ _ (HR.out _ (by (repeat (first | exact Below.refl _ _ | assumption | (refine Below.alloc ?_ (by first | exact Nat.le_refl _ | (simp; done) | (simp; omega)) _) | (refine below_drewN ?_ _) | (refine Below.trans ?_ (Below.mono (by assumption) (by first | exact Nat.le_refl _ | (simp; done) | (simp; omega) | omega))))))) (by omega) (by omega) hn0 HM.out).mono ?_); rintro e w1 ⟨rfl, hb1⟩)
      rw [H2.out]
      go_wp2
      go_ret
      exact ⟨ret_int (by rw [HS.out]; omega), ((Below.refl _ _).alloc (Nat.le_refl _) _).trans (hb1.mono (by simp))⟩
theorem OSS.setLow {w : World} {lo n c : Nat} {A : Option Addr} {rs : List Row} (h : OSS w lo A n c rs) {p : Addr} (hp : p.block < lo) (u : Value) : OSS (w.setCell p u) lo A n c rs :=
  ⟨ownsRow_setCell_below h.out hp u, fun r hr => ownsRow_setCell_below (h.row r hr) hp u, h.apart⟩
set_option maxHeartbeats 800000 in
theorem toFan_any (s : ByteArray) (a : Int) (A : Option Addr) (n c : Nat) (rs : List Row) (w : World) (hs : s.size ≤ maxLen) (hr : RSS w w.heap.size A n rs) (hn : n ≤ 1048576) (hrn : ∀ r ∈ rs, r.n ≤ 1048576) :
    Calls Try.prog 65 #[.agg #[.string s, .int .i64 a, .slice A n c]] w fun e w' => ∃ A' rs', e = .returned (.agg #[.string s, .int .i64 a, .slice A' n n]) ∧ OSS w' w.heap.size A' n n rs' ∧ dat rs' = dat rs ∧ Below w.heap.size w w' := by
  have HM := Lib.hid hrn
  have HR : Hid (∀ W, Below w.heap.size w W → RSS W W.heap.size A n rs) := fun W hb => (hr.below hb).more hb.size
  clear hrn
  go_enter Try.func65, Try.ntmps65
  go_wp2_with fail; ((with_reducible refine (toInt64SS_any A n c rs _ (HR.out _ (by (repeat (first | exact Below.refl _ _ | assumption | (refine Below.alloc ?_ (by first | exact Nat.le_refl _ | (simp; done) | (simp; omega)) _) | (refine below_drewN ?_ _) | (refine Below.trans ?_ (Below.mono (by assumption) (by first | exact Nat.le_refl _ | (simp; done) | (simp; omega) | omega))))))) hn HM.out).mono ?_); rintro e w1 ⟨rs1, rfl, o1, D1, hb1⟩)
  obtain ⟨hc1, hf1⟩ := bcell hb1
  have zz : w.heap.size + 3 ≤ w1.heap.size := by have h := hb1.size; simp at h; omega
  have z1 : w.heap.size + 1 < w1.heap.size := by omega
  have z2 : w.heap.size + 2 < w1.heap.size := by omega
  have o2 : OSS w1 (w.heap.size + 3) (some ⟨w.heap.size + 1 + 1 + 1, 0, none⟩) n n rs1 := by simpa using o1
  have B1 : Below w.heap.size w w1 := (show Below w.heap.size w _ by (repeat (first | exact Below.refl _ _ | assumption | (refine Below.alloc ?_ (by first | exact Nat.le_refl _ | (simp; done) | (simp; omega)) _) | (refine below_drewN ?_ _) | (refine Below.trans ?_ (Below.mono (by assumption) (by first | exact Nat.le_refl _ | (simp; done) | (simp; omega) | omega)))))).trans (hb1.mono (by simp; omega))
  have O2 := Lib.hid o2
  clear o1 o2
  go_wp2
  refine bodyPost_ret (v := .agg #[.string s, .int .i64 a, .slice (some ⟨w.heap.size + 1 + 1 + 1, 0, none⟩) n n]) (by simp [results, Try.results65, go_sem, hc1, z1, z2]) rfl ⟨_, rs1, rfl, ?_, D1, ?_⟩
  · refine OSS.base (lo := w.heap.size + 3) ?_ (by omega)
    repeat (refine OSS.setLow ?_ (by first | (simp; done) | (simp; omega)) _)
    exact O2.out
  · repeat (first | exact B1 | (refine Below.setCell ?_ (by first | (simp; done) | (simp; omega)) _))
set_option maxHeartbeats 800000 in
theorem eqFan_b (s : ByteArray) (a : Int) (A B : Option Addr) (n c d : Nat) (rs qs : List Row) (w : World) (hr : RSS w w.heap.size A n rs) (hq : RSS w w.heap.size B n qs) (hd : dat rs = dat qs) (hn : n ≤ 1099511627776) (hrn : ∀ r ∈ rs, r.n ≤ 1099511627776) :
    Calls Try.prog 70 #[.agg #[.string s, .int .i64 a, .slice A n c], .agg #[.string s, .int .i64 a, .slice B n d]] w fun e w' => e = .returned (.bool true) ∧ Below w.heap.size w w' := by
  have HM := Lib.hid hrn
  have HD := Lib.hid hd
  have HR : Hid (∀ W, Below w.heap.size w W → RSS W W.heap.size A n rs) := fun W hb => (hr.below hb).more hb.size
  have HQ : Hid (∀ W, Below w.heap.size w W → RSS W W.heap.size B n qs) := fun W hb => (hq.below hb).more hb.size
  clear hrn hd
  go_enter Try.func70, Try.ntmps70
  go_wp2_with fail; ((with_reducible refine (eqInt64SS_b A B n c d rs qs _ (HR.out _ (by (repeat (first | exact Below.refl _ _ | assumption | (refine Below.alloc ?_ (by first | exact Nat.le_refl _ | (simp; done) | (simp; omega)) _) | (refine below_drewN ?_ _) | (refine Below.trans ?_ (Below.mono (by assumption) (by first | exact Nat.le_refl _ | (simp; done) | (simp; omega) | omega))))))) (HQ.out _ (by (repeat (first | exact Below.refl _ _ | assumption | (refine Below.alloc ?_ (by first | exact Nat.le_refl _ | (simp; done) | (simp; omega)) _) | (refine below_drewN ?_ _) | (refine Below.trans ?_ (Below.mono (by assumption) (by first | exact Nat.le_refl _ | (simp; done) | (simp; omega) | omega))))))) HD.out hn HM.out).mono ?_); rintro e w1 ⟨rfl, hb1⟩)
  go_wp2
  go_ret
  exact ⟨rfl, (show Below w.heap.size w _ by (repeat (first | exact Below.refl _ _ | assumption | (refine Below.alloc ?_ (by first | exact Nat.le_refl _ | (simp; done) | (simp; omega)) _) | (refine below_drewN ?_ _) | (refine Below.trans ?_ (Below.mono (by assumption) (by first | exact Nat.le_refl _ | (simp; done) | (simp; omega) | omega)))))).trans (hb1.mono (by simp; omega))⟩
theorem szMine_any (J : Int) (A : Option Addr) (n c : Nat) (xs : List Awy) (l : Int) (w : World) (hr : Reads w w.heap.size 7 A n (Awy.recs xs)) (h1 : 0 ≤ l) (h2 : l ≤ 1048576) (hn : n ≤ maxLen) (hxs : ∀ x ∈ xs, x.s.size ≤ maxLen) :
    Calls Try.prog 10 #[.agg #[.int .i64 J, .slice A n c], .int .i64 l] w fun e w' => e = .returned (.int .i64 (szI l (n + sumN Awy.len xs))) ∧ Below w.heap.size w w' := by
  have HM := Lib.hid hxs
  have t0 := sumN_nonneg Awy.len xs
  have HR : Hid (∀ W, Below w.heap.size w W → Reads W W.heap.size 7 A n (Awy.recs xs)) := fun W hb => (hr.below hb).more hb.size
  clear hxs
  by_cases hl : l < n + sumN Awy.len xs
  · have H2 : Hid (szI l (n + sumN Awy.len xs) = -1) := szI_n hl
    go_enter Try.func10, Try.ntmps10
    go_wp2_with fail; ((with_reducible refine (szAwyS_any A n c xs _ _ (HR.out _ (by (repeat (first | exact Below.refl _ _ | assumption | (refine Below.alloc ?_ (by first | exact Nat.le_refl _ | (simp; done) | (simp; omega)) _) | (refine below_drewN ?_ _) | (refine Below.trans ?_ (Below.mono (by assumption) (by first | exact Nat.le_refl _ | (simp; done) | (simp; omega) | omega))))))) h1 h2 hn HM.out).mono ?_); rintro e w1 ⟨rfl, hb1⟩)
    rw [H2.out]
    go_wp2
    go_ret
    exact ⟨ret_int H2.out.symm, ((Below.refl _ _).alloc (Nat.le_refl _) _).trans (hb1.mono (by simp))⟩
  · have H2 : Hid (szI l (n + sumN Awy.len xs) = l - (n + sumN Awy.len xs)) := szI_y hl
    go_enter Try.func10, Try.ntmps10
    go_wp2_with fail; ((with_reducible refine (szAwyS_any A n c xs _ _ (HR.out _ (by (repeat (first | exact Below.refl _ _ | assumption | (refine Below.alloc ?_ (by first | exact Nat.le_refl _ | (simp; done) | (simp; omega)) _) | (refine below_drewN ?_ _) | (refine Below.trans ?_ (Below.mono (by assumption) (by first | exact Nat.le_refl _ | (simp; done) | (simp; omega) | omega))))))) h1 h2 hn HM.out).mono ?_); rintro e w1 ⟨rfl, hb1⟩)
    rw [H2.out]
    go_wp2
    go_ret
    exact ⟨ret_int H2.out.symm, ((Below.refl _ _).alloc (Nat.le_refl _) _).trans (hb1.mono (by simp))⟩
set_option maxHeartbeats 800000 in
theorem toMine_any (J : Int) (A : Option Addr) (n c : Nat) (xs : List Awy) (w : World) (hr : Reads w w.heap.size 7 A n (Awy.recs xs)) (hn : n ≤ 1048576) (hxs : ∀ x ∈ xs, x.s.size ≤ maxLen) :
    Calls Try.prog 12 #[.agg #[.int .i64 J, .slice A n c]] w fun e w' => ∃ A', e = .returned (.agg #[.int .i64 J, .slice A' n n]) ∧ w'.ownsRow w.heap.size 99 7 (.slice A' n n) n (Awy.recs xs) ∧ Below w.heap.size w w' := by
  have HM := Lib.hid hxs
  have HR : Hid (∀ W, Below w.heap.size w W → Reads W W.heap.size 7 A n (Awy.recs xs)) := fun W hb => (hr.below hb).more hb.size
  clear hxs
  go_enter Try.func12, Try.ntmps12
  go_wp2_with fail; ((with_reducible refine (toAwyS_any A n c xs _ (HR.out _ (by (repeat (first | exact Below.refl _ _ | assumption | (refine Below.alloc ?_ (by first | exact Nat.le_refl _ | (simp; done) | (simp; omega)) _) | (refine below_drewN ?_ _) | (refine Below.trans ?_ (Below.mono (by assumption) (by first | exact Nat.le_refl _ | (simp; done) | (simp; omega) | omega))))))) hn HM.out).mono ?_); rintro e w1 ⟨rfl, o1, hb1⟩)
  obtain ⟨hc1, hf1⟩ := bcell hb1
  have zz : w.heap.size + 3 ≤ w1.heap.size := by have h := hb1.size; simp at h; omega
  have z1 : w.heap.size + 1 < w1.heap.size := by omega
  have z2 : w.heap.size + 2 < w1.heap.size := by omega
  have o2 : w1.ownsRow (w.heap.size + 3) 99 7 (.slice (some ⟨w.heap.size + 1 + 1 + 1, 0, none⟩) n n) n (Awy.recs xs) := by simpa using o1
  have B1 : Below w.heap.size w w1 := (show Below w.heap.size w _ by (repeat (first | exact Below.refl _ _ | assumption | (refine Below.alloc ?_ (by first | exact Nat.le_refl _ | (simp; done) | (simp; omega)) _) | (refine below_drewN ?_ _) | (refine Below.trans ?_ (Below.mono (by assumption) (by first | exact Nat.le_refl _ | (simp; done) | (simp; omega) | omega)))))).trans (hb1.mono (by simp; omega))
  have O2 := Lib.hid o2
  clear o1 o2
  go_wp2
  refine bodyPost_ret (v := .agg #[.int .i64 J, .slice (some ⟨w.heap.size + 1 + 1 + 1, 0, none⟩) n n]) (by simp [results, Try.results12, go_sem, hc1, z1, z2]) rfl ⟨_, rfl, ?_, ?_⟩
  · refine own_base (base := w.heap.size + 3) ?_ (by omega)
    repeat (refine ownsRow_setCell_below ?_ (by first | (simp; done) | (simp; omega)) _)
    exact O2.out
  · repeat (first | exact B1 | (refine Below.setCell ?_ (by first | (simp; done) | (simp; omega)) _))
theorem eqMine_b (J : Int) (A B : Option Addr) (n c d : Nat) (xs : List Awy) (w : World) (hr : Reads w w.heap.size 7 A n (Awy.recs xs)) (hq : Reads w w.heap.size 7 B n (Awy.recs xs)) (hn : n ≤ 1099511627776) :
    Calls Try.prog 15 #[.agg #[.int .i64 J, .slice A n c], .agg #[.int .i64 J, .slice B n d]] w fun e w' => e = .returned (.bool true) ∧ Below w.heap.size w w' := by
  have HR : Hid (∀ W, Below w.heap.size w W → Reads W W.heap.size 7 A n (Awy.recs xs)) := fun W hb => (hr.below hb).more hb.size
  have HQ : Hid (∀ W, Below w.heap.size w W → Reads W W.heap.size 7 B n (Awy.recs xs)) := fun W hb => (hq.below hb).more hb.size
  go_enter Try.func15, Try.ntmps15
  go_wp2_with fail; ((with_reducible refine (eqAwyS_b A B n c d xs _ (HR.out _ (by (repeat (first | exact Below.refl _ _ | assumption | (refine Below.alloc ?_ (by first | exact Nat.le_refl _ | (simp; done) | (simp; omega)) _) | (refine below_drewN ?_ _) | (refine Below.trans ?_ (Below.mono (by assumption) (by first | exact Nat.le_refl _ | (simp; done) | (simp; omega) | omega))))))) (HQ.out _ (by (repeat (first | exact Below.refl _ _ | assumption | (refine Below.alloc ?_ (by first | exact Nat.le_refl _ | (simp; done) | (simp; omega)) _) | (refine below_drewN ?_ _) | (refine Below.trans ?_ (Below.mono (by assumption) (by first | exact Nat.le_refl _ | (simp; done) | (simp; omega) | omega))))))) hn).mono ?_); rintro e w1 ⟨rfl, hb1⟩)
  go_wp2
  go_ret
  exact ⟨rfl, (show Below w.heap.size w _ by (repeat (first | exact Below.refl _ _ | assumption | (refine Below.alloc ?_ (by first | exact Nat.le_refl _ | (simp; done) | (simp; omega)) _) | (refine below_drewN ?_ _) | (refine Below.trans ?_ (Below.mono (by assumption) (by first | exact Nat.le_refl _ | (simp; done) | (simp; omega) | omega)))))).trans (hb1.mono (by simp; omega))⟩
theorem markMine_any (J : Int) (A : Option Addr) (n c : Nat) (xs : List Value) (k : Int) (base : Nat) (w : World) (hown : w.ownsRow base 99 7 (.slice A n c) n xs) (hn : n ≤ 1048576) (hk0 : 0 ≤ k) (hk1 : k ≤ 1073741824) :
    Calls Try.prog 19 #[.agg #[.int .i64 J, .slice A n c], .int .i64 k] w fun e w' => e = .returned (.int .i64 (k + 7 * n)) ∧ w.grownBy w' (Value.ownBlock (.slice A n c)) := by
  have HO : Hid (∀ W, Below w.heap.size w W → W.ownsRow base 99 7 (.slice A n c) n xs) := fun W hb => own_below hown hb
  clear hown
  go_enter Try.func19, Try.ntmps19
  go_wp2_with fail; ((with_reducible refine (markAwyS_any A n c xs k base _ (HO.out _ (by (repeat (first | exact Below.refl _ _ | assumption | (refine Below.alloc ?_ (by first | exact Nat.le_refl _ | (simp; done) | (simp; omega)) _) | (refine below_drewN ?_ _) | (refine Below.trans ?_ (Below.mono (by assumption) (by first | exact Nat.le_refl _ | (simp; done) | (simp; omega) | omega))))))) hn hk0 hk1).mono ?_); rintro e w1 ⟨rfl, hb1⟩)
  go_wp2
  go_ret
  exact ⟨rfl, (only_of_below ((Below.refl _ _).alloc (Nat.le_refl _) _) _).trans hb1⟩
end Go.Proofs.Ytjmhhbjbmgpagaa
