/- The laws' own helpers on fans and mines: size, copy, compare, mark. -/
import Derived.Test.YtapophggndlhaaaOwn
import Derived.Test.YtapophggndlhaaaRAwy
namespace Go.Proofs.Ytapophggndlhaaa
set_option linter.unusedVariables false
set_option linter.unusedSimpArgs false
open Go.RowKit
theorem szFan_any (s : ByteArray) (a : Int) (A : Option Addr) (n c : Nat) (rs : List Row) (l : Int) (w : World) (hs : s.size ≤ maxLen) (hr : RSS w w.heap.size A n rs) (h1 : 0 ≤ l) (h2 : l ≤ 1048576) (hn : n ≤ maxLen) (hrn : ∀ r ∈ rs, r.n ≤ maxLen) :
    Calls Try.prog 11 #[.agg #[.string s, .int .i64 a, .slice A n c], .int .i64 l] w fun e w' => e = .returned (.int .i64 (szI l (s.size + (n + tot rs)))) ∧ Below w.heap.size w w' := by
  have HM := Lib.hid hrn
  have t0 := tot_nonneg rs
  have HR : Hid (∀ W, Below w.heap.size w W → RSS W W.heap.size A n rs) := fun W hb => (hr.below hb).more hb.size
  have hn0 : n ≤ maxLen := hn
  have hs' := hs
  unfold maxLen at hs
  clear hrn
  by_cases hl : l < s.size
  · have HS := Lib.hid (szI_n (l := l) (s := s.size + (n + tot rs)) (by omega))
    go_enter Try.func11, Try.ntmps11
    go_wp2
    go_ret
    exact ⟨ret_int HS.out.symm, by (repeat (first | exact Below.refl _ _ | assumption | (refine Below.alloc ?_ (by first | exact Nat.le_refl _ | (simp; done) | (simp; omega)) _) | (refine below_drewN ?_ _) | (refine Below.trans ?_ (Below.mono (by assumption) (by first | exact Nat.le_refl _ | (simp; done) | (simp; omega) | omega)))))⟩
  · by_cases hl2 : l - s.size < n + tot rs
    · have HS := Lib.hid (szI_n (l := l) (s := s.size + (n + tot rs)) (by omega))
      have H2 : Hid (szI (l - s.size) (n + tot rs) = -1) := szI_n hl2
      go_enter Try.func11, Try.ntmps11
      go_wp2_with fail; ((with_reducible refine (szRows_any A n c rs _ _ (HR.out _ (by (repeat (first | exact Below.refl _ _ | assumption | (refine Below.alloc ?_ (by first | exact Nat.le_refl _ | (simp; done) | (simp; omega)) _) | (refine below_drewN ?_ _) | (refine Below.trans ?_ (Below.mono (by assumption) (by first | exact Nat.le_refl _ | (simp; done) | (simp; omega) | omega))))))) (by omega) (by omega) hn0 HM.out).mono ?_); rintro e w1 ⟨rfl, hb1⟩)
      rw [H2.out]
      go_wp2
      go_ret
      exact ⟨ret_int HS.out.symm, ((Below.refl _ _).alloc (Nat.le_refl _) _).trans (hb1.mono (by simp))⟩
    · have HS := Lib.hid (szI_y (l := l) (s := s.size + (n + tot rs)) (by omega))
      have H2 : Hid (szI (l - s.size) (n + tot rs) = l - s.size - (n + tot rs)) := szI_y hl2
      go_enter Try.func11, Try.ntmps11
      go_wp2_with fail; ((with_reducible refine (szRows_any A n c rs _ _ (HR.out _ (by (repeat (first | exact Below.refl _ _ | assumption | (refine Below.alloc ?_ (by first | exact Nat.le_refl _ | (simp; done) | (simp; omega)) _) | (refine below_drewN ?_ _) | (refine Below.trans ?_ (Below.mono (by assumption) (by first | exact Nat.le_refl _ | (simp; done) | (simp; omega) | omega))))))) (by omega) (by omega) hn0 HM.out).mono ?_); rintro e w1 ⟨rfl, hb1⟩)
      rw [H2.out]
      go_wp2
      go_ret
      exact ⟨ret_int (by rw [HS.out]; omega), ((Below.refl _ _).alloc (Nat.le_refl _) _).trans (hb1.mono (by simp))⟩
theorem OSS.setLow {w : World} {lo n c : Nat} {A : Option Addr} {rs : List Row} (h : OSS w lo A n c rs) {p : Addr} (hp : p.block < lo) (u : Value) : OSS (w.setCell p u) lo A n c rs :=
  ⟨ownsRow_setCell_below h.out hp u, fun r hr => ownsRow_setCell_below (h.row r hr) hp u, h.apart⟩
set_option maxHeartbeats 800000 in
theorem toFan_any (s : ByteArray) (a : Int) (A : Option Addr) (n c : Nat) (rs : List Row) (w : World) (hs : s.size ≤ maxLen) (hr : RSS w w.heap.size A n rs) (hn : n ≤ 1048576) (hrn : ∀ r ∈ rs, r.n ≤ 1048576) :
    Calls Try.prog 13 #[.agg #[.string s, .int .i64 a, .slice A n c]] w fun e w' => ∃ A' rs', e = .returned (.agg #[.string s, .int .i64 a, .slice A' n n]) ∧ OSS w' w.heap.size A' n n rs' ∧ dat rs' = dat rs ∧ Below w.heap.size w w' := by
  have HM := Lib.hid hrn
  have HR : Hid (∀ W, Below w.heap.size w W → RSS W W.heap.size A n rs) := fun W hb => (hr.below hb).more hb.size
  clear hrn
  go_enter Try.func13, Try.ntmps13
  go_wp2_with fail; ((with_reducible refine (toInt64SS_any A n c rs _ (HR.out _ (by (repeat (first | exact Below.refl _ _ | assumption | (refine Below.alloc ?_ (by first | exact Nat.le_refl _ | (simp; done) | (simp; omega)) _) | (refine below_drewN ?_ _) | (refine Below.trans ?_ (Below.mono (by assumption) (by first | exact Nat.le_refl _ | (simp; done) | (simp; omega) | omega))))))) hn HM.out).mono ?_); rintro e w1 ⟨rs1, rfl, o1, D1, hb1⟩)
  obtain ⟨hc1, hf1⟩ := bcell hb1
  have zz : w.heap.size + 3 ≤ w1.heap.size := by have h := hb1.size; simp at h; omega
  have z1 : w.heap.size + 1 < w1.heap.size := by omega
  have z2 : w.heap.size + 2 < w1.heap.size := by omega
  have o2 : OSS w1 (w.heap.size + 3) (some ⟨w.heap.size + 1 + 1 + 1, 0, none⟩) n n rs1 := by simpa using o1
  have B1 : Below w.heap.size w w1 := (show Below w.heap.size w _ by (repeat (first | exact Below.refl _ _ | assumption | (refine Below.alloc ?_ (by first | exact Nat.le_refl _ | (simp; done) | (simp; omega)) _) | (refine below_drewN ?_ _) | (refine Below.trans ?_ (Below.mono (by assumption) (by first | exact Nat.le_refl _ | (simp; done) | (simp; omega) | omega)))))).trans (hb1.mono (by simp; omega))
  have O2 := Lib.hid o2
  clear o1 o2
  go_wp2
  refine bodyPost_ret (v := .agg #[.string s, .int .i64 a, .slice (some ⟨w.heap.size + 1 + 1 + 1, 0, none⟩) n n]) (by simp [results, Try.results13, go_sem, hc1, z1, z2]) rfl ⟨_, rs1, rfl, ?_, D1, ?_⟩
  · refine OSS.base (lo := w.heap.size + 3) ?_ (by omega)
    repeat (refine OSS.setLow ?_ (by first | (simp; done) | (simp; omega)) _)
    exact O2.out
  · repeat (first | exact B1 | (refine Below.setCell ?_ (by first | (simp; done) | (simp; omega)) _))
set_option maxHeartbeats 800000 in
theorem eqFan_b (s : ByteArray) (a : Int) (A B : Option Addr) (n c d : Nat) (rs qs : List Row) (w : World) (hr : RSS w w.heap.size A n rs) (hq : RSS w w.heap.size B n qs) (hd : dat rs = dat qs) (hn : n ≤ 1099511627776) (hrn : ∀ r ∈ rs, r.n ≤ 1099511627776) :
    Calls Try.prog 15 #[.agg #[.string s, .int .i64 a, .slice A n c], .agg #[.string s, .int .i64 a, .slice B n d]] w fun e w' => e = .returned (.bool true) ∧ Below w.heap.size w w' := by
  have HM := Lib.hid hrn
  have HD := Lib.hid hd
  have HR : Hid (∀ W, Below w.heap.size w W → RSS W W.heap.size A n rs) := fun W hb => (hr.below hb).more hb.size
  have HQ : Hid (∀ W, Below w.heap.size w W → RSS W W.heap.size B n qs) := fun W hb => (hq.below hb).more hb.size
  clear hrn hd
  go_enter Try.func15, Try.ntmps15
  go_wp2_with fail; ((with_reducible refine (eqInt64SS_b A B n c d rs qs _ (HR.out _ (by (repeat (first | exact Below.refl _ _ | assumption | (refine Below.alloc ?_ (by first | exact Nat.le_refl _ | (simp; done) | (simp; omega)) _) | (refine below_drewN ?_ _) | (refine Below.trans ?_ (Below.mono (by assumption) (by first | exact Nat.le_refl _ | (simp; done) | (simp; omega) | omega))))))) (HQ.out _ (by (repeat (first | exact Below.refl _ _ | assumption | (refine Below.alloc ?_ (by first | exact Nat.le_refl _ | (simp; done) | (simp; omega)) _) | (refine below_drewN ?_ _) | (refine Below.trans ?_ (Below.mono (by assumption) (by first | exact Nat.le_refl _ | (simp; done) | (simp; omega) | omega))))))) HD.out hn HM.out).mono ?_); rintro e w1 ⟨rfl, hb1⟩)
  go_wp2
  go_ret
  exact ⟨rfl, (show Below w.heap.size w _ by (repeat (first | exact Below.refl _ _ | assumption | (refine Below.alloc ?_ (by first | exact Nat.le_refl _ | (simp; done) | (simp; omega)) _) | (refine below_drewN ?_ _) | (refine Below.trans ?_ (Below.mono (by assumption) (by first | exact Nat.le_refl _ | (simp; done) | (simp; omega) | omega)))))).trans (hb1.mono (by simp; omega))⟩
end Go.Proofs.Ytapophggndlhaaa
