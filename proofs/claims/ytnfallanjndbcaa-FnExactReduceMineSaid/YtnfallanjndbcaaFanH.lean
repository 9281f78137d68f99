/- The laws' own helpers on fans and mines: size, copy, compare, mark. -/
import Derived.Test.YtnfallanjndbcaaOwn
import Derived.Test.YtnfallanjndbcaaRAwy
namespace Go.Proofs.Ytnfallanjndbcaa
set_option linter.unusedVariables false
set_option linter.unusedSimpArgs false
open Go.RowKit
theorem OSS.setLow {w : World} {lo n c : Nat} {A : Option Addr} {rs : List Row} (h : OSS w lo A n c rs) {p : Addr} (hp : p.block < lo) (u : Value) : OSS (w.setCell p u) lo A n c rs :=
  ⟨ownsRow_setCell_below h.out hp u, fun r hr => ownsRow_setCell_below (h.row r hr) hp u, h.apart⟩
theorem szMine_any (J : Int) (A : Option Addr) (n c : Nat) (xs : List Awy) (l : Int) (w : World) (hr : Reads w w.heap.size 7 A n (Awy.recs xs)) (h1 : 0 ≤ l) (h2 : l ≤ 1048576) (hn : n ≤ maxLen) (hxs : ∀ x ∈ xs, x.s.size ≤ maxLen) :
    Calls Try.prog 4 #[.agg #[.int .i64 J, .slice A n c], .int .i64 l] w fun e w' => e = .returned (.int .i64 (szI l (n + sumN Awy.len xs))) ∧ Below w.heap.size w w' := by
  have HM := Lib.hid hxs
  have t0 := sumN_nonneg Awy.len xs
  have HR : Hid (∀ W, Below w.heap.size w W → Reads W W.heap.size 7 A n (Awy.recs xs)) := fun W hb => (hr.below hb).more hb.size
  clear hxs
  by_cases hl : l < n + sumN Awy.len xs
  · have H2 : Hid (szI l (n + sumN Awy.len xs) = -1) := szI_n hl
    go_enter Try.func4, Try.ntmps4
    go_wp2_with fail; ((with_reducible refine (szAwyS_any A n c xs _ _ (HR.out _ (by (repeat (first | exact Below.refl _ _ | assumption | (refine Below.alloc ?_ (by first | exact Nat.le_refl _ | (simp; done) | (simp; omega)) _) | (refine below_drewN ?_ _) | (refine Below.trans ?_ (Below.mono (by assumption) (by first | exact Nat.le_refl _ | (simp; done) | (simp; omega) | omega))))))) h1 h2 hn HM.out).mono ?_); rintro e w1 ⟨rfl, hb1⟩)
    rw [H2.out]
    go_wp2
    go_ret
    exact ⟨ret_int H2.out.symm, ((Below.refl _ _).alloc (Nat.le_refl _) _).trans (hb1.mono (by simp))⟩
  · have H2 : Hid (szI l (n + sumN Awy.len xs) = l - (n + sumN Awy.len xs)) := szI_y hl
    go_enter Try.func4, Try.ntmps4
    go_wp2_with fail; ((with_reducible refine (szAwyS_any A n c xs _ _ (HR.out _ (by (repeat (first | exact Below.refl _ _ | assumption | (refine Below.alloc ?_ (by first | exact Nat.le_refl _ | (simp; done) | (simp; omega)) _) | (refine below_drewN ?_ _) | (refine Below.trans ?_ (Below.mono (by assumption) (by first | exact Nat.le_refl _ | (simp; done) | (simp; omega) | omega))))))) h1 h2 hn HM.out).mono ?_); rintro e w1 ⟨rfl, hb1⟩)
    rw [H2.out]
    go_wp2
    go_ret
    exact ⟨ret_int H2.out.symm, ((Below.refl _ _).alloc (Nat.le_refl _) _).trans (hb1.mono (by simp))⟩
set_option maxHeartbeats 800000 in
theorem toMine_any (J : Int) (A : Option Addr) (n c : Nat) (xs : List Awy) (w : World) (hr : Reads w w.heap.size 7 A n (Awy.recs xs)) (hn : n ≤ 1048576) (hxs : ∀ x ∈ xs, x.s.size ≤ maxLen) :
    Calls Try.prog 6 #[.agg #[.int .i64 J, .slice A n c]] w fun e w' => ∃ A', e = .returned (.agg #[.int .i64 J, .slice A' n n]) ∧ w'.ownsRow w.heap.size 44 7 (.slice A' n n) n (Awy.recs xs) ∧ Below w.heap.size w w' := by
  have HM := Lib.hid hxs
  have HR : Hid (∀ W, Below w.heap.size w W → Reads W W.heap.size 7 A n (Awy.recs xs)) := fun W hb => (hr.below hb).more hb.size
  clear hxs
  go_enter Try.func6, Try.ntmps6
  go_wp2_with fail; ((with_reducible refine (toAwyS_any A n c xs _ (HR.out _ (by (repeat (first | exact Below.refl _ _ | assumption | (refine Below.alloc ?_ (by first | exact Nat.le_refl _ | (simp; done) | (simp; omega)) _) | (refine below_drewN ?_ _) | (refine Below.trans ?_ (Below.mono (by assumption) (by first | exact Nat.le_refl _ | (simp; done) | (simp; omega) | omega))))))) hn HM.out).mono ?_); rintro e w1 ⟨rfl, o1, hb1⟩)
  obtain ⟨hc1, hf1⟩ := bcell hb1
  have zz : w.heap.size + 3 ≤ w1.heap.size := by have h := hb1.size; simp at h; omega
  have z1 : w.heap.size + 1 < w1.heap.size := by omega
  have z2 : w.heap.size + 2 < w1.heap.size := by omega
  have o2 : w1.ownsRow (w.heap.size + 3) 44 7 (.slice (some ⟨w.heap.size + 1 + 1 + 1, 0, none⟩) n n) n (Awy.recs xs) := by simpa using o1
  have B1 : Below w.heap.size w w1 := (show Below w.heap.size w _ by (repeat (first | exact Below.refl _ _ | assumption | (refine Below.alloc ?_ (by first | exact Nat.le_refl _ | (simp; done) | (simp; omega)) _) | (refine below_drewN ?_ _) | (refine Below.trans ?_ (Below.mono (by assumption) (by first | exact Nat.le_refl _ | (simp; done) | (simp; omega) | omega)))))).trans (hb1.mono (by simp; omega))
  have O2 := Lib.hid o2
  clear o1 o2
  go_wp2
  refine bodyPost_ret (v := .agg #[.int .i64 J, .slice (some ⟨w.heap.size + 1 + 1 + 1, 0, none⟩) n n]) (by simp [results, Try.results6, go_sem, hc1, z1, z2]) rfl ⟨_, rfl, ?_, ?_⟩
  · refine own_base (base := w.heap.size + 3) ?_ (by omega)
    repeat (refine ownsRow_setCell_below ?_ (by first | (simp; done) | (simp; omega)) _)
    exact O2.out
  · repeat (first | exact B1 | (refine Below.setCell ?_ (by first | (simp; done) | (simp; omega)) _))
theorem eqMine_b (J : Int) (A B : Option Addr) (n c d : Nat) (xs : List Awy) (w : World) (hr : Reads w w.heap.size 7 A n (Awy.recs xs)) (hq : Reads w w.heap.size 7 B n (Awy.recs xs)) (hn : n ≤ 1099511627776) :
    Calls Try.prog 9 #[.agg #[.int .i64 J, .slice A n c], .agg #[.int .i64 J, .slice B n d]] w fun e w' => e = .returned (.bool true) ∧ Below w.heap.size w w' := by
  have HR : Hid (∀ W, Below w.heap.size w W → Reads W W.heap.size 7 A n (Awy.recs xs)) := fun W hb => (hr.below hb).more hb.size
  have HQ : Hid (∀ W, Below w.heap.size w W → Reads W W.heap.size 7 B n (Awy.recs xs)) := fun W hb => (hq.below hb).more hb.size
  go_enter Try.func9, Try.ntmps9
  go_wp2_with fail; ((with_reducible refine (eqAwyS_b A B n c d xs _ (HR.out _ (by (repeat (first | exact Below.refl _ _ | assumption | (refine Below.alloc ?_ (by first | exact Nat.le_refl _ | (simp; done) | (simp; omega)) _) | (refine below_drewN ?_ _) | (refine Below.trans ?_ (Below.mono (by assumption) (by first | exact Nat.le_refl _ | (simp; done) | (simp; omega) | omega))))))) (HQ.out _ (by (repeat (first | exact Below.refl _ _ | assumption | (refine Below.alloc ?_ (by first | exact Nat.le_refl _ | (simp; done) | (simp; omega)) _) | (refine below_drewN ?_ _) | (refine Below.trans ?_ (Below.mono (by assumption) (by first | exact Nat.le_refl _ | (simp; done) | (simp; omega) | omega))))))) hn).mono ?_); rintro e w1 ⟨rfl, hb1⟩)
  go_wp2
  go_ret
  exact ⟨rfl, (show Below w.heap.size w _ by (repeat (first | exact Below.refl _ _ | assumption | (refine Below.alloc ?_ (by first | exact Nat.le_refl _ | (simp; done) | (simp; omega)) _) | (refine below_drewN ?_ _) | (refine Below.trans ?_ (Below.mono (by assumption) (by first | exact Nat.le_refl _ | (simp; done) | (simp; omega) | omega)))))).trans (hb1.mono (by simp; omega))⟩
end Go.Proofs.Ytnfallanjndbcaa
