/- Contracts of the program's check of a fan made of two. -/
import Derived.Test.YtapophggndlhaaaSpf
import Derived.Test.YtapophggndlhaaaFanS
namespace Go.Proofs.Ytapophggndlhaaa
set_option linter.unusedVariables false
set_option linter.unusedSimpArgs false
open Go.RowKit
theorem two_new (w : World) (s : ByteArray) (a : Int) (A : Option Addr) (k c : Nat) :
    Blk ((w.alloc (.cells #[.string s, .int .i64 a, .slice A k c] 26)).alloc (.cells #[.string { data := #[] }, .int .i64 0, .slice none 0 0] 26)) w.heap.size 26 #[.string s, .int .i64 a, .slice A k c] ∧
    Blk ((w.alloc (.cells #[.string s, .int .i64 a, .slice A k c] 26)).alloc (.cells #[.string { data := #[] }, .int .i64 0, .slice none 0 0] 26)) (w.heap.size + 1) 26 #[.string { data := #[] }, .int .i64 0, .slice none 0 0] ∧
    Below w.heap.size w ((w.alloc (.cells #[.string s, .int .i64 a, .slice A k c] 26)).alloc (.cells #[.string { data := #[] }, .int .i64 0, .slice none 0 0] 26)) := by
  refine ⟨(Blk.new w _ _).alloc _, ?_, ((Below.refl _ _).alloc (Nat.le_refl _) _).alloc (by simp) _⟩
  have h := Blk.new (w.alloc (.cells #[.string s, .int .i64 a, .slice A k c] 26)) 26 #[.string { data := #[] }, .int .i64 0, .slice none 0 0]
  rwa [show (w.alloc (.cells #[.string s, .int .i64 a, .slice A k c] 26)).heap.size = w.heap.size + 1 by simp] at h
theorem checked_full (s : ByteArray) (a : Int) (A : Option Addr) (k c : Nat) (w : World) (h8 : 8 < k) :
    Calls Try.prog 62 #[.agg #[.string s, .int .i64 a, .slice A k c]] w fun e w' => e = .returned (.tuple #[.agg #[.string ByteArray.empty, .int .i64 0, .slice none 0 0], .int .i64 5]) ∧ Below w.heap.size w w' := by
  obtain ⟨K0, K1, hb0⟩ := two_new w s a A k c
  have hI : (8 : Int) < (k : Int) := by omega
  have HB := Lib.hid hb0
  have e0 := K1.cell 0
  have e1 := K1.cell 1
  have e2 := K1.cell 2
  clear K0 hb0
  go_enter Try.func62, Try.ntmps62
  go_wp2
  refine bodyPost_ret (v := .tuple #[.agg #[.string ByteArray.empty, .int .i64 0, .slice none 0 0], .int .i64 5]) (by simp [results, Try.results62, go_sem] <;> rfl) rfl ⟨rfl, ?_⟩
  repeat (first | exact HB.out | exact Below.refl _ _ | (refine Below.setCell ?_ (by first | (simp; done) | (simp; omega)) _) | (refine Below.alloc ?_ (by first | exact Nat.le_refl _ | (simp; done) | (simp; omega)) _))
theorem checked_ok (s : ByteArray) (a : Int) (A : Option Addr) (k c : Nat) (rs : List Row) (w : World) (hs : s.size ≤ maxLen) (hr : RSS w w.heap.size A k rs) (hrn : ∀ r ∈ rs, r.n ≤ 1048576) (h8 : k ≤ 8) (hok : fanOk s a (dat rs) = true) :
    Calls Try.prog 62 #[.agg #[.string s, .int .i64 a, .slice A k c]] w fun e w' => e = .returned (.tuple #[.agg #[.string s, .int .i64 a, .slice A k c], .int .i64 0]) ∧ Below w.heap.size w w' := by
  obtain ⟨K0, K1, hb0⟩ := two_new w s a A k c
  have hI : (k : Int) ≤ 8 := by omega
  have cc := implValidFan_any s a A k c rs _ hs ((hr.below hb0).more hb0.size) (by omega) hrn
  rw [hok] at cc
  have HC := Lib.hid cc
  have HB := Lib.hid hb0
  have HK0 := Lib.hid K0
  have HK1 := Lib.hid K1
  clear K0 K1 hb0 cc hrn hok
  go_enter Try.func62, Try.ntmps62
  go_wp2_with fail; ((with_reducible refine HC.out.mono ?_); rintro e w1 ⟨rfl, hb1⟩)
  have P0 := HK0.out.below hb1 (by simp; omega)
  have P1 := HK1.out.below hb1 (by simp)
  have B1 := HB.out.trans (hb1.mono HB.out.size)
  have y0 := P0.cell 0
  have y1 := P0.cell 1
  have y2 := P0.cell 2
  have e0 := P1.cell 0
  have e1 := P1.cell 1
  have e2 := P1.cell 2
  have r0 := P1.frozen 0
  have r1 := P1.frozen 1
  have r2 := P1.frozen 2
  clear HK0 HK1 HC P0 P1
  go_wp2
  refine bodyPost_ret (v := .tuple #[.agg #[.string s, .int .i64 a, .slice A k c], .int .i64 0]) (by simp [results, Try.results62, go_sem, e0, e1, e2] <;> rfl) rfl ⟨rfl, ?_⟩
  repeat (first | exact B1 | (refine Below.setCell ?_ (by first | (simp; done) | (simp; omega)) _))
theorem checked_bad (s : ByteArray) (a : Int) (A : Option Addr) (k c : Nat) (rs : List Row) (w : World) (hs : s.size ≤ maxLen) (hr : RSS w w.heap.size A k rs) (hrn : ∀ r ∈ rs, r.n ≤ 1048576) (h8 : k ≤ 8) (hok : fanOk s a (dat rs) = false) :
    Calls Try.prog 62 #[.agg #[.string s, .int .i64 a, .slice A k c]] w fun e w' => e = .returned (.tuple #[.agg #[.string ByteArray.empty, .int .i64 0, .slice none 0 0], .int .i64 6]) ∧ Below w.heap.size w w' := by
  obtain ⟨K0, K1, hb0⟩ := two_new w s a A k c
  have hI : (k : Int) ≤ 8 := by omega
  have cc := implValidFan_any s a A k c rs _ hs ((hr.below hb0).more hb0.size) (by omega) hrn
  rw [hok] at cc
  have HC := Lib.hid cc
  have HB := Lib.hid hb0
  have HK1 := Lib.hid K1
  clear K0 K1 hb0 cc hrn hok
  go_enter Try.func62, Try.ntmps62
  go_wp2_with fail; ((with_reducible refine HC.out.mono ?_); rintro e w1 ⟨rfl, hb1⟩)
  have P1 := HK1.out.below hb1 (by simp)
  have B1 := HB.out.trans (hb1.mono HB.out.size)
  have e0 := P1.cell 0
  have e1 := P1.cell 1
  have e2 := P1.cell 2
  have r0 := P1.frozen 0
  have r1 := P1.frozen 1
  have r2 := P1.frozen 2
  clear HK1 HC P1
  go_wp2
  refine bodyPost_ret (v := .tuple #[.agg #[.string ByteArray.empty, .int .i64 0, .slice none 0 0], .int .i64 6]) (by simp [results, Try.results62, go_sem, e0, e1, e2] <;> rfl) rfl ⟨rfl, ?_⟩
  repeat (first | exact B1 | (refine Below.setCell ?_ (by first | (simp; done) | (simp; omega)) _))
end Go.Proofs.Ytapophggndlhaaa
