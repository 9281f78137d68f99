/- The law FnExactOpenDoors: for all arguments the program's OpenDoors and the reference's return the same, and the result shares no memory with an argument or with the result of another call; no condition. -/
import Derived.Test.YtgbmpadlfcbcaaaFrame
import Derived.Test.YtgbmpadlfcbcaaaOwn
import Derived.Test.YtgbmpadlfcbcaaaFrR
import Derived.Test.YtgbmpadlfcbcaaaOpn
namespace Go.Proofs.Ytgbmpadlfcbcaaa.lOpenDoors
set_option linter.unusedVariables false
set_option linter.unusedSimpArgs false
open Go.ChangeShapes Go.WideShapes Go.ChangeAt Go.RowKit
set_option maxHeartbeats 4000000 in
theorem walk (J0 : Int) (A0 : Option Addr) (n0 c0 : Nat) (xs0 : List Awy) (lc0 : n0 ≤ c0) (gc0 : c0 ≤ maxLen) (A1 : Option Addr) (n1 c1 : Nat) (xs1 : List Dor) (lc1 : n1 ≤ c1) (gc1 : c1 ≤ maxLen) (A2 : Option Addr) (n2 c2 : Nat) (xs2 : List Bool) (lc2 : n2 ≤ c2) (gc2 : c2 ≤ maxLen) (w : World) (hr0 : Reads w w.heap.size 7 A0 n0 (Awy.recs xs0)) (hm0 : ∀ x ∈ xs0, x.s.size ≤ maxLen) (hr1 : Reads w w.heap.size 4 A1 n1 (Dor.recs xs1)) (hm1 : ∀ x ∈ xs1, x.s.size ≤ maxLen) (hr2 : Reads w w.heap.size 1 A2 n2 (bools xs2)) :
    Calls Try.prog 13 #[.agg #[.int .i64 J0, .slice A0 n0 c0], .slice A1 n1 c1, .slice A2 n2 c2] w fun e w' => e = .returned (.bool true) ∧ Below w.heap.size w w' := by
  have HM0 := Lib.hid hm0
  clear hm0
  have HM1 := Lib.hid hm1
  clear hm1
  by_cases big2 : 1048576 < n2
  · go_enter Try.func13, Try.ntmps13
    go_wp2
    go_ret
    exact ⟨rfl, by (repeat (first | exact Below.refl _ _ | assumption | (refine Below.alloc ?_ (by first | exact Nat.le_refl _ | (simp; done) | (simp; omega)) _) | (refine below_drewN ?_ _) | (refine Below.trans ?_ (Below.mono (by assumption) (by first | exact Nat.le_refl _ | (simp; done) | (simp; omega) | omega)))))⟩
  have hn2 : n2 ≤ 1048576 := by omega
  have t0 := sumN_nonneg Awy.len xs0
  by_cases hN0 : 1048576 < ((n0 : Int) + sumN Awy.len xs0)
  ·  -- too large
    have HN0 := Lib.hid hN0
    have z1 : w.heap.size + 1 ≤ (w.alloc (.cells #[.int .i64 J0, .slice A0 n0 c0] 24)).heap.size := by simp
    have B1 : Below w.heap.size w (w.alloc (.cells #[.int .i64 J0, .slice A0 n0 c0] 24)) := (Below.refl _ _).alloc (Nat.le_refl _) _
    have cP0_0_1 : (w.alloc (.cells #[.int .i64 J0, .slice A0 n0 c0] 24)).cell? ⟨w.heap.size, 0, none⟩ = some (.int .i64 J0) := ((Blk.new w 24 #[.int .i64 J0, .slice A0 n0 c0]).cell 0).trans rfl
    have cP0_1_1 : (w.alloc (.cells #[.int .i64 J0, .slice A0 n0 c0] 24)).cell? ⟨w.heap.size, 1, none⟩ = some (.slice A0 n0 c0) := ((Blk.new w 24 #[.int .i64 J0, .slice A0 n0 c0]).cell 1).trans rfl
    go_enter Try.func13, Try.ntmps13
    have sc0 := szMine_any J0 A0 n0 c0 xs0 (1048576) (w.alloc (.cells #[.int .i64 J0, .slice A0 n0 c0] 24)) ((hr0.below B1).more B1.size) (by omega) (by omega) (by omega) HM0.out
    rw [szI_n (l := 1048576) (s := ((n0 : Int) + sumN Awy.len xs0)) (by omega)] at sc0
    go_wp2_with fail; ((with_reducible refine sc0.mono ?_); rintro e w2 ⟨rfl, hb2⟩)
    clear sc0
    have z2 : (w.alloc (.cells #[.int .i64 J0, .slice A0 n0 c0] 24)).heap.size ≤ w2.heap.size := hb2.size
    have B2 : Below w.heap.size w w2 := B1.trans (hb2.mono B1.size)
    have cP0_0_2 : w2.cell? ⟨w.heap.size, 0, none⟩ = some (.int .i64 J0) := (hb2.cell (block_lt_of_cell cP0_0_1)).trans cP0_0_1
    have cP0_1_2 : w2.cell? ⟨w.heap.size, 1, none⟩ = some (.slice A0 n0 c0) := (hb2.cell (block_lt_of_cell cP0_1_1)).trans cP0_1_1
    clear cP0_0_1 cP0_1_1
    go_wp2
    go_ret
    exact ⟨rfl, B2⟩
  have HY0 := Lib.hid hN0
  have t1 := sumN_nonneg Dor.len xs1
  by_cases hN1 : 1048576 - ((n0 : Int) + sumN Awy.len xs0) < ((n1 : Int) + sumN Dor.len xs1)
  ·  -- too large
    have HN1 := Lib.hid hN1
    have z1 : w.heap.size + 1 ≤ (w.alloc (.cells #[.int .i64 J0, .slice A0 n0 c0] 24)).heap.size := by simp
    have B1 : Below w.heap.size w (w.alloc (.cells #[.int .i64 J0, .slice A0 n0 c0] 24)) := (Below.refl _ _).alloc (Nat.le_refl _) _
    have cP0_0_1 : (w.alloc (.cells #[.int .i64 J0, .slice A0 n0 c0] 24)).cell? ⟨w.heap.size, 0, none⟩ = some (.int .i64 J0) := ((Blk.new w 24 #[.int .i64 J0, .slice A0 n0 c0]).cell 0).trans rfl
    have cP0_1_1 : (w.alloc (.cells #[.int .i64 J0, .slice A0 n0 c0] 24)).cell? ⟨w.heap.size, 1, none⟩ = some (.slice A0 n0 c0) := ((Blk.new w 24 #[.int .i64 J0, .slice A0 n0 c0]).cell 1).trans rfl
    go_enter Try.func13, Try.ntmps13
    have sc0 := szMine_any J0 A0 n0 c0 xs0 (1048576) (w.alloc (.cells #[.int .i64 J0, .slice A0 n0 c0] 24)) ((hr0.below B1).more B1.size) (by omega) (by omega) (by omega) HM0.out
    rw [szI_y (l := 1048576) (s := ((n0 : Int) + sumN Awy.len xs0)) (by omega)] at sc0
    go_wp2_with fail; ((with_reducible refine sc0.mono ?_); rintro e w2 ⟨rfl, hb2⟩)
    clear sc0
    have z2 : (w.alloc (.cells #[.int .i64 J0, .slice A0 n0 c0] 24)).heap.size ≤ w2.heap.size := hb2.size
    have B2 : Below w.heap.size w w2 := B1.trans (hb2.mono B1.size)
    have cP0_0_2 : w2.cell? ⟨w.heap.size, 0, none⟩ = some (.int .i64 J0) := (hb2.cell (block_lt_of_cell cP0_0_1)).trans cP0_0_1
    have cP0_1_2 : w2.cell? ⟨w.heap.size, 1, none⟩ = some (.slice A0 n0 c0) := (hb2.cell (block_lt_of_cell cP0_1_1)).trans cP0_1_1
    clear cP0_0_1 cP0_1_1
    have sc1 := szDorS_any A1 n1 c1 xs1 (1048576 - ((n0 : Int) + sumN Awy.len xs0)) w2 ((hr1.below B2).more B2.size) (by omega) (by omega) (by omega) HM1.out
    rw [szI_n (l := 1048576 - ((n0 : Int) + sumN Awy.len xs0)) (s := ((n1 : Int) + sumN Dor.len xs1)) (by omega)] at sc1
    go_wp2_with fail; ((with_reducible refine sc1.mono ?_); rintro e w3 ⟨rfl, hb3⟩)
    clear sc1
    have z3 : w2.heap.size ≤ w3.heap.size := hb3.size
    have B3 : Below w.heap.size w w3 := B2.trans (hb3.mono B2.size)
    have cP0_0_3 : w3.cell? ⟨w.heap.size, 0, none⟩ = some (.int .i64 J0) := (hb3.cell (block_lt_of_cell cP0_0_2)).trans cP0_0_2
    have cP0_1_3 : w3.cell? ⟨w.heap.size, 1, none⟩ = some (.slice A0 n0 c0) := (hb3.cell (block_lt_of_cell cP0_1_2)).trans cP0_1_2
    clear cP0_0_2 cP0_1_2
    go_wp2
    go_ret
    exact ⟨rfl, B3⟩
  have HY1 := Lib.hid hN1
  have hn0 : n0 ≤ 1048576 := by omega
  have hn1 : n1 ≤ 1048576 := by omega
  have z1 : w.heap.size + 1 ≤ (w.alloc (.cells #[.int .i64 J0, .slice A0 n0 c0] 24)).heap.size := by simp
  have B1 : Below w.heap.size w (w.alloc (.cells #[.int .i64 J0, .slice A0 n0 c0] 24)) := (Below.refl _ _).alloc (Nat.le_refl _) _
  have cP0_0_1 : (w.alloc (.cells #[.int .i64 J0, .slice A0 n0 c0] 24)).cell? ⟨w.heap.size, 0, none⟩ = some (.int .i64 J0) := ((Blk.new w 24 #[.int .i64 J0, .slice A0 n0 c0]).cell 0).trans rfl
  have cP0_1_1 : (w.alloc (.cells #[.int .i64 J0, .slice A0 n0 c0] 24)).cell? ⟨w.heap.size, 1, none⟩ = some (.slice A0 n0 c0) := ((Blk.new w 24 #[.int .i64 J0, .slice A0 n0 c0]).cell 1).trans rfl
  go_enter Try.func13, Try.ntmps13
  have sc0 := szMine_any J0 A0 n0 c0 xs0 (1048576) (w.alloc (.cells #[.int .i64 J0, .slice A0 n0 c0] 24)) ((hr0.below B1).more B1.size) (by omega) (by omega) (by omega) HM0.out
  rw [szI_y (l := 1048576) (s := ((n0 : Int) + sumN Awy.len xs0)) (by omega)] at sc0
  go_wp2_with fail; ((with_reducible refine sc0.mono ?_); rintro e w2 ⟨rfl, hb2⟩)
  clear sc0
  have z2 : (w.alloc (.cells #[.int .i64 J0, .slice A0 n0 c0] 24)).heap.size ≤ w2.heap.size := hb2.size
  have B2 : Below w.heap.size w w2 := B1.trans (hb2.mono B1.size)
  have cP0_0_2 : w2.cell? ⟨w.heap.size, 0, none⟩ = some (.int .i64 J0) := (hb2.cell (block_lt_of_cell cP0_0_1)).trans cP0_0_1
  have cP0_1_2 : w2.cell? ⟨w.heap.size, 1, none⟩ = some (.slice A0 n0 c0) := (hb2.cell (block_lt_of_cell cP0_1_1)).trans cP0_1_1
  clear cP0_0_1 cP0_1_1
  have sc1 := szDorS_any A1 n1 c1 xs1 (1048576 - ((n0 : Int) + sumN Awy.len xs0)) w2 ((hr1.below B2).more B2.size) (by omega) (by omega) (by omega) HM1.out
  rw [szI_y (l := 1048576 - ((n0 : Int) + sumN Awy.len xs0)) (s := ((n1 : Int) + sumN Dor.len xs1)) (by omega)] at sc1
  go_wp2_with fail; ((with_reducible refine sc1.mono ?_); rintro e w3 ⟨rfl, hb3⟩)
  clear sc1
  have z3 : w2.heap.size ≤ w3.heap.size := hb3.size
  have B3 : Below w.heap.size w w3 := B2.trans (hb3.mono B2.size)
  have cP0_0_3 : w3.cell? ⟨w.heap.size, 0, none⟩ = some (.int .i64 J0) := (hb3.cell (block_lt_of_cell cP0_0_2)).trans cP0_0_2
  have cP0_1_3 : w3.cell? ⟨w.heap.size, 1, none⟩ = some (.slice A0 n0 c0) := (hb3.cell (block_lt_of_cell cP0_1_2)).trans cP0_1_2
  clear cP0_0_2 cP0_1_2
  go_wp2_with fail; ((with_reducible refine (toMine_any J0 A0 n0 c0 xs0 _ ((hr0.below B3).more B3.size) hn0 HM0.out).mono ?_); rintro e w4 ⟨AS0, rfl, oS0, hb4⟩)
  have z4 : w3.heap.size ≤ w4.heap.size := hb4.size
  have B4 : Below w.heap.size w w4 := B3.trans (hb4.mono B3.size)
  have cP0_0_4 : w4.cell? ⟨w.heap.size, 0, none⟩ = some (.int .i64 J0) := (hb4.cell (block_lt_of_cell cP0_0_3)).trans cP0_0_3
  have cP0_1_4 : w4.cell? ⟨w.heap.size, 1, none⟩ = some (.slice A0 n0 c0) := (hb4.cell (block_lt_of_cell cP0_1_3)).trans cP0_1_3
  clear cP0_0_3 cP0_1_3
  have FS0_4 := own_mk oS0
  have SS0_4 := Same.refl w3.heap.size w4.heap.size w4
  go_wp2_with fail; ((with_reducible refine (toDorS_any A1 n1 c1 xs1 _ ((hr1.below B4).more B4.size) hn1 HM1.out).mono ?_); rintro e w5 ⟨rfl, oS1, hb5⟩)
  have z5 : w4.heap.size ≤ w5.heap.size := hb5.size
  have B5 : Below w.heap.size w w5 := B4.trans (hb5.mono B4.size)
  have cP0_0_5 : w5.cell? ⟨w.heap.size, 0, none⟩ = some (.int .i64 J0) := (hb5.cell (block_lt_of_cell cP0_0_4)).trans cP0_0_4
  have cP0_1_5 : w5.cell? ⟨w.heap.size, 1, none⟩ = some (.slice A0 n0 c0) := (hb5.cell (block_lt_of_cell cP0_1_4)).trans cP0_1_4
  clear cP0_0_4 cP0_1_4
  have SS0_5 := SS0_4.below hb5 (by omega)
  have FS1_5 := own_mk oS1
  have SS1_5 := Same.refl w4.heap.size w5.heap.size w5
  go_wp2_with fail; ((with_reducible refine (toBoolS_any A2 n2 c2 xs2 _ ((hr2.below B5).more B5.size) hn2).mono ?_); rintro e w6 ⟨rfl, oS2, hb6⟩)
  have z6 : w5.heap.size ≤ w6.heap.size := hb6.size
  have B6 : Below w.heap.size w w6 := B5.trans (hb6.mono B5.size)
  have cP0_0_6 : w6.cell? ⟨w.heap.size, 0, none⟩ = some (.int .i64 J0) := (hb6.cell (block_lt_of_cell cP0_0_5)).trans cP0_0_5
  have cP0_1_6 : w6.cell? ⟨w.heap.size, 1, none⟩ = some (.slice A0 n0 c0) := (hb6.cell (block_lt_of_cell cP0_1_5)).trans cP0_1_5
  clear cP0_0_5 cP0_1_5
  have SS0_6 := SS0_5.below hb6 (by omega)
  have SS1_6 := SS1_5.below hb6 (by omega)
  have FS2_6 := own_mk oS2
  have SS2_6 := Same.refl w5.heap.size w6.heap.size w6
  have cc7 := specOpenDoors_any J0 AS0 n0 n0 xs0 (some ⟨w4.heap.size, 0, none⟩) n1 n1 xs1 (some ⟨w5.heap.size, 0, none⟩) n2 n2 xs2 w6 (FS0_4.same SS0_6).reads hn0 HM0.out (FS1_5.same SS1_6).reads hn1 HM1.out (FS2_6.same SS2_6).reads hn2
  go_wp2_with fail; ((with_reducible refine (cc7).mono ?_); rintro e w7 ⟨AW, nW, cW, rfl, oW, hnW, hb7⟩)
  have z7 : w6.heap.size ≤ w7.heap.size := hb7.size
  have B7 : Below w.heap.size w w7 := B6.trans (hb7.mono B6.size)
  have cP0_0_7 : w7.cell? ⟨w.heap.size, 0, none⟩ = some (.int .i64 J0) := (hb7.cell (block_lt_of_cell cP0_0_6)).trans cP0_0_6
  have cP0_1_7 : w7.cell? ⟨w.heap.size, 1, none⟩ = some (.slice A0 n0 c0) := (hb7.cell (block_lt_of_cell cP0_1_6)).trans cP0_1_6
  clear cP0_0_6 cP0_1_6
  have SS0_7 := SS0_6.below hb7 (by omega)
  have SS1_7 := SS1_6.below hb7 (by omega)
  have SS2_7 := SS2_6.below hb7 (by omega)
  have FW_7 := own_mk oW
  have SW_7 := Same.refl w6.heap.size w7.heap.size w7
  clear cc7
  go_wp2_with fail; ((with_reducible refine (toMine_any J0 A0 n0 c0 xs0 _ ((hr0.below B7).more B7.size) hn0 HM0.out).mono ?_); rintro e w8 ⟨AX0, rfl, oX0, hb8⟩)
  have z8 : w7.heap.size ≤ w8.heap.size := hb8.size
  have B8 : Below w.heap.size w w8 := B7.trans (hb8.mono B7.size)
  have cP0_0_8 : w8.cell? ⟨w.heap.size, 0, none⟩ = some (.int .i64 J0) := (hb8.cell (block_lt_of_cell cP0_0_7)).trans cP0_0_7
  have cP0_1_8 : w8.cell? ⟨w.heap.size, 1, none⟩ = some (.slice A0 n0 c0) := (hb8.cell (block_lt_of_cell cP0_1_7)).trans cP0_1_7
  clear cP0_0_7 cP0_1_7
  have SW_8 := SW_7.below hb8 (by omega)
  have FX0_8 := own_mk oX0
  have SX0_8 := Same.refl w7.heap.size w8.heap.size w8
  -- its box
  have z9 : w8.heap.size + 1 ≤ (w8.alloc (.cells #[.int .i64 J0, .slice AX0 n0 n0] 31)).heap.size := by simp
  have B9 : Below w.heap.size w (w8.alloc (.cells #[.int .i64 J0, .slice AX0 n0 n0] 31)) := B8.alloc B8.size _
  have cP0_0_9 : (w8.alloc (.cells #[.int .i64 J0, .slice AX0 n0 n0] 31)).cell? ⟨w.heap.size, 0, none⟩ = some (.int .i64 J0) := (World.cell?_alloc_lt _ _ _ (block_lt_of_cell cP0_0_8)).trans cP0_0_8
  have cP0_1_9 : (w8.alloc (.cells #[.int .i64 J0, .slice AX0 n0 n0] 31)).cell? ⟨w.heap.size, 1, none⟩ = some (.slice A0 n0 c0) := (World.cell?_alloc_lt _ _ _ (block_lt_of_cell cP0_1_8)).trans cP0_1_8
  clear cP0_0_8 cP0_1_8
  have cX0_0_9 : (w8.alloc (.cells #[.int .i64 J0, .slice AX0 n0 n0] 31)).cell? ⟨w8.heap.size, 0, none⟩ = some (.int .i64 J0) := ((Blk.new w8 31 #[.int .i64 J0, .slice AX0 n0 n0]).cell 0).trans rfl
  have cX0_1_9 : (w8.alloc (.cells #[.int .i64 J0, .slice AX0 n0 n0] 31)).cell? ⟨w8.heap.size, 1, none⟩ = some (.slice AX0 n0 n0) := ((Blk.new w8 31 #[.int .i64 J0, .slice AX0 n0 n0]).cell 1).trans rfl
  have SW_9 := SW_8.below (show Below w8.heap.size w8 (w8.alloc (.cells #[.int .i64 J0, .slice AX0 n0 n0] 31)) from (Below.refl _ _).alloc (Nat.le_refl _) _) (by omega)
  have SX0_9 := SX0_8.below (show Below w8.heap.size w8 (w8.alloc (.cells #[.int .i64 J0, .slice AX0 n0 n0] 31)) from (Below.refl _ _).alloc (Nat.le_refl _) _) (by omega)
  go_wp2_with fail; ((with_reducible refine (toDorS_any A1 n1 c1 xs1 _ ((hr1.below B9).more B9.size) hn1 HM1.out).mono ?_); rintro e w10 ⟨rfl, oX1, hb10⟩)
  have z10 : (w8.alloc (.cells #[.int .i64 J0, .slice AX0 n0 n0] 31)).heap.size ≤ w10.heap.size := hb10.size
  have B10 : Below w.heap.size w w10 := B9.trans (hb10.mono B9.size)
  have cP0_0_10 : w10.cell? ⟨w.heap.size, 0, none⟩ = some (.int .i64 J0) := (hb10.cell (block_lt_of_cell cP0_0_9)).trans cP0_0_9
  have cP0_1_10 : w10.cell? ⟨w.heap.size, 1, none⟩ = some (.slice A0 n0 c0) := (hb10.cell (block_lt_of_cell cP0_1_9)).trans cP0_1_9
  clear cP0_0_9 cP0_1_9
  have cX0_0_10 : w10.cell? ⟨w8.heap.size, 0, none⟩ = some (.int .i64 J0) := (hb10.cell (block_lt_of_cell cX0_0_9)).trans cX0_0_9
  have cX0_1_10 : w10.cell? ⟨w8.heap.size, 1, none⟩ = some (.slice AX0 n0 n0) := (hb10.cell (block_lt_of_cell cX0_1_9)).trans cX0_1_9
  clear cX0_0_9 cX0_1_9
  have SW_10 := SW_9.below hb10 (by omega)
  have SX0_10 := SX0_9.below hb10 (by omega)
  rw [show (w8.alloc (.cells #[.int .i64 J0, .slice AX0 n0 n0] 31)).heap.size = (w8.heap.size + 1) by simp] at oX1
  have FX1_10 := own_mk oX1
  have SX1_10 := Same.refl (w8.heap.size + 1) w10.heap.size w10
  go_wp2_with fail; ((with_reducible refine (toBoolS_any A2 n2 c2 xs2 _ ((hr2.below B10).more B10.size) hn2).mono ?_); rintro e w11 ⟨rfl, oX2, hb11⟩)
  have z11 : w10.heap.size ≤ w11.heap.size := hb11.size
  have B11 : Below w.heap.size w w11 := B10.trans (hb11.mono B10.size)
  have cP0_0_11 : w11.cell? ⟨w.heap.size, 0, none⟩ = some (.int .i64 J0) := (hb11.cell (block_lt_of_cell cP0_0_10)).trans cP0_0_10
  have cP0_1_11 : w11.cell? ⟨w.heap.size, 1, none⟩ = some (.slice A0 n0 c0) := (hb11.cell (block_lt_of_cell cP0_1_10)).trans cP0_1_10
  clear cP0_0_10 cP0_1_10
  have cX0_0_11 : w11.cell? ⟨w8.heap.size, 0, none⟩ = some (.int .i64 J0) := (hb11.cell (block_lt_of_cell cX0_0_10)).trans cX0_0_10
  have cX0_1_11 : w11.cell? ⟨w8.heap.size, 1, none⟩ = some (.slice AX0 n0 n0) := (hb11.cell (block_lt_of_cell cX0_1_10)).trans cX0_1_10
  clear cX0_0_10 cX0_1_10
  have SW_11 := SW_10.below hb11 (by omega)
  have SX0_11 := SX0_10.below hb11 (by omega)
  have SX1_11 := SX1_10.below hb11 (by omega)
  have FX2_11 := own_mk oX2
  have SX2_11 := Same.refl w10.heap.size w11.heap.size w11
  have cc12 := implOpenDoors_any J0 AX0 n0 n0 xs0 (some ⟨(w8.heap.size + 1), 0, none⟩) n1 n1 xs1 (some ⟨w10.heap.size, 0, none⟩) n2 n2 xs2 w11 (FX0_8.same SX0_11).reads hn0 HM0.out (FX1_10.same SX1_11).reads hn1 HM1.out (FX2_11.same SX2_11).reads hn2
  go_wp2_with fail; ((with_reducible refine (cc12).mono ?_); rintro e w12 ⟨AG, nG, cG, rfl, oG, hnG, hb12⟩)
  have z12 : w11.heap.size ≤ w12.heap.size := hb12.size
  have B12 : Below w.heap.size w w12 := B11.trans (hb12.mono B11.size)
  have cP0_0_12 : w12.cell? ⟨w.heap.size, 0, none⟩ = some (.int .i64 J0) := (hb12.cell (block_lt_of_cell cP0_0_11)).trans cP0_0_11
  have cP0_1_12 : w12.cell? ⟨w.heap.size, 1, none⟩ = some (.slice A0 n0 c0) := (hb12.cell (block_lt_of_cell cP0_1_11)).trans cP0_1_11
  clear cP0_0_11 cP0_1_11
  have cX0_0_12 : w12.cell? ⟨w8.heap.size, 0, none⟩ = some (.int .i64 J0) := (hb12.cell (block_lt_of_cell cX0_0_11)).trans cX0_0_11
  have cX0_1_12 : w12.cell? ⟨w8.heap.size, 1, none⟩ = some (.slice AX0 n0 n0) := (hb12.cell (block_lt_of_cell cX0_1_11)).trans cX0_1_11
  clear cX0_0_11 cX0_1_11
  have SW_12 := SW_11.below hb12 (by omega)
  have SX0_12 := SX0_11.below hb12 (by omega)
  have SX1_12 := SX1_11.below hb12 (by omega)
  have SX2_12 := SX2_11.below hb12 (by omega)
  have FG_12 := own_mk oG
  have SG_12 := Same.refl w11.heap.size w12.heap.size w12
  clear cc12
  obtain rfl : nG = nW := by have h1 := FG_12.own.1; have h2 := FW_7.own.1; omega
  go_wp2_with fail; ((with_reducible refine (eqInt64S_b _ _ nG cG cW _ _ (FG_12.same SG_12).reads (FW_7.same SW_12).reads (by omega)).mono ?_); rintro e w13 ⟨rfl, hb13⟩)
  have z13 : w12.heap.size ≤ w13.heap.size := hb13.size
  have B13 : Below w.heap.size w w13 := B12.trans (hb13.mono B12.size)
  have cP0_0_13 : w13.cell? ⟨w.heap.size, 0, none⟩ = some (.int .i64 J0) := (hb13.cell (block_lt_of_cell cP0_0_12)).trans cP0_0_12
  have cP0_1_13 : w13.cell? ⟨w.heap.size, 1, none⟩ = some (.slice A0 n0 c0) := (hb13.cell (block_lt_of_cell cP0_1_12)).trans cP0_1_12
  clear cP0_0_12 cP0_1_12
  have cX0_0_13 : w13.cell? ⟨w8.heap.size, 0, none⟩ = some (.int .i64 J0) := (hb13.cell (block_lt_of_cell cX0_0_12)).trans cX0_0_12
  have cX0_1_13 : w13.cell? ⟨w8.heap.size, 1, none⟩ = some (.slice AX0 n0 n0) := (hb13.cell (block_lt_of_cell cX0_1_12)).trans cX0_1_12
  clear cX0_0_12 cX0_1_12
  have SW_13 := SW_12.below hb13 (by omega)
  have SX0_13 := SX0_12.below hb13 (by omega)
  have SX1_13 := SX1_12.below hb13 (by omega)
  have SX2_13 := SX2_12.below hb13 (by omega)
  have SG_13 := SG_12.below hb13 (by omega)
  have RDT0 := (hr0.below (below_drew B13)).more (below_drew B13).size
  have HZT0 : w8.heap.size ≤ w13.drew.heap.size := by show _ ≤ w13.heap.size; omega
  go_wp2_with fail
  go_region_held3 (fun w' => w'.cell? ⟨w.heap.size, 0, none⟩ = some (.int .i64 J0) ∧ w'.cell? ⟨w.heap.size, 1, none⟩ = some (.slice A0 n0 c0) ∧ w'.cell? ⟨w8.heap.size, 0, none⟩ = some (.int .i64 J0) ∧ w'.cell? ⟨w8.heap.size, 1, none⟩ = some (.slice AX0 n0 n0))
    (first | go_keep | (exact ⟨(hb14.cell (block_lt_of_cell cP0_0_13)).trans cP0_0_13, (hb14.cell (block_lt_of_cell cP0_1_13)).trans cP0_1_13, (hb14.cell (block_lt_of_cell cX0_0_13)).trans cX0_0_13, (hb14.cell (block_lt_of_cell cX0_1_13)).trans cX0_1_13⟩) | (exact ⟨(hb15.cell (block_lt_of_cell ((hb14.cell (block_lt_of_cell cP0_0_13)).trans cP0_0_13))).trans ((hb14.cell (block_lt_of_cell cP0_0_13)).trans cP0_0_13), (hb15.cell (block_lt_of_cell ((hb14.cell (block_lt_of_cell cP0_1_13)).trans cP0_1_13))).trans ((hb14.cell (block_lt_of_cell cP0_1_13)).trans cP0_1_13), (hb15.cell (block_lt_of_cell ((hb14.cell (block_lt_of_cell cX0_0_13)).trans cX0_0_13))).trans ((hb14.cell (block_lt_of_cell cX0_0_13)).trans cX0_0_13), (hb15.cell (block_lt_of_cell ((hb14.cell (block_lt_of_cell cX0_1_13)).trans cX0_1_13))).trans ((hb14.cell (block_lt_of_cell cX0_1_13)).trans cX0_1_13)⟩))
    ((first | (go_at_call 19; (with_reducible refine (eqMine_b J0 _ _ n0 n0 n0 xs0 _ (FX0_8.same ((SX0_13.drew).below hb14 HZT0)).reads (own_mk oT0).reads (by omega)).mono ?_); rintro e w15 ⟨rfl, hb15⟩) | (go_at_call 16; (with_reducible refine (toMine_any J0 A0 n0 c0 xs0 _ RDT0 hn0 HM0.out).mono ?_); rintro e w14 ⟨AT0, rfl, oT0, hb14⟩)))
  replace hb14 : Below w13.heap.size w13 w14 := below_undrew hb14
  have z14 : w13.heap.size ≤ w14.heap.size := hb14.size
  have B14 : Below w.heap.size w w14 := B13.trans (hb14.mono B13.size)
  have cP0_0_14 : w14.cell? ⟨w.heap.size, 0, none⟩ = some (.int .i64 J0) := (hb14.cell (block_lt_of_cell cP0_0_13)).trans cP0_0_13
  have cP0_1_14 : w14.cell? ⟨w.heap.size, 1, none⟩ = some (.slice A0 n0 c0) := (hb14.cell (block_lt_of_cell cP0_1_13)).trans cP0_1_13
  clear cP0_0_13 cP0_1_13
  have cX0_0_14 : w14.cell? ⟨w8.heap.size, 0, none⟩ = some (.int .i64 J0) := (hb14.cell (block_lt_of_cell cX0_0_13)).trans cX0_0_13
  have cX0_1_14 : w14.cell? ⟨w8.heap.size, 1, none⟩ = some (.slice AX0 n0 n0) := (hb14.cell (block_lt_of_cell cX0_1_13)).trans cX0_1_13
  clear cX0_0_13 cX0_1_13
  have SW_14 := SW_13.below hb14 (by omega)
  have SX0_14 := SX0_13.below hb14 (by omega)
  have SX1_14 := SX1_13.below hb14 (by omega)
  have SX2_14 := SX2_13.below hb14 (by omega)
  have SG_14 := SG_13.below hb14 (by omega)
  have z15 : w14.heap.size ≤ w15.heap.size := hb15.size
  have B15 : Below w.heap.size w w15 := B14.trans (hb15.mono B14.size)
  have cP0_0_15 : w15.cell? ⟨w.heap.size, 0, none⟩ = some (.int .i64 J0) := (hb15.cell (block_lt_of_cell cP0_0_14)).trans cP0_0_14
  have cP0_1_15 : w15.cell? ⟨w.heap.size, 1, none⟩ = some (.slice A0 n0 c0) := (hb15.cell (block_lt_of_cell cP0_1_14)).trans cP0_1_14
  clear cP0_0_14 cP0_1_14
  have cX0_0_15 : w15.cell? ⟨w8.heap.size, 0, none⟩ = some (.int .i64 J0) := (hb15.cell (block_lt_of_cell cX0_0_14)).trans cX0_0_14
  have cX0_1_15 : w15.cell? ⟨w8.heap.size, 1, none⟩ = some (.slice AX0 n0 n0) := (hb15.cell (block_lt_of_cell cX0_1_14)).trans cX0_1_14
  clear cX0_0_14 cX0_1_14
  have SW_15 := SW_14.below hb15 (by omega)
  have SX0_15 := SX0_14.below hb15 (by omega)
  have SX1_15 := SX1_14.below hb15 (by omega)
  have SX2_15 := SX2_14.below hb15 (by omega)
  have SG_15 := SG_14.below hb15 (by omega)
  go_wp2_with fail; ((with_reducible refine (toDorS_any A1 n1 c1 xs1 _ ((hr1.below B15).more B15.size) hn1 HM1.out).mono ?_); rintro e w16 ⟨rfl, oT1, hb16⟩)
  have z16 : w15.heap.size ≤ w16.heap.size := hb16.size
  have B16 : Below w.heap.size w w16 := B15.trans (hb16.mono B15.size)
  have cP0_0_16 : w16.cell? ⟨w.heap.size, 0, none⟩ = some (.int .i64 J0) := (hb16.cell (block_lt_of_cell cP0_0_15)).trans cP0_0_15
  have cP0_1_16 : w16.cell? ⟨w.heap.size, 1, none⟩ = some (.slice A0 n0 c0) := (hb16.cell (block_lt_of_cell cP0_1_15)).trans cP0_1_15
  clear cP0_0_15 cP0_1_15
  have cX0_0_16 : w16.cell? ⟨w8.heap.size, 0, none⟩ = some (.int .i64 J0) := (hb16.cell (block_lt_of_cell cX0_0_15)).trans cX0_0_15
  have cX0_1_16 : w16.cell? ⟨w8.heap.size, 1, none⟩ = some (.slice AX0 n0 n0) := (hb16.cell (block_lt_of_cell cX0_1_15)).trans cX0_1_15
  clear cX0_0_15 cX0_1_15
  have SW_16 := SW_15.below hb16 (by omega)
  have SX0_16 := SX0_15.below hb16 (by omega)
  have SX1_16 := SX1_15.below hb16 (by omega)
  have SX2_16 := SX2_15.below hb16 (by omega)
  have SG_16 := SG_15.below hb16 (by omega)
  have FT1_16 := own_mk oT1
  have ST1_16 := Same.refl w15.heap.size w16.heap.size w16
  go_wp2_with fail; ((with_reducible refine (eqDorS_b _ _ n1 n1 n1 xs1 _ (FX1_10.same SX1_16).reads (FT1_16.same ST1_16).reads (by omega)).mono ?_); rintro e w17 ⟨rfl, hb17⟩)
  have z17 : w16.heap.size ≤ w17.heap.size := hb17.size
  have B17 : Below w.heap.size w w17 := B16.trans (hb17.mono B16.size)
  have cP0_0_17 : w17.cell? ⟨w.heap.size, 0, none⟩ = some (.int .i64 J0) := (hb17.cell (block_lt_of_cell cP0_0_16)).trans cP0_0_16
  have cP0_1_17 : w17.cell? ⟨w.heap.size, 1, none⟩ = some (.slice A0 n0 c0) := (hb17.cell (block_lt_of_cell cP0_1_16)).trans cP0_1_16
  clear cP0_0_16 cP0_1_16
  have cX0_0_17 : w17.cell? ⟨w8.heap.size, 0, none⟩ = some (.int .i64 J0) := (hb17.cell (block_lt_of_cell cX0_0_16)).trans cX0_0_16
  have cX0_1_17 : w17.cell? ⟨w8.heap.size, 1, none⟩ = some (.slice AX0 n0 n0) := (hb17.cell (block_lt_of_cell cX0_1_16)).trans cX0_1_16
  clear cX0_0_16 cX0_1_16
  have SW_17 := SW_16.below hb17 (by omega)
  have SX0_17 := SX0_16.below hb17 (by omega)
  have SX1_17 := SX1_16.below hb17 (by omega)
  have SX2_17 := SX2_16.below hb17 (by omega)
  have SG_17 := SG_16.below hb17 (by omega)
  have ST1_17 := ST1_16.below hb17 (by omega)
  go_wp2_with fail; ((with_reducible refine (toBoolS_any A2 n2 c2 xs2 _ ((hr2.below B17).more B17.size) hn2).mono ?_); rintro e w18 ⟨rfl, oT2, hb18⟩)
  have z18 : w17.heap.size ≤ w18.heap.size := hb18.size
  have B18 : Below w.heap.size w w18 := B17.trans (hb18.mono B17.size)
  have cP0_0_18 : w18.cell? ⟨w.heap.size, 0, none⟩ = some (.int .i64 J0) := (hb18.cell (block_lt_of_cell cP0_0_17)).trans cP0_0_17
  have cP0_1_18 : w18.cell? ⟨w.heap.size, 1, none⟩ = some (.slice A0 n0 c0) := (hb18.cell (block_lt_of_cell cP0_1_17)).trans cP0_1_17
  clear cP0_0_17 cP0_1_17
  have cX0_0_18 : w18.cell? ⟨w8.heap.size, 0, none⟩ = some (.int .i64 J0) := (hb18.cell (block_lt_of_cell cX0_0_17)).trans cX0_0_17
  have cX0_1_18 : w18.cell? ⟨w8.heap.size, 1, none⟩ = some (.slice AX0 n0 n0) := (hb18.cell (block_lt_of_cell cX0_1_17)).trans cX0_1_17
  clear cX0_0_17 cX0_1_17
  have SW_18 := SW_17.below hb18 (by omega)
  have SX0_18 := SX0_17.below hb18 (by omega)
  have SX1_18 := SX1_17.below hb18 (by omega)
  have SX2_18 := SX2_17.below hb18 (by omega)
  have SG_18 := SG_17.below hb18 (by omega)
  have FT2_18 := own_mk oT2
  have ST2_18 := Same.refl w17.heap.size w18.heap.size w18
  go_wp2_with fail; ((with_reducible refine (eqBoolS_b _ _ n2 n2 n2 xs2 _ (FX2_11.same SX2_18).reads (FT2_18.same ST2_18).reads (by omega)).mono ?_); rintro e w19 ⟨rfl, hb19⟩)
  have z19 : w18.heap.size ≤ w19.heap.size := hb19.size
  have B19 : Below w.heap.size w w19 := B18.trans (hb19.mono B18.size)
  have cP0_0_19 : w19.cell? ⟨w.heap.size, 0, none⟩ = some (.int .i64 J0) := (hb19.cell (block_lt_of_cell cP0_0_18)).trans cP0_0_18
  have cP0_1_19 : w19.cell? ⟨w.heap.size, 1, none⟩ = some (.slice A0 n0 c0) := (hb19.cell (block_lt_of_cell cP0_1_18)).trans cP0_1_18
  clear cP0_0_18 cP0_1_18
  have cX0_0_19 : w19.cell? ⟨w8.heap.size, 0, none⟩ = some (.int .i64 J0) := (hb19.cell (block_lt_of_cell cX0_0_18)).trans cX0_0_18
  have cX0_1_19 : w19.cell? ⟨w8.heap.size, 1, none⟩ = some (.slice AX0 n0 n0) := (hb19.cell (block_lt_of_cell cX0_1_18)).trans cX0_1_18
  clear cX0_0_18 cX0_1_18
  have SW_19 := SW_18.below hb19 (by omega)
  have SX0_19 := SX0_18.below hb19 (by omega)
  have SX1_19 := SX1_18.below hb19 (by omega)
  have SX2_19 := SX2_18.below hb19 (by omega)
  have SG_19 := SG_18.below hb19 (by omega)
  have ST2_19 := ST2_18.below hb19 (by omega)
  go_wp2_with fail; ((with_reducible refine (markMine_any J0 AX0 n0 n0 _ (1) _ w19 (FX0_8.same SX0_19).own (by omega) (by omega) (by omega)).mono ?_); rintro e w20 ⟨rfl, hb20⟩)
  have hc20 := Chg.of_grown hb20 (FX0_8.range)
  have z20 : w19.heap.size ≤ w20.heap.size := hc20.size
  have B20 : Below w.heap.size w w20 := below_chg B19 hc20 B7.size B19.size
  have SW_20 := SW_19.chg hc20 (by omega) (Or.inl (by omega))
  have SX1_20 := SX1_19.chg hc20 (by omega) (Or.inr (by omega))
  have SX2_20 := SX2_19.chg hc20 (by omega) (Or.inr (by omega))
  have SG_20 := SG_19.chg hc20 (by omega) (Or.inr (by omega))
  have cP0_0_20 : w20.cell? ⟨w.heap.size, 0, none⟩ = some (.int .i64 J0) := hc20.cell cP0_0_19 (Or.inl (by first | (show w.heap.size < _; omega) | (show w.heap.size + _ < _; omega)))
  have cP0_1_20 : w20.cell? ⟨w.heap.size, 1, none⟩ = some (.slice A0 n0 c0) := hc20.cell cP0_1_19 (Or.inl (by first | (show w.heap.size < _; omega) | (show w.heap.size + _ < _; omega)))
  clear cP0_0_19 cP0_1_19
  have cX0_0_20 : w20.cell? ⟨w8.heap.size, 0, none⟩ = some (.int .i64 J0) := hc20.cell cX0_0_19 (Or.inr (Nat.le_refl _))
  have cX0_1_20 : w20.cell? ⟨w8.heap.size, 1, none⟩ = some (.slice AX0 n0 n0) := hc20.cell cX0_1_19 (Or.inr (Nat.le_refl _))
  clear cX0_0_19 cX0_1_19
  go_wp2_with fail; ((with_reducible refine (markDorS_any (some ⟨(w8.heap.size + 1), 0, none⟩) n1 n1 _ ((1) + 7 * n0) _ w20 (FX1_10.same SX1_20).own (by omega) (by omega) (by omega)).mono ?_); rintro e w21 ⟨rfl, hb21⟩)
  have hc21 := Chg.of_grown hb21 (FX1_10.range)
  have z21 : w20.heap.size ≤ w21.heap.size := hc21.size
  have B21 : Below w.heap.size w w21 := below_chg B20 hc21 (by omega) B20.size
  have SW_21 := SW_20.chg hc21 (by omega) (Or.inl (by omega))
  have SX2_21 := SX2_20.chg hc21 (by omega) (Or.inr (by omega))
  have SG_21 := SG_20.chg hc21 (by omega) (Or.inr (by omega))
  have cP0_0_21 : w21.cell? ⟨w.heap.size, 0, none⟩ = some (.int .i64 J0) := hc21.cell cP0_0_20 (Or.inl (by first | (show w.heap.size < _; omega) | (show w.heap.size + _ < _; omega)))
  have cP0_1_21 : w21.cell? ⟨w.heap.size, 1, none⟩ = some (.slice A0 n0 c0) := hc21.cell cP0_1_20 (Or.inl (by first | (show w.heap.size < _; omega) | (show w.heap.size + _ < _; omega)))
  clear cP0_0_20 cP0_1_20
  have cX0_0_21 : w21.cell? ⟨w8.heap.size, 0, none⟩ = some (.int .i64 J0) := hc21.cell cX0_0_20 (Or.inl (by show w8.heap.size < _; omega))
  have cX0_1_21 : w21.cell? ⟨w8.heap.size, 1, none⟩ = some (.slice AX0 n0 n0) := hc21.cell cX0_1_20 (Or.inl (by show w8.heap.size < _; omega))
  clear cX0_0_20 cX0_1_20
  go_wp2_with fail; ((with_reducible refine (markBoolS_any (some ⟨w10.heap.size, 0, none⟩) n2 n2 _ (((1) + 7 * n0) + 4 * n1) _ w21 (FX2_11.same SX2_21).own (by omega) (by omega) (by omega)).mono ?_); rintro e w22 ⟨rfl, oX222, hb22⟩)
  have hc22 := Chg.of_grown hb22 (FX2_11.range)
  have z22 : w21.heap.size ≤ w22.heap.size := hc22.size
  have B22 : Below w.heap.size w w22 := below_chg B21 hc22 B10.size B21.size
  have SW_22 := SW_21.chg hc22 (by omega) (Or.inl (by omega))
  have SG_22 := SG_21.chg hc22 (by omega) (Or.inr (by omega))
  have cP0_0_22 : w22.cell? ⟨w.heap.size, 0, none⟩ = some (.int .i64 J0) := hc22.cell cP0_0_21 (Or.inl (by first | (show w.heap.size < _; omega) | (show w.heap.size + _ < _; omega)))
  have cP0_1_22 : w22.cell? ⟨w.heap.size, 1, none⟩ = some (.slice A0 n0 c0) := hc22.cell cP0_1_21 (Or.inl (by first | (show w.heap.size < _; omega) | (show w.heap.size + _ < _; omega)))
  clear cP0_0_21 cP0_1_21
  have cX0_0_22 : w22.cell? ⟨w8.heap.size, 0, none⟩ = some (.int .i64 J0) := hc22.cell cX0_0_21 (Or.inl (by show w8.heap.size < _; omega))
  have cX0_1_22 : w22.cell? ⟨w8.heap.size, 1, none⟩ = some (.slice AX0 n0 n0) := hc22.cell cX0_1_21 (Or.inl (by show w8.heap.size < _; omega))
  clear cX0_0_21 cX0_1_21
  have FX2_22 : Own w22 w10.heap.size w11.heap.size _ _ _ _ _ _ := ⟨oX222, FX2_11.top⟩
  have SX2_22 := Same.refl w10.heap.size w11.heap.size w22
  go_wp2_with fail; ((with_reducible refine (eqInt64S_b _ _ nG cG cW _ _ (FG_12.same SG_22).reads (FW_7.same SW_22).reads (by omega)).mono ?_); rintro e w23 ⟨rfl, hb23⟩)
  have z23 : w22.heap.size ≤ w23.heap.size := hb23.size
  have B23 : Below w.heap.size w w23 := B22.trans (hb23.mono B22.size)
  have cP0_0_23 : w23.cell? ⟨w.heap.size, 0, none⟩ = some (.int .i64 J0) := (hb23.cell (block_lt_of_cell cP0_0_22)).trans cP0_0_22
  have cP0_1_23 : w23.cell? ⟨w.heap.size, 1, none⟩ = some (.slice A0 n0 c0) := (hb23.cell (block_lt_of_cell cP0_1_22)).trans cP0_1_22
  clear cP0_0_22 cP0_1_22
  have cX0_0_23 : w23.cell? ⟨w8.heap.size, 0, none⟩ = some (.int .i64 J0) := (hb23.cell (block_lt_of_cell cX0_0_22)).trans cX0_0_22
  have cX0_1_23 : w23.cell? ⟨w8.heap.size, 1, none⟩ = some (.slice AX0 n0 n0) := (hb23.cell (block_lt_of_cell cX0_1_22)).trans cX0_1_22
  clear cX0_0_22 cX0_1_22
  have SW_23 := SW_22.below hb23 (by omega)
  have SG_23 := SG_22.below hb23 (by omega)
  go_wp2_with fail; ((with_reducible refine (markInt64S_any AG nG cG _ (1) _ w23 (FG_12.same SG_23).own (by omega) (by omega) (by omega)).mono ?_); rintro e w24 ⟨rfl, oG24, hb24⟩)
  have hc24 := Chg.of_grown hb24 (FG_12.range)
  have z24 : w23.heap.size ≤ w24.heap.size := hc24.size
  have B24 : Below w.heap.size w w24 := below_chg B23 hc24 B11.size B23.size
  have SW_24 := SW_23.chg hc24 (by omega) (Or.inl (by omega))
  have cP0_0_24 : w24.cell? ⟨w.heap.size, 0, none⟩ = some (.int .i64 J0) := hc24.cell cP0_0_23 (Or.inl (by first | (show w.heap.size < _; omega) | (show w.heap.size + _ < _; omega)))
  have cP0_1_24 : w24.cell? ⟨w.heap.size, 1, none⟩ = some (.slice A0 n0 c0) := hc24.cell cP0_1_23 (Or.inl (by first | (show w.heap.size < _; omega) | (show w.heap.size + _ < _; omega)))
  clear cP0_0_23 cP0_1_23
  have cX0_0_24 : w24.cell? ⟨w8.heap.size, 0, none⟩ = some (.int .i64 J0) := hc24.cell cX0_0_23 (Or.inl (by show w8.heap.size < _; omega))
  have cX0_1_24 : w24.cell? ⟨w8.heap.size, 1, none⟩ = some (.slice AX0 n0 n0) := hc24.cell cX0_1_23 (Or.inl (by show w8.heap.size < _; omega))
  clear cX0_0_23 cX0_1_23
  have FG_24 : Own w24 w11.heap.size w12.heap.size _ _ _ _ _ _ := ⟨oG24, FG_12.top⟩
  have SG_24 := Same.refl w11.heap.size w12.heap.size w24
  go_wp2_with fail; ((with_reducible refine (heldInt64S_any _ nG cG 1 w24 (FG_24.same SG_24).reads (by omega) (by omega) (by omega)).mono ?_); rintro e w' ⟨rfl, rfl⟩)
  go_wp2_with fail; ((with_reducible refine (toMine_any J0 A0 n0 c0 xs0 _ ((hr0.below B24).more B24.size) hn0 HM0.out).mono ?_); rintro e w25 ⟨AU0, rfl, oU0, hb25⟩)
  have z25 : w24.heap.size ≤ w25.heap.size := hb25.size
  have B25 : Below w.heap.size w w25 := B24.trans (hb25.mono B24.size)
  have cP0_0_25 : w25.cell? ⟨w.heap.size, 0, none⟩ = some (.int .i64 J0) := (hb25.cell (block_lt_of_cell cP0_0_24)).trans cP0_0_24
  have cP0_1_25 : w25.cell? ⟨w.heap.size, 1, none⟩ = some (.slice A0 n0 c0) := (hb25.cell (block_lt_of_cell cP0_1_24)).trans cP0_1_24
  clear cP0_0_24 cP0_1_24
  have cX0_0_25 : w25.cell? ⟨w8.heap.size, 0, none⟩ = some (.int .i64 J0) := (hb25.cell (block_lt_of_cell cX0_0_24)).trans cX0_0_24
  have cX0_1_25 : w25.cell? ⟨w8.heap.size, 1, none⟩ = some (.slice AX0 n0 n0) := (hb25.cell (block_lt_of_cell cX0_1_24)).trans cX0_1_24
  clear cX0_0_24 cX0_1_24
  have SW_25 := SW_24.below hb25 (by omega)
  have SG_25 := SG_24.below hb25 (by omega)
  have FU0_25 := own_mk oU0
  have SU0_25 := Same.refl w24.heap.size w25.heap.size w25
  go_wp2_with fail; ((with_reducible refine (toDorS_any A1 n1 c1 xs1 _ ((hr1.below B25).more B25.size) hn1 HM1.out).mono ?_); rintro e w26 ⟨rfl, oU1, hb26⟩)
  have z26 : w25.heap.size ≤ w26.heap.size := hb26.size
  have B26 : Below w.heap.size w w26 := B25.trans (hb26.mono B25.size)
  have cP0_0_26 : w26.cell? ⟨w.heap.size, 0, none⟩ = some (.int .i64 J0) := (hb26.cell (block_lt_of_cell cP0_0_25)).trans cP0_0_25
  have cP0_1_26 : w26.cell? ⟨w.heap.size, 1, none⟩ = some (.slice A0 n0 c0) := (hb26.cell (block_lt_of_cell cP0_1_25)).trans cP0_1_25
  clear cP0_0_25 cP0_1_25
  have cX0_0_26 : w26.cell? ⟨w8.heap.size, 0, none⟩ = some (.int .i64 J0) := (hb26.cell (block_lt_of_cell cX0_0_25)).trans cX0_0_25
  have cX0_1_26 : w26.cell? ⟨w8.heap.size, 1, none⟩ = some (.slice AX0 n0 n0) := (hb26.cell (block_lt_of_cell cX0_1_25)).trans cX0_1_25
  clear cX0_0_25 cX0_1_25
  have SW_26 := SW_25.below hb26 (by omega)
  have SG_26 := SG_25.below hb26 (by omega)
  have SU0_26 := SU0_25.below hb26 (by omega)
  have FU1_26 := own_mk oU1
  have SU1_26 := Same.refl w25.heap.size w26.heap.size w26
  go_wp2_with fail; ((with_reducible refine (toBoolS_any A2 n2 c2 xs2 _ ((hr2.below B26).more B26.size) hn2).mono ?_); rintro e w27 ⟨rfl, oU2, hb27⟩)
  have z27 : w26.heap.size ≤ w27.heap.size := hb27.size
  have B27 : Below w.heap.size w w27 := B26.trans (hb27.mono B26.size)
  have cP0_0_27 : w27.cell? ⟨w.heap.size, 0, none⟩ = some (.int .i64 J0) := (hb27.cell (block_lt_of_cell cP0_0_26)).trans cP0_0_26
  have cP0_1_27 : w27.cell? ⟨w.heap.size, 1, none⟩ = some (.slice A0 n0 c0) := (hb27.cell (block_lt_of_cell cP0_1_26)).trans cP0_1_26
  clear cP0_0_26 cP0_1_26
  have cX0_0_27 : w27.cell? ⟨w8.heap.size, 0, none⟩ = some (.int .i64 J0) := (hb27.cell (block_lt_of_cell cX0_0_26)).trans cX0_0_26
  have cX0_1_27 : w27.cell? ⟨w8.heap.size, 1, none⟩ = some (.slice AX0 n0 n0) := (hb27.cell (block_lt_of_cell cX0_1_26)).trans cX0_1_26
  clear cX0_0_26 cX0_1_26
  have SW_27 := SW_26.below hb27 (by omega)
  have SG_27 := SG_26.below hb27 (by omega)
  have SU0_27 := SU0_26.below hb27 (by omega)
  have SU1_27 := SU1_26.below hb27 (by omega)
  have FU2_27 := own_mk oU2
  have SU2_27 := Same.refl w26.heap.size w27.heap.size w27
  have cc28 := implOpenDoors_any J0 AU0 n0 n0 xs0 (some ⟨w25.heap.size, 0, none⟩) n1 n1 xs1 (some ⟨w26.heap.size, 0, none⟩) n2 n2 xs2 w27 (FU0_25.same SU0_27).reads hn0 HM0.out (FU1_26.same SU1_27).reads hn1 HM1.out (FU2_27.same SU2_27).reads hn2
  go_wp2_with fail; ((with_reducible refine (cc28).mono ?_); rintro e w28 ⟨AH, nH, cH, rfl, oH, hnH, hb28⟩)
  have z28 : w27.heap.size ≤ w28.heap.size := hb28.size
  have B28 : Below w.heap.size w w28 := B27.trans (hb28.mono B27.size)
  have cP0_0_28 : w28.cell? ⟨w.heap.size, 0, none⟩ = some (.int .i64 J0) := (hb28.cell (block_lt_of_cell cP0_0_27)).trans cP0_0_27
  have cP0_1_28 : w28.cell? ⟨w.heap.size, 1, none⟩ = some (.slice A0 n0 c0) := (hb28.cell (block_lt_of_cell cP0_1_27)).trans cP0_1_27
  clear cP0_0_27 cP0_1_27
  have cX0_0_28 : w28.cell? ⟨w8.heap.size, 0, none⟩ = some (.int .i64 J0) := (hb28.cell (block_lt_of_cell cX0_0_27)).trans cX0_0_27
  have cX0_1_28 : w28.cell? ⟨w8.heap.size, 1, none⟩ = some (.slice AX0 n0 n0) := (hb28.cell (block_lt_of_cell cX0_1_27)).trans cX0_1_27
  clear cX0_0_27 cX0_1_27
  have SW_28 := SW_27.below hb28 (by omega)
  have SG_28 := SG_27.below hb28 (by omega)
  have SU0_28 := SU0_27.below hb28 (by omega)
  have SU1_28 := SU1_27.below hb28 (by omega)
  have SU2_28 := SU2_27.below hb28 (by omega)
  have FH_28 := own_mk oH
  have SH_28 := Same.refl w27.heap.size w28.heap.size w28
  clear cc28
  obtain rfl : nH = nG := by have h1 := FH_28.own.1; have h2 := FW_7.own.1; omega
  go_wp2_with fail; ((with_reducible refine (eqInt64S_b _ _ nH cH cW _ _ (FH_28.same SH_28).reads (FW_7.same SW_28).reads (by omega)).mono ?_); rintro e w29 ⟨rfl, hb29⟩)
  have z29 : w28.heap.size ≤ w29.heap.size := hb29.size
  have B29 : Below w.heap.size w w29 := B28.trans (hb29.mono B28.size)
  have cP0_0_29 : w29.cell? ⟨w.heap.size, 0, none⟩ = some (.int .i64 J0) := (hb29.cell (block_lt_of_cell cP0_0_28)).trans cP0_0_28
  have cP0_1_29 : w29.cell? ⟨w.heap.size, 1, none⟩ = some (.slice A0 n0 c0) := (hb29.cell (block_lt_of_cell cP0_1_28)).trans cP0_1_28
  clear cP0_0_28 cP0_1_28
  have cX0_0_29 : w29.cell? ⟨w8.heap.size, 0, none⟩ = some (.int .i64 J0) := (hb29.cell (block_lt_of_cell cX0_0_28)).trans cX0_0_28
  have cX0_1_29 : w29.cell? ⟨w8.heap.size, 1, none⟩ = some (.slice AX0 n0 n0) := (hb29.cell (block_lt_of_cell cX0_1_28)).trans cX0_1_28
  clear cX0_0_28 cX0_1_28
  have SW_29 := SW_28.below hb29 (by omega)
  have SG_29 := SG_28.below hb29 (by omega)
  have SH_29 := SH_28.below hb29 (by omega)
  go_wp2_with fail; ((with_reducible refine (heldInt64S_any _ nH cG 1 w29 (FG_24.same SG_29).reads (by omega) (by omega) (by omega)).mono ?_); rintro e w' ⟨rfl, rfl⟩)
  go_wp2
  go_ret
  exact ⟨rfl, B29⟩

set_option maxRecDepth 100000 in
theorem lifted (os : Os) (started : os.Started) (H : Type) (enc : TypeId × Value → H) :
    ReturnsInHanded {} Try.checked os 13 .any (Rows.fnExactOpenDoorsSpec.pre6 enc Try.prog Try.f13 Rows.fnExactOpenDoorsRow.domain false) (Rows.fnExactOpenDoorsSpec.post enc Try.prog Try.f13 false true false false) := by
  refine returnsInHanded_of_change (C := Try.checked) own_ started (by kernel_rfl) Try.func13
    (ChangeSpec.witness6 (enc := enc) (C := Try.checked) false ⟨#[], #[.agg #[.int .i64 0, .slice none 0 0], .slice none 0 0, .slice none 0 0], []⟩ 12 (by kernel_rfl) (by kernel_rfl) (by kernel_rfl) (by kernel_rfl)) ?_
  intro W base args ds gs before hval0 hW hcnd _
  have hval : ∀ (j : Nat) t v, Try.f13.params[j]? = some t → args[j]? = some v → Value.okWide Try.prog W .any base t v := hval0
  have hW' := hW
  obtain ⟨p, q, hA0, hV, rfl, hfz, hnd⟩ := hW
  have hA : DataW.TrodAll enc Try.prog W 0 (fun _ => true) true Try.f13.params.toList args.toList ds p := hA0
  rw [Try.params13] at hA hval
  obtain ⟨v0, vs0, d0, ds0, p0, q0, hargs, rfl, rfl, h0, r0⟩ := trodAll_cons hA
  obtain ⟨v1, vs1, d1, ds1, p1, q1, rfl, rfl, rfl, h1, r1⟩ := trodAll_cons r0
  obtain ⟨v2, vs2, d2, ds2, p2, q2, rfl, rfl, rfl, h2, r2⟩ := trodAll_cons r1
  obtain ⟨rfl, rfl, rfl⟩ := trodAll_nil r2
  obtain rfl : args = #[v0, v1, v2] := by cases args; simp_all
  obtain ⟨rfl, rfl⟩ := trodVars_none hV
  obtain ⟨J0, A0, n0, c0, xs0, rfl, lc0, gc0, hr0, hm0⟩ := op_mine Try.underlying24 (by kernel_rfl) (by kernel_rfl) Try.underlying2 Try.underlying22 Try.underlying107 (by kernel_rfl) (by kernel_rfl) Try.underlying9 Try.underlying2 Try.underlying2 Try.underlying2 Try.underlying2 Try.underlying2 Try.underlying2 (hval 0 24 v0 rfl rfl) h0
  obtain ⟨A1, n1, c1, xs1, rfl, lc1, gc1, hr1, hm1⟩ := op_dorsS Try.underlying41 Try.underlying85 (by kernel_rfl) (by kernel_rfl) Try.underlying9 Try.underlying2 Try.underlying2 Try.underlying2 (hval 1 41 v1 rfl rfl) h1
  obtain ⟨A2, n2, c2, xs2, rfl, lc2, gc2, hr2⟩ := op_bools Try.underlying60 Try.underlying4 (by kernel_rfl) (hval 2 60 v2 rfl rfl) h2
  clear hA0 hval0
  refine (walk J0 A0 n0 c0 xs0 lc0 gc0 A1 n1 c1 xs1 lc1 gc1 A2 n2 c2 xs2 lc2 gc2 W hr0 hm0 hr1 hm1 hr2).mono fun e W' ⟨he, hb⟩ => ?_
  subst he
  exact ⟨_, rfl, law_post laidOut_ (by kernel_rfl) rfl rfl Try.underlying4 hW' rfl hb⟩

theorem over : Rows.fnExactOpenDoorsRow.holds Try.pinned (OpenSpec.ofChange Rows.fnExactOpenDoorsSpec) :=
  OpenClaim.holds_of_wide 13 Try.f13 rfl rfl rfl rfl rfl rfl rfl ⟨rfl, rfl, rfl, rfl, rfl⟩ rfl rfl rfl rfl rfl (by kernel_rfl) Try.func13 (by kernel_rfl)
    (of_decide_eq_true (by kernel_rfl)) (by unfold Func.isWrapper; first | (rw [if_pos (by decide +kernel)]; kernel_rfl) | (rw [if_neg (by decide +kernel)]; exact ⟨rfl, rfl⟩))
    (fun os started H enc _ => lifted os started H enc)

/-- The statement. -/
theorem proved : Rows.FnExactOpenDoorsSaid := over
#print axioms proved
end Go.Proofs.Ytgbmpadlfcbcaaa.lOpenDoors
