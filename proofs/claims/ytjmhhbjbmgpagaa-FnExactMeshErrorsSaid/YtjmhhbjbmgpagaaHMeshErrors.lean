/- The law FnExactMeshErrors: for all arguments the program's MeshErrors and the reference's return the same, and the result shares no memory with an argument or with the result of another call; no condition. -/
import Derived.Test.YtjmhhbjbmgpagaaMgA
import Derived.Test.YtjmhhbjbmgpagaaMgB
import Derived.Test.YtjmhhbjbmgpagaaMgC
import Derived.Test.YtjmhhbjbmgpagaaMgE
import Derived.Test.YtjmhhbjbmgpagaaMgJ
namespace Go.Proofs.Ytjmhhbjbmgpagaa.lMeshErrors
set_option linter.unusedVariables false
set_option linter.unusedSimpArgs false
open Go.ChangeShapes Go.WideShapes Go.ChangeAt Go.RowKit
set_option maxHeartbeats 4000000 in
set_option maxRecDepth 100000 in
theorem walk (J0 : Int) (A0 : Option Addr) (n0 c0 : Nat) (xs0 : List Awy) (lc0 : n0 ≤ c0) (gc0 : c0 ≤ maxLen) (A1 : Option Addr) (n1 c1 : Nat) (xs1 : List Int) (lc1 : n1 ≤ c1) (gc1 : c1 ≤ maxLen) (A2 : Option Addr) (n2 c2 : Nat) (xs2 : List Int) (lc2 : n2 ≤ c2) (gc2 : c2 ≤ maxLen) (A3 : Option Addr) (n3 c3 : Nat) (xs3 : List Int) (lc3 : n3 ≤ c3) (gc3 : c3 ≤ maxLen) (w : World) (hr0 : Reads w w.heap.size 7 A0 n0 (Awy.recs xs0)) (hm0 : ∀ x ∈ xs0, x.s.size ≤ maxLen) (hr1 : Reads w w.heap.size 1 A1 n1 (ints xs1)) (hr2 : Reads w w.heap.size 1 A2 n2 (ints xs2)) (hr3 : Reads w w.heap.size 1 A3 n3 (ints xs3)) :
    Calls Try.prog 7 #[.agg #[.int .i64 J0, .slice A0 n0 c0], .slice A1 n1 c1, .slice A2 n2 c2, .slice A3 n3 c3] w fun e w' => e = .returned (.bool true) ∧ Below w.heap.size w w' := by
  have HM0 := Lib.hid hm0
  clear hm0
  by_cases big1 : 1048576 < n1
  · go_enter Try.func7, Try.ntmps7
    go_wp2
    go_ret
    exact ⟨rfl, by (repeat (first | exact Below.refl _ _ | assumption | (refine Below.alloc ?_ (by first | exact Nat.le_refl _ | (simp; done) | (simp; omega)) _) | (refine below_drewN ?_ _) | (refine Below.trans ?_ (Below.mono (by assumption) (by first | exact Nat.le_refl _ | (simp; done) | (simp; omega) | omega)))))⟩
  have hn1 : n1 ≤ 1048576 := by omega
  by_cases big2 : 1048576 < n2
  · go_enter Try.func7, Try.ntmps7
    go_wp2
    go_ret
    exact ⟨rfl, by (repeat (first | exact Below.refl _ _ | assumption | (refine Below.alloc ?_ (by first | exact Nat.le_refl _ | (simp; done) | (simp; omega)) _) | (refine below_drewN ?_ _) | (refine Below.trans ?_ (Below.mono (by assumption) (by first | exact Nat.le_refl _ | (simp; done) | (simp; omega) | omega)))))⟩
  have hn2 : n2 ≤ 1048576 := by omega
  by_cases big3 : 1048576 < n3
  · go_enter Try.func7, Try.ntmps7
    go_wp2
    go_ret
    exact ⟨rfl, by (repeat (first | exact Below.refl _ _ | assumption | (refine Below.alloc ?_ (by first | exact Nat.le_refl _ | (simp; done) | (simp; omega)) _) | (refine below_drewN ?_ _) | (refine Below.trans ?_ (Below.mono (by assumption) (by first | exact Nat.le_refl _ | (simp; done) | (simp; omega) | omega)))))⟩
  have hn3 : n3 ≤ 1048576 := by omega
  have t0 := sumN_nonneg Awy.len xs0
  by_cases hN0 : 1048576 < ((n0 : Int) + sumN Awy.len xs0)
  ·  -- too large
    have HN0 := Lib.hid hN0
    have z1 : w.heap.size + 1 ≤ (w.alloc (.cells #[.int .i64 J0, .slice A0 n0 c0] 24)).heap.size := by simp
    have B1 : Below w.heap.size w (w.alloc (.cells #[.int .i64 J0, .slice A0 n0 c0] 24)) := (Below.refl _ _).alloc (Nat.le_refl _) _
    have cP0_0_1 : (w.alloc (.cells #[.int .i64 J0, .slice A0 n0 c0] 24)).cell? ⟨w.heap.size, 0, none⟩ = some (.int .i64 J0) := ((Blk.new w 24 #[.int .i64 J0, .slice A0 n0 c0]).cell 0).trans rfl
    have cP0_1_1 : (w.alloc (.cells #[.int .i64 J0, .slice A0 n0 c0] 24)).cell? ⟨w.heap.size, 1, none⟩ = some (.slice A0 n0 c0) := ((Blk.new w 24 #[.int .i64 J0, .slice A0 n0 c0]).cell 1).trans rfl
    go_enter Try.func7, Try.ntmps7
    have sc0 := szMine_any J0 A0 n0 c0 xs0 (1048576) (w.alloc (.cells #[.int .i64 J0, .slice A0 n0 c0] 24)) ((hr0.below B1).more B1.size) (by omega) (by omega) (by omega) HM0.out
    rw [szI_n (l := 1048576) (s := ((n0 : Int) + sumN Awy.len xs0)) (by omega)] at sc0
    go_wp2_with fail; ((with_reducible refine sc0.mono ?_); rintro e w2 ⟨rfl, hb2⟩)
    clear sc0
    have z2 : (w.alloc (.cells #[.int .i64 J0, .slice A0 n0 c0] 24)).heap.size ≤ w2.heap.size := hb2.size
    have B2 : Below w.heap.size w w2 := B1.trans (hb2.mono B1.size)
    have cP0_0_2 : w2.cell? ⟨w.heap.size, 0, none⟩ = some (.int .i64 J0) := (hb2.cell (block_lt_of_cell cP0_0_1)).trans cP0_0_1
    have cP0_1_2 : w2.cell? ⟨w.heap.size, 1, none⟩ = some (.slice A0 n0 c0) := (hb2.cell (block_lt_of_cell cP0_1_1)).trans cP0_1_1
    clear cP0_0_1 cP0_1_1
    go_wp2
    go_ret
    exact ⟨rfl, B2⟩
  have HY0 := Lib.hid hN0
  have hn0 : n0 ≤ 1048576 := by omega
  have z1 : w.heap.size + 1 ≤ (w.alloc (.cells #[.int .i64 J0, .slice A0 n0 c0] 24)).heap.size := by simp
  have B1 : Below w.heap.size w (w.alloc (.cells #[.int .i64 J0, .slice A0 n0 c0] 24)) := (Below.refl _ _).alloc (Nat.le_refl _) _
  have cP0_0_1 : (w.alloc (.cells #[.int .i64 J0, .slice A0 n0 c0] 24)).cell? ⟨w.heap.size, 0, none⟩ = some (.int .i64 J0) := ((Blk.new w 24 #[.int .i64 J0, .slice A0 n0 c0]).cell 0).trans rfl
  have cP0_1_1 : (w.alloc (.cells #[.int .i64 J0, .slice A0 n0 c0] 24)).cell? ⟨w.heap.size, 1, none⟩ = some (.slice A0 n0 c0) := ((Blk.new w 24 #[.int .i64 J0, .slice A0 n0 c0]).cell 1).trans rfl
  go_enter Try.func7, Try.ntmps7
  have sc0 := szMine_any J0 A0 n0 c0 xs0 (1048576) (w.alloc (.cells #[.int .i64 J0, .slice A0 n0 c0] 24)) ((hr0.below B1).more B1.size) (by omega) (by omega) (by omega) HM0.out
  rw [szI_y (l := 1048576) (s := ((n0 : Int) + sumN Awy.len xs0)) (by omega)] at sc0
  go_wp2_with fail; ((with_reducible refine sc0.mono ?_); rintro e w2 ⟨rfl, hb2⟩)
  clear sc0
  have z2 : (w.alloc (.cells #[.int .i64 J0, .slice A0 n0 c0] 24)).heap.size ≤ w2.heap.size := hb2.size
  have B2 : Below w.heap.size w w2 := B1.trans (hb2.mono B1.size)
  have cP0_0_2 : w2.cell? ⟨w.heap.size, 0, none⟩ = some (.int .i64 J0) := (hb2.cell (block_lt_of_cell cP0_0_1)).trans cP0_0_1
  have cP0_1_2 : w2.cell? ⟨w.heap.size, 1, none⟩ = some (.slice A0 n0 c0) := (hb2.cell (block_lt_of_cell cP0_1_1)).trans cP0_1_1
  clear cP0_0_1 cP0_1_1
  go_wp2_with fail; ((with_reducible refine (toMine_any J0 A0 n0 c0 xs0 _ ((hr0.below B2).more B2.size) hn0 HM0.out).mono ?_); rintro e w3 ⟨AS0, rfl, oS0, hb3⟩)
  have z3 : w2.heap.size ≤ w3.heap.size := hb3.size
  have B3 : Below w.heap.size w w3 := B2.trans (hb3.mono B2.size)
  have cP0_0_3 : w3.cell? ⟨w.heap.size, 0, none⟩ = some (.int .i64 J0) := (hb3.cell (block_lt_of_cell cP0_0_2)).trans cP0_0_2
  have cP0_1_3 : w3.cell? ⟨w.heap.size, 1, none⟩ = some (.slice A0 n0 c0) := (hb3.cell (block_lt_of_cell cP0_1_2)).trans cP0_1_2
  clear cP0_0_2 cP0_1_2
  have FS0_3 := own_mk oS0
  have SS0_3 := Same.refl w2.heap.size w3.heap.size w3
  go_wp2_with fail; ((with_reducible refine (toInt64S_any A1 n1 c1 xs1 _ ((hr1.below B3).more B3.size) hn1).mono ?_); rintro e w4 ⟨rfl, oS1, hb4⟩)
  have z4 : w3.heap.size ≤ w4.heap.size := hb4.size
  have B4 : Below w.heap.size w w4 := B3.trans (hb4.mono B3.size)
  have cP0_0_4 : w4.cell? ⟨w.heap.size, 0, none⟩ = some (.int .i64 J0) := (hb4.cell (block_lt_of_cell cP0_0_3)).trans cP0_0_3
  have cP0_1_4 : w4.cell? ⟨w.heap.size, 1, none⟩ = some (.slice A0 n0 c0) := (hb4.cell (block_lt_of_cell cP0_1_3)).trans cP0_1_3
  clear cP0_0_3 cP0_1_3
  have SS0_4 := SS0_3.below hb4 (by omega)
  have FS1_4 := own_mk oS1
  have SS1_4 := Same.refl w3.heap.size w4.heap.size w4
  go_wp2_with fail; ((with_reducible refine (toInt64S_any A2 n2 c2 xs2 _ ((hr2.below B4).more B4.size) hn2).mono ?_); rintro e w5 ⟨rfl, oS2, hb5⟩)
  have z5 : w4.heap.size ≤ w5.heap.size := hb5.size
  have B5 : Below w.heap.size w w5 := B4.trans (hb5.mono B4.size)
  have cP0_0_5 : w5.cell? ⟨w.heap.size, 0, none⟩ = some (.int .i64 J0) := (hb5.cell (block_lt_of_cell cP0_0_4)).trans cP0_0_4
  have cP0_1_5 : w5.cell? ⟨w.heap.size, 1, none⟩ = some (.slice A0 n0 c0) := (hb5.cell (block_lt_of_cell cP0_1_4)).trans cP0_1_4
  clear cP0_0_4 cP0_1_4
  have SS0_5 := SS0_4.below hb5 (by omega)
  have SS1_5 := SS1_4.below hb5 (by omega)
  have FS2_5 := own_mk oS2
  have SS2_5 := Same.refl w4.heap.size w5.heap.size w5
  go_wp2_with fail; ((with_reducible refine (toInt64S_any A3 n3 c3 xs3 _ ((hr3.below B5).more B5.size) hn3).mono ?_); rintro e w6 ⟨rfl, oS3, hb6⟩)
  have z6 : w5.heap.size ≤ w6.heap.size := hb6.size
  have B6 : Below w.heap.size w w6 := B5.trans (hb6.mono B5.size)
  have cP0_0_6 : w6.cell? ⟨w.heap.size, 0, none⟩ = some (.int .i64 J0) := (hb6.cell (block_lt_of_cell cP0_0_5)).trans cP0_0_5
  have cP0_1_6 : w6.cell? ⟨w.heap.size, 1, none⟩ = some (.slice A0 n0 c0) := (hb6.cell (block_lt_of_cell cP0_1_5)).trans cP0_1_5
  clear cP0_0_5 cP0_1_5
  have SS0_6 := SS0_5.below hb6 (by omega)
  have SS1_6 := SS1_5.below hb6 (by omega)
  have SS2_6 := SS2_5.below hb6 (by omega)
  have FS3_6 := own_mk oS3
  have SS3_6 := Same.refl w5.heap.size w6.heap.size w6
  have cc7 := specMeshErrors_any J0 AS0 n0 n0 xs0 (some ⟨w3.heap.size, 0, none⟩) n1 n1 xs1 (some ⟨w4.heap.size, 0, none⟩) n2 n2 xs2 (some ⟨w5.heap.size, 0, none⟩) n3 n3 xs3 w6 (FS0_3.same SS0_6).reads hn0 HM0.out (FS1_4.same SS1_6).reads hn1 (FS2_5.same SS2_6).reads hn2 (FS3_6.same SS3_6).reads hn3
  go_wp2_with fail; ((with_reducible refine (cc7).mono ?_); rintro e w7 ⟨AW, nW, cW, rfl, oW, hnW, hb7⟩)
  have z7 : w6.heap.size ≤ w7.heap.size := hb7.size
  have B7 : Below w.heap.size w w7 := B6.trans (hb7.mono B6.size)
  have cP0_0_7 : w7.cell? ⟨w.heap.size, 0, none⟩ = some (.int .i64 J0) := (hb7.cell (block_lt_of_cell cP0_0_6)).trans cP0_0_6
  have cP0_1_7 : w7.cell? ⟨w.heap.size, 1, none⟩ = some (.slice A0 n0 c0) := (hb7.cell (block_lt_of_cell cP0_1_6)).trans cP0_1_6
  clear cP0_0_6 cP0_1_6
  have SS0_7 := SS0_6.below hb7 (by omega)
  have SS1_7 := SS1_6.below hb7 (by omega)
  have SS2_7 := SS2_6.below hb7 (by omega)
  have SS3_7 := SS3_6.below hb7 (by omega)
  have FW_7 := own_mk oW
  have SW_7 := Same.refl w6.heap.size w7.heap.size w7
  clear cc7
  go_wp2_with fail; ((with_reducible refine (toMine_any J0 A0 n0 c0 xs0 _ ((hr0.below B7).more B7.size) hn0 HM0.out).mono ?_); rintro e w8 ⟨AX0, rfl, oX0, hb8⟩)
  have z8 : w7.heap.size ≤ w8.heap.size := hb8.size
  have B8 : Below w.heap.size w w8 := B7.trans (hb8.mono B7.size)
  have cP0_0_8 : w8.cell? ⟨w.heap.size, 0, none⟩ = some (.int .i64 J0) := (hb8.cell (block_lt_of_cell cP0_0_7)).trans cP0_0_7
  have cP0_1_8 : w8.cell? ⟨w.heap.size, 1, none⟩ = some (.slice A0 n0 c0) := (hb8.cell (block_lt_of_cell cP0_1_7)).trans cP0_1_7
  clear cP0_0_7 cP0_1_7
  have SW_8 := SW_7.below hb8 (by omega)
  have FX0_8 := own_mk oX0
  have SX0_8 := Same.refl w7.heap.size w8.heap.size w8
  -- its box
  have z9 : w8.heap.size + 1 ≤ (w8.alloc (.cells #[.int .i64 J0, .slice AX0 n0 n0] 31)).heap.size := by simp
  have B9 : Below w.heap.size w (w8.alloc (.cells #[.int .i64 J0, .slice AX0 n0 n0] 31)) := B8.alloc B8.size _
  have cP0_0_9 : (w8.alloc (.cells #[.int .i64 J0, .slice AX0 n0 n0] 31)).cell? ⟨w.heap.size, 0, none⟩ = some (.int .i64 J0) := (World.cell?_alloc_lt _ _ _ (block_lt_of_cell cP0_0_8)).trans cP0_0_8
  have cP0_1_9 : (w8.alloc (.cells #[.int .i64 J0, .slice AX0 n0 n0] 31)).cell? ⟨w.heap.size, 1, none⟩ = some (.slice A0 n0 c0) := (World.cell?_alloc_lt _ _ _ (block_lt_of_cell cP0_1_8)).trans cP0_1_8
  clear cP0_0_8 cP0_1_8
  have cX0_0_9 : (w8.alloc (.cells #[.int .i64 J0, .slice AX0 n0 n0] 31)).cell? ⟨w8.heap.size, 0, none⟩ = some (.int .i64 J0) := ((Blk.new w8 31 #[.int .i64 J0, .slice AX0 n0 n0]).cell 0).trans rfl
  have cX0_1_9 : (w8.alloc (.cells #[.int .i64 J0, .slice AX0 n0 n0] 31)).cell? ⟨w8.heap.size, 1, none⟩ = some (.slice AX0 n0 n0) := ((Blk.new w8 31 #[.int .i64 J0, .slice AX0 n0 n0]).cell 1).trans rfl
  have SW_9 := SW_8.below (show Below w8.heap.size w8 (w8.alloc (.cells #[.int .i64 J0, .slice AX0 n0 n0] 31)) from (Below.refl _ _).alloc (Nat.le_refl _) _) (by omega)
  have SX0_9 := SX0_8.below (show Below w8.heap.size w8 (w8.alloc (.cells #[.int .i64 J0, .slice AX0 n0 n0] 31)) from (Below.refl _ _).alloc (Nat.le_refl _) _) (by omega)
  go_wp2_with fail; ((with_reducible refine (toInt64S_any A1 n1 c1 xs1 _ ((hr1.below B9).more B9.size) hn1).mono ?_); rintro e w10 ⟨rfl, oX1, hb10⟩)
  have z10 : (w8.alloc (.cells #[.int .i64 J0, .slice AX0 n0 n0] 31)).heap.size ≤ w10.heap.size := hb10.size
  have B10 : Below w.heap.size w w10 := B9.trans (hb10.mono B9.size)
  have cP0_0_10 : w10.cell? ⟨w.heap.size, 0, none⟩ = some (.int .i64 J0) := (hb10.cell (block_lt_of_cell cP0_0_9)).trans cP0_0_9
  have cP0_1_10 : w10.cell? ⟨w.heap.size, 1, none⟩ = some (.slice A0 n0 c0) := (hb10.cell (block_lt_of_cell cP0_1_9)).trans cP0_1_9
  clear cP0_0_9 cP0_1_9
  have cX0_0_10 : w10.cell? ⟨w8.heap.size, 0, none⟩ = some (.int .i64 J0) := (hb10.cell (block_lt_of_cell cX0_0_9)).trans cX0_0_9
  have cX0_1_10 : w10.cell? ⟨w8.heap.size, 1, none⟩ = some (.slice AX0 n0 n0) := (hb10.cell (block_lt_of_cell cX0_1_9)).trans cX0_1_9
  clear cX0_0_9 cX0_1_9
  have SW_10 := SW_9.below hb10 (by omega)
  have SX0_10 := SX0_9.below hb10 (by omega)
  rw [show (w8.alloc (.cells #[.int .i64 J0, .slice AX0 n0 n0] 31)).heap.size = (w8.heap.size + 1) by simp] at oX1
  have FX1_10 := own_mk oX1
  have SX1_10 := Same.refl (w8.heap.size + 1) w10.heap.size w10
  go_wp2_with fail; ((with_reducible refine (toInt64S_any A2 n2 c2 xs2 _ ((hr2.below B10).more B10.size) hn2).mono ?_); rintro e w11 ⟨rfl, oX2, hb11⟩)
  have z11 : w10.heap.size ≤ w11.heap.size := hb11.size
  have B11 : Below w.heap.size w w11 := B10.trans (hb11.mono B10.size)
  have cP0_0_11 : w11.cell? ⟨w.heap.size, 0, none⟩ = some (.int .i64 J0) := (hb11.cell (block_lt_of_cell cP0_0_10)).trans cP0_0_10
  have cP0_1_11 : w11.cell? ⟨w.heap.size, 1, none⟩ = some (.slice A0 n0 c0) := (hb11.cell (block_lt_of_cell cP0_1_10)).trans cP0_1_10
  clear cP0_0_10 cP0_1_10
  have cX0_0_11 : w11.cell? ⟨w8.heap.size, 0, none⟩ = some (.int .i64 J0) := (hb11.cell (block_lt_of_cell cX0_0_10)).trans cX0_0_10
  have cX0_1_11 : w11.cell? ⟨w8.heap.size, 1, none⟩ = some (.slice AX0 n0 n0) := (hb11.cell (block_lt_of_cell cX0_1_10)).trans cX0_1_10
  clear cX0_0_10 cX0_1_10
  have SW_11 := SW_10.below hb11 (by omega)
  have SX0_11 := SX0_10.below hb11 (by omega)
  have SX1_11 := SX1_10.below hb11 (by omega)
  have FX2_11 := own_mk oX2
  have SX2_11 := Same.refl w10.heap.size w11.heap.size w11
  go_wp2_with fail; ((with_reducible refine (toInt64S_any A3 n3 c3 xs3 _ ((hr3.below B11).more B11.size) hn3).mono ?_); rintro e w12 ⟨rfl, oX3, hb12⟩)
  have z12 : w11.heap.size ≤ w12.heap.size := hb12.size
  have B12 : Below w.heap.size w w12 := B11.trans (hb12.mono B11.size)
  have cP0_0_12 : w12.cell? ⟨w.heap.size, 0, none⟩ = some (.int .i64 J0) := (hb12.cell (block_lt_of_cell cP0_0_11)).trans cP0_0_11
  have cP0_1_12 : w12.cell? ⟨w.heap.size, 1, none⟩ = some (.slice A0 n0 c0) := (hb12.cell (block_lt_of_cell cP0_1_11)).trans cP0_1_11
  clear cP0_0_11 cP0_1_11
  have cX0_0_12 : w12.cell? ⟨w8.heap.size, 0, none⟩ = some (.int .i64 J0) := (hb12.cell (block_lt_of_cell cX0_0_11)).trans cX0_0_11
  have cX0_1_12 : w12.cell? ⟨w8.heap.size, 1, none⟩ = some (.slice AX0 n0 n0) := (hb12.cell (block_lt_of_cell cX0_1_11)).trans cX0_1_11
  clear cX0_0_11 cX0_1_11
  have SW_12 := SW_11.below hb12 (by omega)
  have SX0_12 := SX0_11.below hb12 (by omega)
  have SX1_12 := SX1_11.below hb12 (by omega)
  have SX2_12 := SX2_11.below hb12 (by omega)
  have FX3_12 := own_mk oX3
  have SX3_12 := Same.refl w11.heap.size w12.heap.size w12
  have cc13 := implMeshErrors_any J0 AX0 n0 n0 xs0 (some ⟨(w8.heap.size + 1), 0, none⟩) n1 n1 xs1 (some ⟨w10.heap.size, 0, none⟩) n2 n2 xs2 (some ⟨w11.heap.size, 0, none⟩) n3 n3 xs3 w12 (FX0_8.same SX0_12).reads hn0 HM0.out (FX1_10.same SX1_12).reads hn1 (FX2_11.same SX2_12).reads hn2 (FX3_12.same SX3_12).reads hn3
  go_wp2_with fail; ((with_reducible refine (cc13).mono ?_); rintro e w13 ⟨AG, nG, cG, rfl, oG, hnG, hb13⟩)
  have z13 : w12.heap.size ≤ w13.heap.size := hb13.size
  have B13 : Below w.heap.size w w13 := B12.trans (hb13.mono B12.size)
  have cP0_0_13 : w13.cell? ⟨w.heap.size, 0, none⟩ = some (.int .i64 J0) := (hb13.cell (block_lt_of_cell cP0_0_12)).trans cP0_0_12
  have cP0_1_13 : w13.cell? ⟨w.heap.size, 1, none⟩ = some (.slice A0 n0 c0) := (hb13.cell (block_lt_of_cell cP0_1_12)).trans cP0_1_12
  clear cP0_0_12 cP0_1_12
  have cX0_0_13 : w13.cell? ⟨w8.heap.size, 0, none⟩ = some (.int .i64 J0) := (hb13.cell (block_lt_of_cell cX0_0_12)).trans cX0_0_12
  have cX0_1_13 : w13.cell? ⟨w8.heap.size, 1, none⟩ = some (.slice AX0 n0 n0) := (hb13.cell (block_lt_of_cell cX0_1_12)).trans cX0_1_12
  clear cX0_0_12 cX0_1_12
  have SW_13 := SW_12.below hb13 (by omega)
  have SX0_13 := SX0_12.below hb13 (by omega)
  have SX1_13 := SX1_12.below hb13 (by omega)
  have SX2_13 := SX2_12.below hb13 (by omega)
  have SX3_13 := SX3_12.below hb13 (by omega)
  have FG_13 := own_mk oG
  have SG_13 := Same.refl w12.heap.size w13.heap.size w13
  clear cc13
  obtain rfl : nG = nW := by have h1 := FG_13.own.1; have h2 := FW_7.own.1; omega
  go_wp2_with fail; ((with_reducible refine (eqInt64S_b _ _ nG cG cW _ _ (FG_13.same SG_13).reads (FW_7.same SW_13).reads (by omega)).mono ?_); rintro e w14 ⟨rfl, hb14⟩)
  have z14 : w13.heap.size ≤ w14.heap.size := hb14.size
  have B14 : Below w.heap.size w w14 := B13.trans (hb14.mono B13.size)
  have cP0_0_14 : w14.cell? ⟨w.heap.size, 0, none⟩ = some (.int .i64 J0) := (hb14.cell (block_lt_of_cell cP0_0_13)).trans cP0_0_13
  have cP0_1_14 : w14.cell? ⟨w.heap.size, 1, none⟩ = some (.slice A0 n0 c0) := (hb14.cell (block_lt_of_cell cP0_1_13)).trans cP0_1_13
  clear cP0_0_13 cP0_1_13
  have cX0_0_14 : w14.cell? ⟨w8.heap.size, 0, none⟩ = some (.int .i64 J0) := (hb14.cell (block_lt_of_cell cX0_0_13)).trans cX0_0_13
  have cX0_1_14 : w14.cell? ⟨w8.heap.size, 1, none⟩ = some (.slice AX0 n0 n0) := (hb14.cell (block_lt_of_cell cX0_1_13)).trans cX0_1_13
  clear cX0_0_13 cX0_1_13
  have SW_14 := SW_13.below hb14 (by omega)
  have SX0_14 := SX0_13.below hb14 (by omega)
  have SX1_14 := SX1_13.below hb14 (by omega)
  have SX2_14 := SX2_13.below hb14 (by omega)
  have SX3_14 := SX3_13.below hb14 (by omega)
  have SG_14 := SG_13.below hb14 (by omega)
  have RDT0 := (hr0.below (below_drew B14)).more (below_drew B14).size
  have HZT0 : w8.heap.size ≤ w14.drew.heap.size := by show _ ≤ w14.heap.size; omega
  go_wp2_with fail
  go_region_held3 (fun w' => w'.cell? ⟨w.heap.size, 0, none⟩ = some (.int .i64 J0) ∧ w'.cell? ⟨w.heap.size, 1, none⟩ = some (.slice A0 n0 c0) ∧ w'.cell? ⟨w8.heap.size, 0, none⟩ = some (.int .i64 J0) ∧ w'.cell? ⟨w8.heap.size, 1, none⟩ = some (.slice AX0 n0 n0))
    (first | go_keep | (exact ⟨(hb15.cell (block_lt_of_cell cP0_0_14)).trans cP0_0_14, (hb15.cell (block_lt_of_cell cP0_1_14)).trans cP0_1_14, (hb15.cell (block_lt_of_cell cX0_0_14)).trans cX0_0_14, (hb15.cell (block_lt_of_cell cX0_1_14)).trans cX0_1_14⟩) | (exact ⟨(hb16.cell (block_lt_of_cell ((hb15.cell (block_lt_of_cell cP0_0_14)).trans cP0_0_14))).trans ((hb15.cell (block_lt_of_cell cP0_0_14)).trans cP0_0_14), (hb16.cell (block_lt_of_cell ((hb15.cell (block_lt_of_cell cP0_1_14)).trans cP0_1_14))).trans ((hb15.cell (block_lt_of_cell cP0_1_14)).trans cP0_1_14), (hb16.cell (block_lt_of_cell ((hb15.cell (block_lt_of_cell cX0_0_14)).trans cX0_0_14))).trans ((hb15.cell (block_lt_of_cell cX0_0_14)).trans cX0_0_14), (hb16.cell (block_lt_of_cell ((hb15.cell (block_lt_of_cell cX0_1_14)).trans cX0_1_14))).trans ((hb15.cell (block_lt_of_cell cX0_1_14)).trans cX0_1_14)⟩))
    ((first | (go_at_call 15; (with_reducible refine (eqMine_b J0 _ _ n0 n0 n0 xs0 _ (FX0_8.same ((SX0_14.drew).below hb15 HZT0)).reads (own_mk oT0).reads (by omega)).mono ?_); rintro e w16 ⟨rfl, hb16⟩) | (go_at_call 12; (with_reducible refine (toMine_any J0 A0 n0 c0 xs0 _ RDT0 hn0 HM0.out).mono ?_); rintro e w15 ⟨AT0, rfl, oT0, hb15⟩)))
  replace hb15 : Below w14.heap.size w14 w15 := below_undrew hb15
  have z15 : w14.heap.size ≤ w15.heap.size := hb15.size
  have B15 : Below w.heap.size w w15 := B14.trans (hb15.mono B14.size)
  have cP0_0_15 : w15.cell? ⟨w.heap.size, 0, none⟩ = some (.int .i64 J0) := (hb15.cell (block_lt_of_cell cP0_0_14)).trans cP0_0_14
  have cP0_1_15 : w15.cell? ⟨w.heap.size, 1, none⟩ = some (.slice A0 n0 c0) := (hb15.cell (block_lt_of_cell cP0_1_14)).trans cP0_1_14
  clear cP0_0_14 cP0_1_14
  have cX0_0_15 : w15.cell? ⟨w8.heap.size, 0, none⟩ = some (.int .i64 J0) := (hb15.cell (block_lt_of_cell cX0_0_14)).trans cX0_0_14
  have cX0_1_15 : w15.cell? ⟨w8.heap.size, 1, none⟩ = some (.slice AX0 n0 n0) := (hb15.cell (block_lt_of_cell cX0_1_14)).trans cX0_1_14
  clear cX0_0_14 cX0_1_14
  have SW_15 := SW_14.below hb15 (by omega)
  have SX0_15 := SX0_14.below hb15 (by omega)
  have SX1_15 := SX1_14.below hb15 (by omega)
  have SX2_15 := SX2_14.below hb15 (by omega)
  have SX3_15 := SX3_14.below hb15 (by omega)
  have SG_15 := SG_14.below hb15 (by omega)
  have z16 : w15.heap.size ≤ w16.heap.size := hb16.size
  have B16 : Below w.heap.size w w16 := B15.trans (hb16.mono B15.size)
  have cP0_0_16 : w16.cell? ⟨w.heap.size, 0, none⟩ = some (.int .i64 J0) := (hb16.cell (block_lt_of_cell cP0_0_15)).trans cP0_0_15
  have cP0_1_16 : w16.cell? ⟨w.heap.size, 1, none⟩ = some (.slice A0 n0 c0) := (hb16.cell (block_lt_of_cell cP0_1_15)).trans cP0_1_15
  clear cP0_0_15 cP0_1_15
  have cX0_0_16 : w16.cell? ⟨w8.heap.size, 0, none⟩ = some (.int .i64 J0) := (hb16.cell (block_lt_of_cell cX0_0_15)).trans cX0_0_15
  have cX0_1_16 : w16.cell? ⟨w8.heap.size, 1, none⟩ = some (.slice AX0 n0 n0) := (hb16.cell (block_lt_of_cell cX0_1_15)).trans cX0_1_15
  clear cX0_0_15 cX0_1_15
  have SW_16 := SW_15.below hb16 (by omega)
  have SX0_16 := SX0_15.below hb16 (by omega)
  have SX1_16 := SX1_15.below hb16 (by omega)
  have SX2_16 := SX2_15.below hb16 (by omega)
  have SX3_16 := SX3_15.below hb16 (by omega)
  have SG_16 := SG_15.below hb16 (by omega)
  go_wp2_with fail; ((with_reducible refine (toInt64S_any A1 n1 c1 xs1 _ ((hr1.below B16).more B16.size) hn1).mono ?_); rintro e w17 ⟨rfl, oT1, hb17⟩)
  have z17 : w16.heap.size ≤ w17.heap.size := hb17.size
  have B17 : Below w.heap.size w w17 := B16.trans (hb17.mono B16.size)
  have cP0_0_17 : w17.cell? ⟨w.heap.size, 0, none⟩ = some (.int .i64 J0) := (hb17.cell (block_lt_of_cell cP0_0_16)).trans cP0_0_16
  have cP0_1_17 : w17.cell? ⟨w.heap.size, 1, none⟩ = some (.slice A0 n0 c0) := (hb17.cell (block_lt_of_cell cP0_1_16)).trans cP0_1_16
  clear cP0_0_16 cP0_1_16
  have cX0_0_17 : w17.cell? ⟨w8.heap.size, 0, none⟩ = some (.int .i64 J0) := (hb17.cell (block_lt_of_cell cX0_0_16)).trans cX0_0_16
  have cX0_1_17 : w17.cell? ⟨w8.heap.size, 1, none⟩ = some (.slice AX0 n0 n0) := (hb17.cell (block_lt_of_cell cX0_1_16)).trans cX0_1_16
  clear cX0_0_16 cX0_1_16
  have SW_17 := SW_16.below hb17 (by omega)
  have SX0_17 := SX0_16.below hb17 (by omega)
  have SX1_17 := SX1_16.below hb17 (by omega)
  have SX2_17 := SX2_16.below hb17 (by omega)
  have SX3_17 := SX3_16.below hb17 (by omega)
  have SG_17 := SG_16.below hb17 (by omega)
  have FT1_17 := own_mk oT1
  have ST1_17 := Same.refl w16.heap.size w17.heap.size w17
  go_wp2_with fail; ((with_reducible refine (eqInt64S_b _ _ n1 n1 n1 xs1 _ (FX1_10.same SX1_17).reads (FT1_17.same ST1_17).reads (by omega)).mono ?_); rintro e w18 ⟨rfl, hb18⟩)
  have z18 : w17.heap.size ≤ w18.heap.size := hb18.size
  have B18 : Below w.heap.size w w18 := B17.trans (hb18.mono B17.size)
  have cP0_0_18 : w18.cell? ⟨w.heap.size, 0, none⟩ = some (.int .i64 J0) := (hb18.cell (block_lt_of_cell cP0_0_17)).trans cP0_0_17
  have cP0_1_18 : w18.cell? ⟨w.heap.size, 1, none⟩ = some (.slice A0 n0 c0) := (hb18.cell (block_lt_of_cell cP0_1_17)).trans cP0_1_17
  clear cP0_0_17 cP0_1_17
  have cX0_0_18 : w18.cell? ⟨w8.heap.size, 0, none⟩ = some (.int .i64 J0) := (hb18.cell (block_lt_of_cell cX0_0_17)).trans cX0_0_17
  have cX0_1_18 : w18.cell? ⟨w8.heap.size, 1, none⟩ = some (.slice AX0 n0 n0) := (hb18.cell (block_lt_of_cell cX0_1_17)).trans cX0_1_17
  clear cX0_0_17 cX0_1_17
  have SW_18 := SW_17.below hb18 (by omega)
  have SX0_18 := SX0_17.below hb18 (by omega)
  have SX1_18 := SX1_17.below hb18 (by omega)
  have SX2_18 := SX2_17.below hb18 (by omega)
  have SX3_18 := SX3_17.below hb18 (by omega)
  have SG_18 := SG_17.below hb18 (by omega)
  have ST1_18 := ST1_17.below hb18 (by omega)
  go_wp2_with fail; ((with_reducible refine (toInt64S_any A2 n2 c2 xs2 _ ((hr2.below B18).more B18.size) hn2).mono ?_); rintro e w19 ⟨rfl, oT2, hb19⟩)
  have z19 : w18.heap.size ≤ w19.heap.size := hb19.size
  have B19 : Below w.heap.size w w19 := B18.trans (hb19.mono B18.size)
  have cP0_0_19 : w19.cell? ⟨w.heap.size, 0, none⟩ = some (.int .i64 J0) := (hb19.cell (block_lt_of_cell cP0_0_18)).trans cP0_0_18
  have cP0_1_19 : w19.cell? ⟨w.heap.size, 1, none⟩ = some (.slice A0 n0 c0) := (hb19.cell (block_lt_of_cell cP0_1_18)).trans cP0_1_18
  clear cP0_0_18 cP0_1_18
  have cX0_0_19 : w19.cell? ⟨w8.heap.size, 0, none⟩ = some (.int .i64 J0) := (hb19.cell (block_lt_of_cell cX0_0_18)).trans cX0_0_18
  have cX0_1_19 : w19.cell? ⟨w8.heap.size, 1, none⟩ = some (.slice AX0 n0 n0) := (hb19.cell (block_lt_of_cell cX0_1_18)).trans cX0_1_18
  clear cX0_0_18 cX0_1_18
  have SW_19 := SW_18.below hb19 (by omega)
  have SX0_19 := SX0_18.below hb19 (by omega)
  have SX1_19 := SX1_18.below hb19 (by omega)
  have SX2_19 := SX2_18.below hb19 (by omega)
  have SX3_19 := SX3_18.below hb19 (by omega)
  have SG_19 := SG_18.below hb19 (by omega)
  have FT2_19 := own_mk oT2
  have ST2_19 := Same.refl w18.heap.size w19.heap.size w19
  go_wp2_with fail; ((with_reducible refine (eqInt64S_b _ _ n2 n2 n2 xs2 _ (FX2_11.same SX2_19).reads (FT2_19.same ST2_19).reads (by omega)).mono ?_); rintro e w20 ⟨rfl, hb20⟩)
  have z20 : w19.heap.size ≤ w20.heap.size := hb20.size
  have B20 : Below w.heap.size w w20 := B19.trans (hb20.mono B19.size)
  have cP0_0_20 : w20.cell? ⟨w.heap.size, 0, none⟩ = some (.int .i64 J0) := (hb20.cell (block_lt_of_cell cP0_0_19)).trans cP0_0_19
  have cP0_1_20 : w20.cell? ⟨w.heap.size, 1, none⟩ = some (.slice A0 n0 c0) := (hb20.cell (block_lt_of_cell cP0_1_19)).trans cP0_1_19
  clear cP0_0_19 cP0_1_19
  have cX0_0_20 : w20.cell? ⟨w8.heap.size, 0, none⟩ = some (.int .i64 J0) := (hb20.cell (block_lt_of_cell cX0_0_19)).trans cX0_0_19
  have cX0_1_20 : w20.cell? ⟨w8.heap.size, 1, none⟩ = some (.slice AX0 n0 n0) := (hb20.cell (block_lt_of_cell cX0_1_19)).trans cX0_1_19
  clear cX0_0_19 cX0_1_19
  have SW_20 := SW_19.below hb20 (by omega)
  have SX0_20 := SX0_19.below hb20 (by omega)
  have SX1_20 := SX1_19.below hb20 (by omega)
  have SX2_20 := SX2_19.below hb20 (by omega)
  have SX3_20 := SX3_19.below hb20 (by omega)
  have SG_20 := SG_19.below hb20 (by omega)
  have ST2_20 := ST2_19.below hb20 (by omega)
  go_wp2_with fail; ((with_reducible refine (toInt64S_any A3 n3 c3 xs3 _ ((hr3.below B20).more B20.size) hn3).mono ?_); rintro e w21 ⟨rfl, oT3, hb21⟩)
  have z21 : w20.heap.size ≤ w21.heap.size := hb21.size
  have B21 : Below w.heap.size w w21 := B20.trans (hb21.mono B20.size)
  have cP0_0_21 : w21.cell? ⟨w.heap.size, 0, none⟩ = some (.int .i64 J0) := (hb21.cell (block_lt_of_cell cP0_0_20)).trans cP0_0_20
  have cP0_1_21 : w21.cell? ⟨w.heap.size, 1, none⟩ = some (.slice A0 n0 c0) := (hb21.cell (block_lt_of_cell cP0_1_20)).trans cP0_1_20
  clear cP0_0_20 cP0_1_20
  have cX0_0_21 : w21.cell? ⟨w8.heap.size, 0, none⟩ = some (.int .i64 J0) := (hb21.cell (block_lt_of_cell cX0_0_20)).trans cX0_0_20
  have cX0_1_21 : w21.cell? ⟨w8.heap.size, 1, none⟩ = some (.slice AX0 n0 n0) := (hb21.cell (block_lt_of_cell cX0_1_20)).trans cX0_1_20
  clear cX0_0_20 cX0_1_20
  have SW_21 := SW_20.below hb21 (by omega)
  have SX0_21 := SX0_20.below hb21 (by omega)
  have SX1_21 := SX1_20.below hb21 (by omega)
  have SX2_21 := SX2_20.below hb21 (by omega)
  have SX3_21 := SX3_20.below hb21 (by omega)
  have SG_21 := SG_20.below hb21 (by omega)
  have FT3_21 := own_mk oT3
  have ST3_21 := Same.refl w20.heap.size w21.heap.size w21
  go_wp2_with fail; ((with_reducible refine (eqInt64S_b _ _ n3 n3 n3 xs3 _ (FX3_12.same SX3_21).reads (FT3_21.same ST3_21).reads (by omega)).mono ?_); rintro e w22 ⟨rfl, hb22⟩)
  have z22 : w21.heap.size ≤ w22.heap.size := hb22.size
  have B22 : Below w.heap.size w w22 := B21.trans (hb22.mono B21.size)
  have cP0_0_22 : w22.cell? ⟨w.heap.size, 0, none⟩ = some (.int .i64 J0) := (hb22.cell (block_lt_of_cell cP0_0_21)).trans cP0_0_21
  have cP0_1_22 : w22.cell? ⟨w.heap.size, 1, none⟩ = some (.slice A0 n0 c0) := (hb22.cell (block_lt_of_cell cP0_1_21)).trans cP0_1_21
  clear cP0_0_21 cP0_1_21
  have cX0_0_22 : w22.cell? ⟨w8.heap.size, 0, none⟩ = some (.int .i64 J0) := (hb22.cell (block_lt_of_cell cX0_0_21)).trans cX0_0_21
  have cX0_1_22 : w22.cell? ⟨w8.heap.size, 1, none⟩ = some (.slice AX0 n0 n0) := (hb22.cell (block_lt_of_cell cX0_1_21)).trans cX0_1_21
  clear cX0_0_21 cX0_1_21
  have SW_22 := SW_21.below hb22 (by omega)
  have SX0_22 := SX0_21.below hb22 (by omega)
  have SX1_22 := SX1_21.below hb22 (by omega)
  have SX2_22 := SX2_21.below hb22 (by omega)
  have SX3_22 := SX3_21.below hb22 (by omega)
  have SG_22 := SG_21.below hb22 (by omega)
  have ST3_22 := ST3_21.below hb22 (by omega)
  go_wp2_with fail; ((with_reducible refine (markMine_any J0 AX0 n0 n0 _ (1) _ w22 (FX0_8.same SX0_22).own (by omega) (by omega) (by omega)).mono ?_); rintro e w23 ⟨rfl, hb23⟩)
  have hc23 := Chg.of_grown hb23 (FX0_8.range)
  have z23 : w22.heap.size ≤ w23.heap.size := hc23.size
  have B23 : Below w.heap.size w w23 := below_chg B22 hc23 B7.size B22.size
  have SW_23 := SW_22.chg hc23 (by omega) (Or.inl (by omega))
  have SX1_23 := SX1_22.chg hc23 (by omega) (Or.inr (by omega))
  have SX2_23 := SX2_22.chg hc23 (by omega) (Or.inr (by omega))
  have SX3_23 := SX3_22.chg hc23 (by omega) (Or.inr (by omega))
  have SG_23 := SG_22.chg hc23 (by omega) (Or.inr (by omega))
  have cP0_0_23 : w23.cell? ⟨w.heap.size, 0, none⟩ = some (.int .i64 J0) := hc23.cell cP0_0_22 (Or.inl (by first | (show w.heap.size < _; omega) | (show w.heap.size + _ < _; omega)))
  have cP0_1_23 : w23.cell? ⟨w.heap.size, 1, none⟩ = some (.slice A0 n0 c0) := hc23.cell cP0_1_22 (Or.inl (by first | (show w.heap.size < _; omega) | (show w.heap.size + _ < _; omega)))
  clear cP0_0_22 cP0_1_22
  have cX0_0_23 : w23.cell? ⟨w8.heap.size, 0, none⟩ = some (.int .i64 J0) := hc23.cell cX0_0_22 (Or.inr (Nat.le_refl _))
  have cX0_1_23 : w23.cell? ⟨w8.heap.size, 1, none⟩ = some (.slice AX0 n0 n0) := hc23.cell cX0_1_22 (Or.inr (Nat.le_refl _))
  clear cX0_0_22 cX0_1_22
  go_wp2_with fail; ((with_reducible refine (markInt64S_any (some ⟨(w8.heap.size + 1), 0, none⟩) n1 n1 _ ((1) + 7 * n0) _ w23 (FX1_10.same SX1_23).own (by omega) (by omega) (by omega)).mono ?_); rintro e w24 ⟨rfl, oX124, hb24⟩)
  have hc24 := Chg.of_grown hb24 (FX1_10.range)
  have z24 : w23.heap.size ≤ w24.heap.size := hc24.size
  have B24 : Below w.heap.size w w24 := below_chg B23 hc24 (by omega) B23.size
  have SW_24 := SW_23.chg hc24 (by omega) (Or.inl (by omega))
  have SX2_24 := SX2_23.chg hc24 (by omega) (Or.inr (by omega))
  have SX3_24 := SX3_23.chg hc24 (by omega) (Or.inr (by omega))
  have SG_24 := SG_23.chg hc24 (by omega) (Or.inr (by omega))
  have cP0_0_24 : w24.cell? ⟨w.heap.size, 0, none⟩ = some (.int .i64 J0) := hc24.cell cP0_0_23 (Or.inl (by first | (show w.heap.size < _; omega) | (show w.heap.size + _ < _; omega)))
  have cP0_1_24 : w24.cell? ⟨w.heap.size, 1, none⟩ = some (.slice A0 n0 c0) := hc24.cell cP0_1_23 (Or.inl (by first | (show w.heap.size < _; omega) | (show w.heap.size + _ < _; omega)))
  clear cP0_0_23 cP0_1_23
  have cX0_0_24 : w24.cell? ⟨w8.heap.size, 0, none⟩ = some (.int .i64 J0) := hc24.cell cX0_0_23 (Or.inl (by show w8.heap.size < _; omega))
  have cX0_1_24 : w24.cell? ⟨w8.heap.size, 1, none⟩ = some (.slice AX0 n0 n0) := hc24.cell cX0_1_23 (Or.inl (by show w8.heap.size < _; omega))
  clear cX0_0_23 cX0_1_23
  have FX1_24 : Own w24 (w8.heap.size + 1) w10.heap.size _ _ _ _ _ _ := ⟨oX124, FX1_10.top⟩
  have SX1_24 := Same.refl (w8.heap.size + 1) w10.heap.size w24
  go_wp2_with fail; ((with_reducible refine (markInt64S_any (some ⟨w10.heap.size, 0, none⟩) n2 n2 _ (((1) + 7 * n0) + n1) _ w24 (FX2_11.same SX2_24).own (by omega) (by omega) (by omega)).mono ?_); rintro e w25 ⟨rfl, oX225, hb25⟩)
  have hc25 := Chg.of_grown hb25 (FX2_11.range)
  have z25 : w24.heap.size ≤ w25.heap.size := hc25.size
  have B25 : Below w.heap.size w w25 := below_chg B24 hc25 B10.size B24.size
  have SW_25 := SW_24.chg hc25 (by omega) (Or.inl (by omega))
  have SX3_25 := SX3_24.chg hc25 (by omega) (Or.inr (by omega))
  have SG_25 := SG_24.chg hc25 (by omega) (Or.inr (by omega))
  have cP0_0_25 : w25.cell? ⟨w.heap.size, 0, none⟩ = some (.int .i64 J0) := hc25.cell cP0_0_24 (Or.inl (by first | (show w.heap.size < _; omega) | (show w.heap.size + _ < _; omega)))
  have cP0_1_25 : w25.cell? ⟨w.heap.size, 1, none⟩ = some (.slice A0 n0 c0) := hc25.cell cP0_1_24 (Or.inl (by first | (show w.heap.size < _; omega) | (show w.heap.size + _ < _; omega)))
  clear cP0_0_24 cP0_1_24
  have cX0_0_25 : w25.cell? ⟨w8.heap.size, 0, none⟩ = some (.int .i64 J0) := hc25.cell cX0_0_24 (Or.inl (by show w8.heap.size < _; omega))
  have cX0_1_25 : w25.cell? ⟨w8.heap.size, 1, none⟩ = some (.slice AX0 n0 n0) := hc25.cell cX0_1_24 (Or.inl (by show w8.heap.size < _; omega))
  clear cX0_0_24 cX0_1_24
  have FX2_25 : Own w25 w10.heap.size w11.heap.size _ _ _ _ _ _ := ⟨oX225, FX2_11.top⟩
  have SX2_25 := Same.refl w10.heap.size w11.heap.size w25
  go_wp2_with fail; ((with_reducible refine (markInt64S_any (some ⟨w11.heap.size, 0, none⟩) n3 n3 _ ((((1) + 7 * n0) + n1) + n2) _ w25 (FX3_12.same SX3_25).own (by omega) (by omega) (by omega)).mono ?_); rintro e w26 ⟨rfl, oX326, hb26⟩)
  have hc26 := Chg.of_grown hb26 (FX3_12.range)
  have z26 : w25.heap.size ≤ w26.heap.size := hc26.size
  have B26 : Below w.heap.size w w26 := below_chg B25 hc26 B11.size B25.size
  have SW_26 := SW_25.chg hc26 (by omega) (Or.inl (by omega))
  have SG_26 := SG_25.chg hc26 (by omega) (Or.inr (by omega))
  have cP0_0_26 : w26.cell? ⟨w.heap.size, 0, none⟩ = some (.int .i64 J0) := hc26.cell cP0_0_25 (Or.inl (by first | (show w.heap.size < _; omega) | (show w.heap.size + _ < _; omega)))
  have cP0_1_26 : w26.cell? ⟨w.heap.size, 1, none⟩ = some (.slice A0 n0 c0) := hc26.cell cP0_1_25 (Or.inl (by first | (show w.heap.size < _; omega) | (show w.heap.size + _ < _; omega)))
  clear cP0_0_25 cP0_1_25
  have cX0_0_26 : w26.cell? ⟨w8.heap.size, 0, none⟩ = some (.int .i64 J0) := hc26.cell cX0_0_25 (Or.inl (by show w8.heap.size < _; omega))
  have cX0_1_26 : w26.cell? ⟨w8.heap.size, 1, none⟩ = some (.slice AX0 n0 n0) := hc26.cell cX0_1_25 (Or.inl (by show w8.heap.size < _; omega))
  clear cX0_0_25 cX0_1_25
  have FX3_26 : Own w26 w11.heap.size w12.heap.size _ _ _ _ _ _ := ⟨oX326, FX3_12.top⟩
  have SX3_26 := Same.refl w11.heap.size w12.heap.size w26
  go_wp2_with fail; ((with_reducible refine (eqInt64S_b _ _ nG cG cW _ _ (FG_13.same SG_26).reads (FW_7.same SW_26).reads (by omega)).mono ?_); rintro e w27 ⟨rfl, hb27⟩)
  have z27 : w26.heap.size ≤ w27.heap.size := hb27.size
  have B27 : Below w.heap.size w w27 := B26.trans (hb27.mono B26.size)
  have cP0_0_27 : w27.cell? ⟨w.heap.size, 0, none⟩ = some (.int .i64 J0) := (hb27.cell (block_lt_of_cell cP0_0_26)).trans cP0_0_26
  have cP0_1_27 : w27.cell? ⟨w.heap.size, 1, none⟩ = some (.slice A0 n0 c0) := (hb27.cell (block_lt_of_cell cP0_1_26)).trans cP0_1_26
  clear cP0_0_26 cP0_1_26
  have cX0_0_27 : w27.cell? ⟨w8.heap.size, 0, none⟩ = some (.int .i64 J0) := (hb27.cell (block_lt_of_cell cX0_0_26)).trans cX0_0_26
  have cX0_1_27 : w27.cell? ⟨w8.heap.size, 1, none⟩ = some (.slice AX0 n0 n0) := (hb27.cell (block_lt_of_cell cX0_1_26)).trans cX0_1_26
  clear cX0_0_26 cX0_1_26
  have SW_27 := SW_26.below hb27 (by omega)
  have SG_27 := SG_26.below hb27 (by omega)
  go_wp2_with fail; ((with_reducible refine (markInt64S_any AG nG cG _ (1) _ w27 (FG_13.same SG_27).own (by omega) (by omega) (by omega)).mono ?_); rintro e w28 ⟨rfl, oG28, hb28⟩)
  have hc28 := Chg.of_grown hb28 (FG_13.range)
  have z28 : w27.heap.size ≤ w28.heap.size := hc28.size
  have B28 : Below w.heap.size w w28 := below_chg B27 hc28 B12.size B27.size
  have SW_28 := SW_27.chg hc28 (by omega) (Or.inl (by omega))
  have cP0_0_28 : w28.cell? ⟨w.heap.size, 0, none⟩ = some (.int .i64 J0) := hc28.cell cP0_0_27 (Or.inl (by first | (show w.heap.size < _; omega) | (show w.heap.size + _ < _; omega)))
  have cP0_1_28 : w28.cell? ⟨w.heap.size, 1, none⟩ = some (.slice A0 n0 c0) := hc28.cell cP0_1_27 (Or.inl (by first | (show w.heap.size < _; omega) | (show w.heap.size + _ < _; omega)))
  clear cP0_0_27 cP0_1_27
  have cX0_0_28 : w28.cell? ⟨w8.heap.size, 0, none⟩ = some (.int .i64 J0) := hc28.cell cX0_0_27 (Or.inl (by show w8.heap.size < _; omega))
  have cX0_1_28 : w28.cell? ⟨w8.heap.size, 1, none⟩ = some (.slice AX0 n0 n0) := hc28.cell cX0_1_27 (Or.inl (by show w8.heap.size < _; omega))
  clear cX0_0_27 cX0_1_27
  have FG_28 : Own w28 w12.heap.size w13.heap.size _ _ _ _ _ _ := ⟨oG28, FG_13.top⟩
  have SG_28 := Same.refl w12.heap.size w13.heap.size w28
  go_wp2_with fail; ((with_reducible refine (heldInt64S_any _ nG cG 1 w28 (FG_28.same SG_28).reads (by omega) (by omega) (by omega)).mono ?_); rintro e w' ⟨rfl, rfl⟩)
  go_wp2_with fail; ((with_reducible refine (toMine_any J0 A0 n0 c0 xs0 _ ((hr0.below B28).more B28.size) hn0 HM0.out).mono ?_); rintro e w29 ⟨AU0, rfl, oU0, hb29⟩)
  have z29 : w28.heap.size ≤ w29.heap.size := hb29.size
  have B29 : Below w.heap.size w w29 := B28.trans (hb29.mono B28.size)
  have cP0_0_29 : w29.cell? ⟨w.heap.size, 0, none⟩ = some (.int .i64 J0) := (hb29.cell (block_lt_of_cell cP0_0_28)).trans cP0_0_28
  have cP0_1_29 : w29.cell? ⟨w.heap.size, 1, none⟩ = some (.slice A0 n0 c0) := (hb29.cell (block_lt_of_cell cP0_1_28)).trans cP0_1_28
  clear cP0_0_28 cP0_1_28
  have cX0_0_29 : w29.cell? ⟨w8.heap.size, 0, none⟩ = some (.int .i64 J0) := (hb29.cell (block_lt_of_cell cX0_0_28)).trans cX0_0_28
  have cX0_1_29 : w29.cell? ⟨w8.heap.size, 1, none⟩ = some (.slice AX0 n0 n0) := (hb29.cell (block_lt_of_cell cX0_1_28)).trans cX0_1_28
  clear cX0_0_28 cX0_1_28
  have SW_29 := SW_28.below hb29 (by omega)
  have SG_29 := SG_28.below hb29 (by omega)
  have FU0_29 := own_mk oU0
  have SU0_29 := Same.refl w28.heap.size w29.heap.size w29
  go_wp2_with fail; ((with_reducible refine (toInt64S_any A1 n1 c1 xs1 _ ((hr1.below B29).more B29.size) hn1).mono ?_); rintro e w30 ⟨rfl, oU1, hb30⟩)
  have z30 : w29.heap.size ≤ w30.heap.size := hb30.size
  have B30 : Below w.heap.size w w30 := B29.trans (hb30.mono B29.size)
  have cP0_0_30 : w30.cell? ⟨w.heap.size, 0, none⟩ = some (.int .i64 J0) := (hb30.cell (block_lt_of_cell cP0_0_29)).trans cP0_0_29
  have cP0_1_30 : w30.cell? ⟨w.heap.size, 1, none⟩ = some (.slice A0 n0 c0) := (hb30.cell (block_lt_of_cell cP0_1_29)).trans cP0_1_29
  clear cP0_0_29 cP0_1_29
  have cX0_0_30 : w30.cell? ⟨w8.heap.size, 0, none⟩ = some (.int .i64 J0) := (hb30.cell (block_lt_of_cell cX0_0_29)).trans cX0_0_29
  have cX0_1_30 : w30.cell? ⟨w8.heap.size, 1, none⟩ = some (.slice AX0 n0 n0) := (hb30.cell (block_lt_of_cell cX0_1_29)).trans cX0_1_29
  clear cX0_0_29 cX0_1_29
  have SW_30 := SW_29.below hb30 (by omega)
  have SG_30 := SG_29.below hb30 (by omega)
  have SU0_30 := SU0_29.below hb30 (by omega)
  have FU1_30 := own_mk oU1
  have SU1_30 := Same.refl w29.heap.size w30.heap.size w30
  go_wp2_with fail; ((with_reducible refine (toInt64S_any A2 n2 c2 xs2 _ ((hr2.below B30).more B30.size) hn2).mono ?_); rintro e w31 ⟨rfl, oU2, hb31⟩)
  have z31 : w30.heap.size ≤ w31.heap.size := hb31.size
  have B31 : Below w.heap.size w w31 := B30.trans (hb31.mono B30.size)
  have cP0_0_31 : w31.cell? ⟨w.heap.size, 0, none⟩ = some (.int .i64 J0) := (hb31.cell (block_lt_of_cell cP0_0_30)).trans cP0_0_30
  have cP0_1_31 : w31.cell? ⟨w.heap.size, 1, none⟩ = some (.slice A0 n0 c0) := (hb31.cell (block_lt_of_cell cP0_1_30)).trans cP0_1_30
  clear cP0_0_30 cP0_1_30
  have cX0_0_31 : w31.cell? ⟨w8.heap.size, 0, none⟩ = some (.int .i64 J0) := (hb31.cell (block_lt_of_cell cX0_0_30)).trans cX0_0_30
  have cX0_1_31 : w31.cell? ⟨w8.heap.size, 1, none⟩ = some (.slice AX0 n0 n0) := (hb31.cell (block_lt_of_cell cX0_1_30)).trans cX0_1_30
  clear cX0_0_30 cX0_1_30
  have SW_31 := SW_30.below hb31 (by omega)
  have SG_31 := SG_30.below hb31 (by omega)
  have SU0_31 := SU0_30.below hb31 (by omega)
  have SU1_31 := SU1_30.below hb31 (by omega)
  have FU2_31 := own_mk oU2
  have SU2_31 := Same.refl w30.heap.size w31.heap.size w31
  go_wp2_with fail; ((with_reducible refine (toInt64S_any A3 n3 c3 xs3 _ ((hr3.below B31).more B31.size) hn3).mono ?_); rintro e w32 ⟨rfl, oU3, hb32⟩)
  have z32 : w31.heap.size ≤ w32.heap.size := hb32.size
  have B32 : Below w.heap.size w w32 := B31.trans (hb32.mono B31.size)
  have cP0_0_32 : w32.cell? ⟨w.heap.size, 0, none⟩ = some (.int .i64 J0) := (hb32.cell (block_lt_of_cell cP0_0_31)).trans cP0_0_31
  have cP0_1_32 : w32.cell? ⟨w.heap.size, 1, none⟩ = some (.slice A0 n0 c0) := (hb32.cell (block_lt_of_cell cP0_1_31)).trans cP0_1_31
  clear cP0_0_31 cP0_1_31
  have cX0_0_32 : w32.cell? ⟨w8.heap.size, 0, none⟩ = some (.int .i64 J0) := (hb32.cell (block_lt_of_cell cX0_0_31)).trans cX0_0_31
  have cX0_1_32 : w32.cell? ⟨w8.heap.size, 1, none⟩ = some (.slice AX0 n0 n0) := (hb32.cell (block_lt_of_cell cX0_1_31)).trans cX0_1_31
  clear cX0_0_31 cX0_1_31
  have SW_32 := SW_31.below hb32 (by omega)
  have SG_32 := SG_31.below hb32 (by omega)
  have SU0_32 := SU0_31.below hb32 (by omega)
  have SU1_32 := SU1_31.below hb32 (by omega)
  have SU2_32 := SU2_31.below hb32 (by omega)
  have FU3_32 := own_mk oU3
  have SU3_32 := Same.refl w31.heap.size w32.heap.size w32
  have cc33 := implMeshErrors_any J0 AU0 n0 n0 xs0 (some ⟨w29.heap.size, 0, none⟩) n1 n1 xs1 (some ⟨w30.heap.size, 0, none⟩) n2 n2 xs2 (some ⟨w31.heap.size, 0, none⟩) n3 n3 xs3 w32 (FU0_29.same SU0_32).reads hn0 HM0.out (FU1_30.same SU1_32).reads hn1 (FU2_31.same SU2_32).reads hn2 (FU3_32.same SU3_32).reads hn3
  go_wp2_with fail; ((with_reducible refine (cc33).mono ?_); rintro e w33 ⟨AH, nH, cH, rfl, oH, hnH, hb33⟩)
  have z33 : w32.heap.size ≤ w33.heap.size := hb33.size
  have B33 : Below w.heap.size w w33 := B32.trans (hb33.mono B32.size)
  have cP0_0_33 : w33.cell? ⟨w.heap.size, 0, none⟩ = some (.int .i64 J0) := (hb33.cell (block_lt_of_cell cP0_0_32)).trans cP0_0_32
  have cP0_1_33 : w33.cell? ⟨w.heap.size, 1, none⟩ = some (.slice A0 n0 c0) := (hb33.cell (block_lt_of_cell cP0_1_32)).trans cP0_1_32
  clear cP0_0_32 cP0_1_32
  have cX0_0_33 : w33.cell? ⟨w8.heap.size, 0, none⟩ = some (.int .i64 J0) := (hb33.cell (block_lt_of_cell cX0_0_32)).trans cX0_0_32
  have cX0_1_33 : w33.cell? ⟨w8.heap.size, 1, none⟩ = some (.slice AX0 n0 n0) := (hb33.cell (block_lt_of_cell cX0_1_32)).trans cX0_1_32
  clear cX0_0_32 cX0_1_32
  have SW_33 := SW_32.below hb33 (by omega)
  have SG_33 := SG_32.below hb33 (by omega)
  have SU0_33 := SU0_32.below hb33 (by omega)
  have SU1_33 := SU1_32.below hb33 (by omega)
  have SU2_33 := SU2_32.below hb33 (by omega)
  have SU3_33 := SU3_32.below hb33 (by omega)
  have FH_33 := own_mk oH
  have SH_33 := Same.refl w32.heap.size w33.heap.size w33
  clear cc33
  obtain rfl : nH = nG := by have h1 := FH_33.own.1; have h2 := FW_7.own.1; omega
  go_wp2_with fail; ((with_reducible refine (eqInt64S_b _ _ nH cH cW _ _ (FH_33.same SH_33).reads (FW_7.same SW_33).reads (by omega)).mono ?_); rintro e w34 ⟨rfl, hb34⟩)
  have z34 : w33.heap.size ≤ w34.heap.size := hb34.size
  have B34 : Below w.heap.size w w34 := B33.trans (hb34.mono B33.size)
  have cP0_0_34 : w34.cell? ⟨w.heap.size, 0, none⟩ = some (.int .i64 J0) := (hb34.cell (block_lt_of_cell cP0_0_33)).trans cP0_0_33
  have cP0_1_34 : w34.cell? ⟨w.heap.size, 1, none⟩ = some (.slice A0 n0 c0) := (hb34.cell (block_lt_of_cell cP0_1_33)).trans cP0_1_33
  clear cP0_0_33 cP0_1_33
  have cX0_0_34 : w34.cell? ⟨w8.heap.size, 0, none⟩ = some (.int .i64 J0) := (hb34.cell (block_lt_of_cell cX0_0_33)).trans cX0_0_33
  have cX0_1_34 : w34.cell? ⟨w8.heap.size, 1, none⟩ = some (.slice AX0 n0 n0) := (hb34.cell (block_lt_of_cell cX0_1_33)).trans cX0_1_33
  clear cX0_0_33 cX0_1_33
  have SW_34 := SW_33.below hb34 (by omega)
  have SG_34 := SG_33.below hb34 (by omega)
  have SH_34 := SH_33.below hb34 (by omega)
  go_wp2_with fail; ((with_reducible refine (heldInt64S_any _ nH cG 1 w34 (FG_28.same SG_34).reads (by omega) (by omega) (by omega)).mono ?_); rintro e w' ⟨rfl, rfl⟩)
  go_wp2
  go_ret
  exact ⟨rfl, B34⟩

set_option maxRecDepth 100000 in
theorem lifted (os : Os) (started : os.Started) (H : Type) (enc : TypeId × Value → H) :
    ReturnsInHanded {} Try.checked os 7 .any (Rows.fnExactMeshErrorsSpec.pre6 enc Try.prog Try.f7 Rows.fnExactMeshErrorsRow.domain false) (Rows.fnExactMeshErrorsSpec.post enc Try.prog Try.f7 false true false false) := by
  refine returnsInHanded_of_change (C := Try.checked) own_ started (by kernel_rfl) Try.func7
    (ChangeSpec.witness6 (enc := enc) (C := Try.checked) false ⟨#[], #[.agg #[.int .i64 0, .slice none 0 0], .slice none 0 0, .slice none 0 0, .slice none 0 0], []⟩ 12 (by kernel_rfl) (by kernel_rfl) (by kernel_rfl) (by kernel_rfl)) ?_
  intro W base args ds gs before hval0 hW hcnd _
  have hval : ∀ (j : Nat) t v, Try.f7.params[j]? = some t → args[j]? = some v → Value.okWide Try.prog W .any base t v := hval0
  have hW' := hW
  obtain ⟨p, q, hA0, hV, rfl, hfz, hnd⟩ := hW
  have hA : DataW.TrodAll enc Try.prog W 0 (fun _ => true) true Try.f7.params.toList args.toList ds p := hA0
  rw [Try.params7] at hA hval
  obtain ⟨v0, vs0, d0, ds0, p0, q0, hargs, rfl, rfl, h0, r0⟩ := trodAll_cons hA
  obtain ⟨v1, vs1, d1, ds1, p1, q1, rfl, rfl, rfl, h1, r1⟩ := trodAll_cons r0
  obtain ⟨v2, vs2, d2, ds2, p2, q2, rfl, rfl, rfl, h2, r2⟩ := trodAll_cons r1
  obtain ⟨v3, vs3, d3, ds3, p3, q3, rfl, rfl, rfl, h3, r3⟩ := trodAll_cons r2
  obtain ⟨rfl, rfl, rfl⟩ := trodAll_nil r3
  obtain rfl : args = #[v0, v1, v2, v3] := by cases args; simp_all
  obtain ⟨rfl, rfl⟩ := trodVars_none hV
  obtain ⟨J0, A0, n0, c0, xs0, rfl, lc0, gc0, hr0, hm0⟩ := op_mine Try.underlying24 (by kernel_rfl) (by kernel_rfl) Try.underlying2 Try.underlying22 Try.underlying112 (by kernel_rfl) (by kernel_rfl) Try.underlying9 Try.underlying2 Try.underlying2 Try.underlying2 Try.underlying2 Try.underlying2 Try.underlying2 (hval 0 24 v0 rfl rfl) h0
  obtain ⟨A1, n1, c1, xs1, rfl, lc1, gc1, hr1⟩ := op_ints Try.underlying25 Try.underlying2 (by kernel_rfl) (hval 1 25 v1 rfl rfl) h1
  obtain ⟨A2, n2, c2, xs2, rfl, lc2, gc2, hr2⟩ := op_ints Try.underlying25 Try.underlying2 (by kernel_rfl) (hval 2 25 v2 rfl rfl) h2
  obtain ⟨A3, n3, c3, xs3, rfl, lc3, gc3, hr3⟩ := op_ints Try.underlying25 Try.underlying2 (by kernel_rfl) (hval 3 25 v3 rfl rfl) h3
  clear hA0 hval0
  refine (walk J0 A0 n0 c0 xs0 lc0 gc0 A1 n1 c1 xs1 lc1 gc1 A2 n2 c2 xs2 lc2 gc2 A3 n3 c3 xs3 lc3 gc3 W hr0 hm0 hr1 hr2 hr3).mono fun e W' ⟨he, hb⟩ => ?_
  subst he
  exact ⟨_, rfl, law_post laidOut_ (by kernel_rfl) rfl rfl Try.underlying4 hW' rfl hb⟩

theorem over : Rows.fnExactMeshErrorsRow.holds Try.pinned (OpenSpec.ofChange Rows.fnExactMeshErrorsSpec) :=
  OpenClaim.holds_of_wide 7 Try.f7 rfl rfl rfl rfl rfl rfl rfl ⟨rfl, rfl, rfl, rfl, rfl⟩ rfl rfl rfl rfl rfl (by kernel_rfl) Try.func7 (by kernel_rfl)
    (of_decide_eq_true (by kernel_rfl)) (by unfold Func.isWrapper; first | (rw [if_pos (by decide +kernel)]; kernel_rfl) | (rw [if_neg (by decide +kernel)]; exact ⟨rfl, rfl⟩))
    (fun os started H enc _ => lifted os started H enc)

/-- The statement. -/
theorem proved : Rows.FnExactMeshErrorsSaid := over
#print axioms proved
end Go.Proofs.Ytjmhhbjbmgpagaa.lMeshErrors
