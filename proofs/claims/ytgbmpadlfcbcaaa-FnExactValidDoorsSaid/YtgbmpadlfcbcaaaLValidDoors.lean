/- The law FnExactValidDoors: for all arguments the program's ValidDoors and the reference's return the same; no condition. -/
import Derived.Test.YtgbmpadlfcbcaaaFrame
import Derived.Test.YtgbmpadlfcbcaaaOwn
import Derived.Test.YtgbmpadlfcbcaaaFrR
import Derived.Test.YtgbmpadlfcbcaaaDrsI
namespace Go.Proofs.Ytgbmpadlfcbcaaa.lValidDoors
set_option linter.unusedVariables false
set_option linter.unusedSimpArgs false
open Go.ChangeShapes Go.WideShapes Go.ChangeAt Go.RowKit
set_option maxHeartbeats 4000000 in
theorem walk (J0 : Int) (A0 : Option Addr) (n0 c0 : Nat) (xs0 : List Awy) (lc0 : n0 ≤ c0) (gc0 : c0 ≤ maxLen) (A1 : Option Addr) (n1 c1 : Nat) (xs1 : List Dor) (lc1 : n1 ≤ c1) (gc1 : c1 ≤ maxLen) (w : World) (hr0 : Reads w w.heap.size 7 A0 n0 (Awy.recs xs0)) (hm0 : ∀ x ∈ xs0, x.s.size ≤ maxLen) (hr1 : Reads w w.heap.size 4 A1 n1 (Dor.recs xs1)) (hm1 : ∀ x ∈ xs1, x.s.size ≤ maxLen) :
    Calls Try.prog 6 #[.agg #[.int .i64 J0, .slice A0 n0 c0], .slice A1 n1 c1] w fun e w' => e = .returned (.bool true) ∧ Below w.heap.size w w' := by
  have HM0 := Lib.hid hm0
  clear hm0
  have HM1 := Lib.hid hm1
  clear hm1
  have t0 := sumN_nonneg Awy.len xs0
  by_cases hN0 : 1048576 < ((n0 : Int) + sumN Awy.len xs0)
  ·  -- too large
    have HN0 := Lib.hid hN0
    have z1 : w.heap.size + 1 ≤ (w.alloc (.cells #[.int .i64 J0, .slice A0 n0 c0] 24)).heap.size := by simp
    have B1 : Below w.heap.size w (w.alloc (.cells #[.int .i64 J0, .slice A0 n0 c0] 24)) := (Below.refl _ _).alloc (Nat.le_refl _) _
    have cP0_0_1 : (w.alloc (.cells #[.int .i64 J0, .slice A0 n0 c0] 24)).cell? ⟨w.heap.size, 0, none⟩ = some (.int .i64 J0) := ((Blk.new w 24 #[.int .i64 J0, .slice A0 n0 c0]).cell 0).trans rfl
    have cP0_1_1 : (w.alloc (.cells #[.int .i64 J0, .slice A0 n0 c0] 24)).cell? ⟨w.heap.size, 1, none⟩ = some (.slice A0 n0 c0) := ((Blk.new w 24 #[.int .i64 J0, .slice A0 n0 c0]).cell 1).trans rfl
    go_enter Try.func6, Try.ntmps6
    have sc0 := szMine_any J0 A0 n0 c0 xs0 (1048576) (w.alloc (.cells #[.int .i64 J0, .slice A0 n0 c0] 24)) ((hr0.below B1).more B1.size) (by omega) (by omega) (by omega) HM0.out
    rw [szI_n (l := 1048576) (s := ((n0 : Int) + sumN Awy.len xs0)) (by omega)] at sc0
    go_wp2_with fail; ((with_reducible refine sc0.mono ?_); rintro e w2 ⟨rfl, hb2⟩)
    clear sc0
    have z2 : (w.alloc (.cells #[.int .i64 J0, .slice A0 n0 c0] 24)).heap.size ≤ w2.heap.size := hb2.size
    have B2 : Below w.heap.size w w2 := B1.trans (hb2.mono B1.size)
    have cP0_0_2 : w2.cell? ⟨w.heap.size, 0, none⟩ = some (.int .i64 J0) := (hb2.cell (block_lt_of_cell cP0_0_1)).trans cP0_0_1
    have cP0_1_2 : w2.cell? ⟨w.heap.size, 1, none⟩ = some (.slice A0 n0 c0) := (hb2.cell (block_lt_of_cell cP0_1_1)).trans cP0_1_1
    clear cP0_0_1 cP0_1_1
    go_wp2
    go_ret
    exact ⟨rfl, B2⟩
  have HY0 := Lib.hid hN0
  have t1 := sumN_nonneg Dor.len xs1
  by_cases hN1 : 1048576 - ((n0 : Int) + sumN Awy.len xs0) < ((n1 : Int) + sumN Dor.len xs1)
  ·  -- too large
    have HN1 := Lib.hid hN1
    have z1 : w.heap.size + 1 ≤ (w.alloc (.cells #[.int .i64 J0, .slice A0 n0 c0] 24)).heap.size := by simp
    have B1 : Below w.heap.size w (w.alloc (.cells #[.int .i64 J0, .slice A0 n0 c0] 24)) := (Below.refl _ _).alloc (Nat.le_refl _) _
    have cP0_0_1 : (w.alloc (.cells #[.int .i64 J0, .slice A0 n0 c0] 24)).cell? ⟨w.heap.size, 0, none⟩ = some (.int .i64 J0) := ((Blk.new w 24 #[.int .i64 J0, .slice A0 n0 c0]).cell 0).trans rfl
    have cP0_1_1 : (w.alloc (.cells #[.int .i64 J0, .slice A0 n0 c0] 24)).cell? ⟨w.heap.size, 1, none⟩ = some (.slice A0 n0 c0) := ((Blk.new w 24 #[.int .i64 J0, .slice A0 n0 c0]).cell 1).trans rfl
    go_enter Try.func6, Try.ntmps6
    have sc0 := szMine_any J0 A0 n0 c0 xs0 (1048576) (w.alloc (.cells #[.int .i64 J0, .slice A0 n0 c0] 24)) ((hr0.below B1).more B1.size) (by omega) (by omega) (by omega) HM0.out
    rw [szI_y (l := 1048576) (s := ((n0 : Int) + sumN Awy.len xs0)) (by omega)] at sc0
    go_wp2_with fail; ((with_reducible refine sc0.mono ?_); rintro e w2 ⟨rfl, hb2⟩)
    clear sc0
    have z2 : (w.alloc (.cells #[.int .i64 J0, .slice A0 n0 c0] 24)).heap.size ≤ w2.heap.size := hb2.size
    have B2 : Below w.heap.size w w2 := B1.trans (hb2.mono B1.size)
    have cP0_0_2 : w2.cell? ⟨w.heap.size, 0, none⟩ = some (.int .i64 J0) := (hb2.cell (block_lt_of_cell cP0_0_1)).trans cP0_0_1
    have cP0_1_2 : w2.cell? ⟨w.heap.size, 1, none⟩ = some (.slice A0 n0 c0) := (hb2.cell (block_lt_of_cell cP0_1_1)).trans cP0_1_1
    clear cP0_0_1 cP0_1_1
    have sc1 := szDorS_any A1 n1 c1 xs1 (1048576 - ((n0 : Int) + sumN Awy.len xs0)) w2 ((hr1.below B2).more B2.size) (by omega) (by omega) (by omega) HM1.out
    rw [szI_n (l := 1048576 - ((n0 : Int) + sumN Awy.len xs0)) (s := ((n1 : Int) + sumN Dor.len xs1)) (by omega)] at sc1
    go_wp2_with fail; ((with_reducible refine sc1.mono ?_); rintro e w3 ⟨rfl, hb3⟩)
    clear sc1
    have z3 : w2.heap.size ≤ w3.heap.size := hb3.size
    have B3 : Below w.heap.size w w3 := B2.trans (hb3.mono B2.size)
    have cP0_0_3 : w3.cell? ⟨w.heap.size, 0, none⟩ = some (.int .i64 J0) := (hb3.cell (block_lt_of_cell cP0_0_2)).trans cP0_0_2
    have cP0_1_3 : w3.cell? ⟨w.heap.size, 1, none⟩ = some (.slice A0 n0 c0) := (hb3.cell (block_lt_of_cell cP0_1_2)).trans cP0_1_2
    clear cP0_0_2 cP0_1_2
    go_wp2
    go_ret
    exact ⟨rfl, B3⟩
  have HY1 := Lib.hid hN1
  have hn0 : n0 ≤ 1048576 := by omega
  have hn1 : n1 ≤ 1048576 := by omega
  have z1 : w.heap.size + 1 ≤ (w.alloc (.cells #[.int .i64 J0, .slice A0 n0 c0] 24)).heap.size := by simp
  have B1 : Below w.heap.size w (w.alloc (.cells #[.int .i64 J0, .slice A0 n0 c0] 24)) := (Below.refl _ _).alloc (Nat.le_refl _) _
  have cP0_0_1 : (w.alloc (.cells #[.int .i64 J0, .slice A0 n0 c0] 24)).cell? ⟨w.heap.size, 0, none⟩ = some (.int .i64 J0) := ((Blk.new w 24 #[.int .i64 J0, .slice A0 n0 c0]).cell 0).trans rfl
  have cP0_1_1 : (w.alloc (.cells #[.int .i64 J0, .slice A0 n0 c0] 24)).cell? ⟨w.heap.size, 1, none⟩ = some (.slice A0 n0 c0) := ((Blk.new w 24 #[.int .i64 J0, .slice A0 n0 c0]).cell 1).trans rfl
  go_enter Try.func6, Try.ntmps6
  have sc0 := szMine_any J0 A0 n0 c0 xs0 (1048576) (w.alloc (.cells #[.int .i64 J0, .slice A0 n0 c0] 24)) ((hr0.below B1).more B1.size) (by omega) (by omega) (by omega) HM0.out
  rw [szI_y (l := 1048576) (s := ((n0 : Int) + sumN Awy.len xs0)) (by omega)] at sc0
  go_wp2_with fail; ((with_reducible refine sc0.mono ?_); rintro e w2 ⟨rfl, hb2⟩)
  clear sc0
  have z2 : (w.alloc (.cells #[.int .i64 J0, .slice A0 n0 c0] 24)).heap.size ≤ w2.heap.size := hb2.size
  have B2 : Below w.heap.size w w2 := B1.trans (hb2.mono B1.size)
  have cP0_0_2 : w2.cell? ⟨w.heap.size, 0, none⟩ = some (.int .i64 J0) := (hb2.cell (block_lt_of_cell cP0_0_1)).trans cP0_0_1
  have cP0_1_2 : w2.cell? ⟨w.heap.size, 1, none⟩ = some (.slice A0 n0 c0) := (hb2.cell (block_lt_of_cell cP0_1_1)).trans cP0_1_1
  clear cP0_0_1 cP0_1_1
  have sc1 := szDorS_any A1 n1 c1 xs1 (1048576 - ((n0 : Int) + sumN Awy.len xs0)) w2 ((hr1.below B2).more B2.size) (by omega) (by omega) (by omega) HM1.out
  rw [szI_y (l := 1048576 - ((n0 : Int) + sumN Awy.len xs0)) (s := ((n1 : Int) + sumN Dor.len xs1)) (by omega)] at sc1
  go_wp2_with fail; ((with_reducible refine sc1.mono ?_); rintro e w3 ⟨rfl, hb3⟩)
  clear sc1
  have z3 : w2.heap.size ≤ w3.heap.size := hb3.size
  have B3 : Below w.heap.size w w3 := B2.trans (hb3.mono B2.size)
  have cP0_0_3 : w3.cell? ⟨w.heap.size, 0, none⟩ = some (.int .i64 J0) := (hb3.cell (block_lt_of_cell cP0_0_2)).trans cP0_0_2
  have cP0_1_3 : w3.cell? ⟨w.heap.size, 1, none⟩ = some (.slice A0 n0 c0) := (hb3.cell (block_lt_of_cell cP0_1_2)).trans cP0_1_2
  clear cP0_0_2 cP0_1_2
  go_wp2_with fail; ((with_reducible refine (toMine_any J0 A0 n0 c0 xs0 _ ((hr0.below B3).more B3.size) hn0 HM0.out).mono ?_); rintro e w4 ⟨AS0, rfl, oS0, hb4⟩)
  have z4 : w3.heap.size ≤ w4.heap.size := hb4.size
  have B4 : Below w.heap.size w w4 := B3.trans (hb4.mono B3.size)
  have cP0_0_4 : w4.cell? ⟨w.heap.size, 0, none⟩ = some (.int .i64 J0) := (hb4.cell (block_lt_of_cell cP0_0_3)).trans cP0_0_3
  have cP0_1_4 : w4.cell? ⟨w.heap.size, 1, none⟩ = some (.slice A0 n0 c0) := (hb4.cell (block_lt_of_cell cP0_1_3)).trans cP0_1_3
  clear cP0_0_3 cP0_1_3
  have FS0_4 := own_mk oS0
  have SS0_4 := Same.refl w3.heap.size w4.heap.size w4
  go_wp2_with fail; ((with_reducible refine (toDorS_any A1 n1 c1 xs1 _ ((hr1.below B4).more B4.size) hn1 HM1.out).mono ?_); rintro e w5 ⟨rfl, oS1, hb5⟩)
  have z5 : w4.heap.size ≤ w5.heap.size := hb5.size
  have B5 : Below w.heap.size w w5 := B4.trans (hb5.mono B4.size)
  have cP0_0_5 : w5.cell? ⟨w.heap.size, 0, none⟩ = some (.int .i64 J0) := (hb5.cell (block_lt_of_cell cP0_0_4)).trans cP0_0_4
  have cP0_1_5 : w5.cell? ⟨w.heap.size, 1, none⟩ = some (.slice A0 n0 c0) := (hb5.cell (block_lt_of_cell cP0_1_4)).trans cP0_1_4
  clear cP0_0_4 cP0_1_4
  have SS0_5 := SS0_4.below hb5 (by omega)
  have FS1_5 := own_mk oS1
  have SS1_5 := Same.refl w4.heap.size w5.heap.size w5
  have cc6 := specValidDoors_any J0 AS0 n0 n0 xs0 (some ⟨w4.heap.size, 0, none⟩) n1 n1 xs1 w5 (FS0_4.same SS0_5).reads hn0 HM0.out (FS1_5.same SS1_5).reads hn1 HM1.out
  go_wp2_with fail; ((with_reducible refine (cc6).mono ?_); rintro e w6 ⟨rfl, hb6⟩)
  have z6 : w5.heap.size ≤ w6.heap.size := hb6.size
  have B6 : Below w.heap.size w w6 := B5.trans (hb6.mono B5.size)
  have cP0_0_6 : w6.cell? ⟨w.heap.size, 0, none⟩ = some (.int .i64 J0) := (hb6.cell (block_lt_of_cell cP0_0_5)).trans cP0_0_5
  have cP0_1_6 : w6.cell? ⟨w.heap.size, 1, none⟩ = some (.slice A0 n0 c0) := (hb6.cell (block_lt_of_cell cP0_1_5)).trans cP0_1_5
  clear cP0_0_5 cP0_1_5
  have SS0_6 := SS0_5.below hb6 (by omega)
  have SS1_6 := SS1_5.below hb6 (by omega)
  clear cc6
  go_wp2_with fail; ((with_reducible refine (toMine_any J0 A0 n0 c0 xs0 _ ((hr0.below B6).more B6.size) hn0 HM0.out).mono ?_); rintro e w7 ⟨AX0, rfl, oX0, hb7⟩)
  have z7 : w6.heap.size ≤ w7.heap.size := hb7.size
  have B7 : Below w.heap.size w w7 := B6.trans (hb7.mono B6.size)
  have cP0_0_7 : w7.cell? ⟨w.heap.size, 0, none⟩ = some (.int .i64 J0) := (hb7.cell (block_lt_of_cell cP0_0_6)).trans cP0_0_6
  have cP0_1_7 : w7.cell? ⟨w.heap.size, 1, none⟩ = some (.slice A0 n0 c0) := (hb7.cell (block_lt_of_cell cP0_1_6)).trans cP0_1_6
  clear cP0_0_6 cP0_1_6
  have FX0_7 := own_mk oX0
  have SX0_7 := Same.refl w6.heap.size w7.heap.size w7
  -- its box
  have z8 : w7.heap.size + 1 ≤ (w7.alloc (.cells #[.int .i64 J0, .slice AX0 n0 n0] 31)).heap.size := by simp
  have B8 : Below w.heap.size w (w7.alloc (.cells #[.int .i64 J0, .slice AX0 n0 n0] 31)) := B7.alloc B7.size _
  have cP0_0_8 : (w7.alloc (.cells #[.int .i64 J0, .slice AX0 n0 n0] 31)).cell? ⟨w.heap.size, 0, none⟩ = some (.int .i64 J0) := (World.cell?_alloc_lt _ _ _ (block_lt_of_cell cP0_0_7)).trans cP0_0_7
  have cP0_1_8 : (w7.alloc (.cells #[.int .i64 J0, .slice AX0 n0 n0] 31)).cell? ⟨w.heap.size, 1, none⟩ = some (.slice A0 n0 c0) := (World.cell?_alloc_lt _ _ _ (block_lt_of_cell cP0_1_7)).trans cP0_1_7
  clear cP0_0_7 cP0_1_7
  have cX0_0_8 : (w7.alloc (.cells #[.int .i64 J0, .slice AX0 n0 n0] 31)).cell? ⟨w7.heap.size, 0, none⟩ = some (.int .i64 J0) := ((Blk.new w7 31 #[.int .i64 J0, .slice AX0 n0 n0]).cell 0).trans rfl
  have cX0_1_8 : (w7.alloc (.cells #[.int .i64 J0, .slice AX0 n0 n0] 31)).cell? ⟨w7.heap.size, 1, none⟩ = some (.slice AX0 n0 n0) := ((Blk.new w7 31 #[.int .i64 J0, .slice AX0 n0 n0]).cell 1).trans rfl
  have SX0_8 := SX0_7.below (show Below w7.heap.size w7 (w7.alloc (.cells #[.int .i64 J0, .slice AX0 n0 n0] 31)) from (Below.refl _ _).alloc (Nat.le_refl _) _) (by omega)
  go_wp2_with fail; ((with_reducible refine (toDorS_any A1 n1 c1 xs1 _ ((hr1.below B8).more B8.size) hn1 HM1.out).mono ?_); rintro e w9 ⟨rfl, oX1, hb9⟩)
  have z9 : (w7.alloc (.cells #[.int .i64 J0, .slice AX0 n0 n0] 31)).heap.size ≤ w9.heap.size := hb9.size
  have B9 : Below w.heap.size w w9 := B8.trans (hb9.mono B8.size)
  have cP0_0_9 : w9.cell? ⟨w.heap.size, 0, none⟩ = some (.int .i64 J0) := (hb9.cell (block_lt_of_cell cP0_0_8)).trans cP0_0_8
  have cP0_1_9 : w9.cell? ⟨w.heap.size, 1, none⟩ = some (.slice A0 n0 c0) := (hb9.cell (block_lt_of_cell cP0_1_8)).trans cP0_1_8
  clear cP0_0_8 cP0_1_8
  have cX0_0_9 : w9.cell? ⟨w7.heap.size, 0, none⟩ = some (.int .i64 J0) := (hb9.cell (block_lt_of_cell cX0_0_8)).trans cX0_0_8
  have cX0_1_9 : w9.cell? ⟨w7.heap.size, 1, none⟩ = some (.slice AX0 n0 n0) := (hb9.cell (block_lt_of_cell cX0_1_8)).trans cX0_1_8
  clear cX0_0_8 cX0_1_8
  have SX0_9 := SX0_8.below hb9 (by omega)
  rw [show (w7.alloc (.cells #[.int .i64 J0, .slice AX0 n0 n0] 31)).heap.size = (w7.heap.size + 1) by simp] at oX1
  have FX1_9 := own_mk oX1
  have SX1_9 := Same.refl (w7.heap.size + 1) w9.heap.size w9
  have cc10 := implValidDoors_any J0 AX0 n0 n0 xs0 (some ⟨(w7.heap.size + 1), 0, none⟩) n1 n1 xs1 w9 (FX0_7.same SX0_9).reads hn0 HM0.out (FX1_9.same SX1_9).reads hn1 HM1.out
  go_wp2_with fail; ((with_reducible refine (cc10).mono ?_); rintro e w10 ⟨rfl, hb10⟩)
  have z10 : w9.heap.size ≤ w10.heap.size := hb10.size
  have B10 : Below w.heap.size w w10 := B9.trans (hb10.mono B9.size)
  have cP0_0_10 : w10.cell? ⟨w.heap.size, 0, none⟩ = some (.int .i64 J0) := (hb10.cell (block_lt_of_cell cP0_0_9)).trans cP0_0_9
  have cP0_1_10 : w10.cell? ⟨w.heap.size, 1, none⟩ = some (.slice A0 n0 c0) := (hb10.cell (block_lt_of_cell cP0_1_9)).trans cP0_1_9
  clear cP0_0_9 cP0_1_9
  have cX0_0_10 : w10.cell? ⟨w7.heap.size, 0, none⟩ = some (.int .i64 J0) := (hb10.cell (block_lt_of_cell cX0_0_9)).trans cX0_0_9
  have cX0_1_10 : w10.cell? ⟨w7.heap.size, 1, none⟩ = some (.slice AX0 n0 n0) := (hb10.cell (block_lt_of_cell cX0_1_9)).trans cX0_1_9
  clear cX0_0_9 cX0_1_9
  have SX0_10 := SX0_9.below hb10 (by omega)
  have SX1_10 := SX1_9.below hb10 (by omega)
  clear cc10
  have RDT0 := (hr0.below (below_drew B10)).more (below_drew B10).size
  have HZT0 : w7.heap.size ≤ w10.drew.heap.size := by show _ ≤ w10.heap.size; omega
  go_wp2_with fail
  go_region_held3 (fun w' => w'.cell? ⟨w.heap.size, 0, none⟩ = some (.int .i64 J0) ∧ w'.cell? ⟨w.heap.size, 1, none⟩ = some (.slice A0 n0 c0) ∧ w'.cell? ⟨w7.heap.size, 0, none⟩ = some (.int .i64 J0) ∧ w'.cell? ⟨w7.heap.size, 1, none⟩ = some (.slice AX0 n0 n0))
    (first | go_keep | (exact ⟨(hb11.cell (block_lt_of_cell cP0_0_10)).trans cP0_0_10, (hb11.cell (block_lt_of_cell cP0_1_10)).trans cP0_1_10, (hb11.cell (block_lt_of_cell cX0_0_10)).trans cX0_0_10, (hb11.cell (block_lt_of_cell cX0_1_10)).trans cX0_1_10⟩) | (exact ⟨(hb12.cell (block_lt_of_cell ((hb11.cell (block_lt_of_cell cP0_0_10)).trans cP0_0_10))).trans ((hb11.cell (block_lt_of_cell cP0_0_10)).trans cP0_0_10), (hb12.cell (block_lt_of_cell ((hb11.cell (block_lt_of_cell cP0_1_10)).trans cP0_1_10))).trans ((hb11.cell (block_lt_of_cell cP0_1_10)).trans cP0_1_10), (hb12.cell (block_lt_of_cell ((hb11.cell (block_lt_of_cell cX0_0_10)).trans cX0_0_10))).trans ((hb11.cell (block_lt_of_cell cX0_0_10)).trans cX0_0_10), (hb12.cell (block_lt_of_cell ((hb11.cell (block_lt_of_cell cX0_1_10)).trans cX0_1_10))).trans ((hb11.cell (block_lt_of_cell cX0_1_10)).trans cX0_1_10)⟩))
    ((first | (go_at_call 19; (with_reducible refine (eqMine_b J0 _ _ n0 n0 n0 xs0 _ (FX0_7.same ((SX0_10.drew).below hb11 HZT0)).reads (own_mk oT0).reads (by omega)).mono ?_); rintro e w12 ⟨rfl, hb12⟩) | (go_at_call 16; (with_reducible refine (toMine_any J0 A0 n0 c0 xs0 _ RDT0 hn0 HM0.out).mono ?_); rintro e w11 ⟨AT0, rfl, oT0, hb11⟩)))
  replace hb11 : Below w10.heap.size w10 w11 := below_undrew hb11
  have z11 : w10.heap.size ≤ w11.heap.size := hb11.size
  have B11 : Below w.heap.size w w11 := B10.trans (hb11.mono B10.size)
  have cP0_0_11 : w11.cell? ⟨w.heap.size, 0, none⟩ = some (.int .i64 J0) := (hb11.cell (block_lt_of_cell cP0_0_10)).trans cP0_0_10
  have cP0_1_11 : w11.cell? ⟨w.heap.size, 1, none⟩ = some (.slice A0 n0 c0) := (hb11.cell (block_lt_of_cell cP0_1_10)).trans cP0_1_10
  clear cP0_0_10 cP0_1_10
  have cX0_0_11 : w11.cell? ⟨w7.heap.size, 0, none⟩ = some (.int .i64 J0) := (hb11.cell (block_lt_of_cell cX0_0_10)).trans cX0_0_10
  have cX0_1_11 : w11.cell? ⟨w7.heap.size, 1, none⟩ = some (.slice AX0 n0 n0) := (hb11.cell (block_lt_of_cell cX0_1_10)).trans cX0_1_10
  clear cX0_0_10 cX0_1_10
  have SX0_11 := SX0_10.below hb11 (by omega)
  have SX1_11 := SX1_10.below hb11 (by omega)
  have z12 : w11.heap.size ≤ w12.heap.size := hb12.size
  have B12 : Below w.heap.size w w12 := B11.trans (hb12.mono B11.size)
  have cP0_0_12 : w12.cell? ⟨w.heap.size, 0, none⟩ = some (.int .i64 J0) := (hb12.cell (block_lt_of_cell cP0_0_11)).trans cP0_0_11
  have cP0_1_12 : w12.cell? ⟨w.heap.size, 1, none⟩ = some (.slice A0 n0 c0) := (hb12.cell (block_lt_of_cell cP0_1_11)).trans cP0_1_11
  clear cP0_0_11 cP0_1_11
  have cX0_0_12 : w12.cell? ⟨w7.heap.size, 0, none⟩ = some (.int .i64 J0) := (hb12.cell (block_lt_of_cell cX0_0_11)).trans cX0_0_11
  have cX0_1_12 : w12.cell? ⟨w7.heap.size, 1, none⟩ = some (.slice AX0 n0 n0) := (hb12.cell (block_lt_of_cell cX0_1_11)).trans cX0_1_11
  clear cX0_0_11 cX0_1_11
  have SX0_12 := SX0_11.below hb12 (by omega)
  have SX1_12 := SX1_11.below hb12 (by omega)
  go_wp2_with fail; ((with_reducible refine (toDorS_any A1 n1 c1 xs1 _ ((hr1.below B12).more B12.size) hn1 HM1.out).mono ?_); rintro e w13 ⟨rfl, oT1, hb13⟩)
  have z13 : w12.heap.size ≤ w13.heap.size := hb13.size
  have B13 : Below w.heap.size w w13 := B12.trans (hb13.mono B12.size)
  have cP0_0_13 : w13.cell? ⟨w.heap.size, 0, none⟩ = some (.int .i64 J0) := (hb13.cell (block_lt_of_cell cP0_0_12)).trans cP0_0_12
  have cP0_1_13 : w13.cell? ⟨w.heap.size, 1, none⟩ = some (.slice A0 n0 c0) := (hb13.cell (block_lt_of_cell cP0_1_12)).trans cP0_1_12
  clear cP0_0_12 cP0_1_12
  have cX0_0_13 : w13.cell? ⟨w7.heap.size, 0, none⟩ = some (.int .i64 J0) := (hb13.cell (block_lt_of_cell cX0_0_12)).trans cX0_0_12
  have cX0_1_13 : w13.cell? ⟨w7.heap.size, 1, none⟩ = some (.slice AX0 n0 n0) := (hb13.cell (block_lt_of_cell cX0_1_12)).trans cX0_1_12
  clear cX0_0_12 cX0_1_12
  have SX1_13 := SX1_12.below hb13 (by omega)
  have FT1_13 := own_mk oT1
  have ST1_13 := Same.refl w12.heap.size w13.heap.size w13
  go_wp2_with fail; ((with_reducible refine (eqDorS_b _ _ n1 n1 n1 xs1 _ (FX1_9.same SX1_13).reads (FT1_13.same ST1_13).reads (by omega)).mono ?_); rintro e w14 ⟨rfl, hb14⟩)
  have z14 : w13.heap.size ≤ w14.heap.size := hb14.size
  have B14 : Below w.heap.size w w14 := B13.trans (hb14.mono B13.size)
  have cP0_0_14 : w14.cell? ⟨w.heap.size, 0, none⟩ = some (.int .i64 J0) := (hb14.cell (block_lt_of_cell cP0_0_13)).trans cP0_0_13
  have cP0_1_14 : w14.cell? ⟨w.heap.size, 1, none⟩ = some (.slice A0 n0 c0) := (hb14.cell (block_lt_of_cell cP0_1_13)).trans cP0_1_13
  clear cP0_0_13 cP0_1_13
  have cX0_0_14 : w14.cell? ⟨w7.heap.size, 0, none⟩ = some (.int .i64 J0) := (hb14.cell (block_lt_of_cell cX0_0_13)).trans cX0_0_13
  have cX0_1_14 : w14.cell? ⟨w7.heap.size, 1, none⟩ = some (.slice AX0 n0 n0) := (hb14.cell (block_lt_of_cell cX0_1_13)).trans cX0_1_13
  clear cX0_0_13 cX0_1_13
  have SX1_14 := SX1_13.below hb14 (by omega)
  have ST1_14 := ST1_13.below hb14 (by omega)
  go_wp2
  go_ret
  exact ⟨rfl, B14⟩

set_option maxRecDepth 100000 in
theorem lifted (os : Os) (started : os.Started) (H : Type) (enc : TypeId × Value → H) :
    ReturnsInHanded {} Try.checked os 6 .any (Rows.fnExactValidDoorsSpec.pre6 enc Try.prog Try.f6 Rows.fnExactValidDoorsRow.domain false) (Rows.fnExactValidDoorsSpec.post enc Try.prog Try.f6 false true false false) := by
  refine returnsInHanded_of_change (C := Try.checked) own_ started (by kernel_rfl) Try.func6
    (ChangeSpec.witness6 (enc := enc) (C := Try.checked) false ⟨#[], #[.agg #[.int .i64 0, .slice none 0 0], .slice none 0 0], []⟩ 12 (by kernel_rfl) (by kernel_rfl) (by kernel_rfl) (by kernel_rfl)) ?_
  intro W base args ds gs before hval0 hW hcnd _
  have hval : ∀ (j : Nat) t v, Try.f6.params[j]? = some t → args[j]? = some v → Value.okWide Try.prog W .any base t v := hval0
  have hW' := hW
  obtain ⟨p, q, hA0, hV, rfl, hfz, hnd⟩ := hW
  have hA : DataW.TrodAll enc Try.prog W 0 (fun _ => true) true Try.f6.params.toList args.toList ds p := hA0
  rw [Try.params6] at hA hval
  obtain ⟨v0, vs0, d0, ds0, p0, q0, hargs, rfl, rfl, h0, r0⟩ := trodAll_cons hA
  obtain ⟨v1, vs1, d1, ds1, p1, q1, rfl, rfl, rfl, h1, r1⟩ := trodAll_cons r0
  obtain ⟨rfl, rfl, rfl⟩ := trodAll_nil r1
  obtain rfl : args = #[v0, v1] := by cases args; simp_all
  obtain ⟨rfl, rfl⟩ := trodVars_none hV
  obtain ⟨J0, A0, n0, c0, xs0, rfl, lc0, gc0, hr0, hm0⟩ := op_mine Try.underlying24 (by kernel_rfl) (by kernel_rfl) Try.underlying2 Try.underlying22 Try.underlying107 (by kernel_rfl) (by kernel_rfl) Try.underlying9 Try.underlying2 Try.underlying2 Try.underlying2 Try.underlying2 Try.underlying2 Try.underlying2 (hval 0 24 v0 rfl rfl) h0
  obtain ⟨A1, n1, c1, xs1, rfl, lc1, gc1, hr1, hm1⟩ := op_dorsS Try.underlying41 Try.underlying85 (by kernel_rfl) (by kernel_rfl) Try.underlying9 Try.underlying2 Try.underlying2 Try.underlying2 (hval 1 41 v1 rfl rfl) h1
  clear hA0 hval0
  refine (walk J0 A0 n0 c0 xs0 lc0 gc0 A1 n1 c1 xs1 lc1 gc1 W hr0 hm0 hr1 hm1).mono fun e W' ⟨he, hb⟩ => ?_
  subst he
  exact ⟨_, rfl, law_post laidOut_ (by kernel_rfl) rfl rfl Try.underlying4 hW' rfl hb⟩

theorem over : Rows.fnExactValidDoorsRow.holds Try.pinned (OpenSpec.ofChange Rows.fnExactValidDoorsSpec) :=
  OpenClaim.holds_of_wide 6 Try.f6 rfl rfl rfl rfl rfl rfl rfl ⟨rfl, rfl, rfl, rfl, rfl⟩ rfl rfl rfl rfl rfl (by kernel_rfl) Try.func6 (by kernel_rfl)
    (of_decide_eq_true (by kernel_rfl)) (by unfold Func.isWrapper; first | (rw [if_pos (by decide +kernel)]; kernel_rfl) | (rw [if_neg (by decide +kernel)]; exact ⟨rfl, rfl⟩))
    (fun os started H enc _ => lifted os started H enc)

/-- The statement. -/
theorem proved : Rows.FnExactValidDoorsSaid := over
#print axioms proved
end Go.Proofs.Ytgbmpadlfcbcaaa.lValidDoors
