/- The law FnExactFlowsOfMeshes: for all arguments the program's FlowsOfMeshes and the reference's return the same, and the result shares no memory with an argument or with the result of another call; no condition. -/
import Derived.Test.YtjmhhbjbmgpagaaMgA
import Derived.Test.YtjmhhbjbmgpagaaMgB
import Derived.Test.YtjmhhbjbmgpagaaMgC
import Derived.Test.YtjmhhbjbmgpagaaMgE
import Derived.Test.YtjmhhbjbmgpagaaMgI
namespace Go.Proofs.Ytjmhhbjbmgpagaa.lFlowsOfMeshes
set_option linter.unusedVariables false
set_option linter.unusedSimpArgs false
open Go.ChangeShapes Go.WideShapes Go.ChangeAt Go.RowKit
set_option maxHeartbeats 4000000 in
set_option maxRecDepth 100000 in
theorem walk (J0 : Int) (A0 : Option Addr) (n0 c0 : Nat) (xs0 : List Awy) (lc0 : n0 ≤ c0) (gc0 : c0 ≤ maxLen) (A1 : Option Addr) (n1 c1 : Nat) (xs1 : List Int) (lc1 : n1 ≤ c1) (gc1 : c1 ≤ maxLen) (w : World) (hr0 : Reads w w.heap.size 7 A0 n0 (Awy.recs xs0)) (hm0 : ∀ x ∈ xs0, x.s.size ≤ maxLen) (hr1 : Reads w w.heap.size 1 A1 n1 (ints xs1)) :
    Calls Try.prog 4 #[.agg #[.int .i64 J0, .slice A0 n0 c0], .slice A1 n1 c1] w fun e w' => e = .returned (.bool true) ∧ Below w.heap.size w w' := by
  have HM0 := Lib.hid hm0
  clear hm0
  by_cases big1 : 1048576 < n1
  · go_enter Try.func4, Try.ntmps4
    go_wp2
    go_ret
    exact ⟨rfl, by (repeat (first | exact Below.refl _ _ | assumption | (refine Below.alloc ?_ (by first | exact Nat.le_refl _ | (simp; done) | (simp; omega)) _) | (refine below_drewN ?_ _) | (refine Below.trans ?_ (Below.mono (by assumption) (by first | exact Nat.le_refl _ | (simp; done) | (simp; omega) | omega)))))⟩
  have hn1 : n1 ≤ 1048576 := by omega
  have t0 := sumN_nonneg Awy.len xs0
  by_cases hN0 : 1048576 < ((n0 : Int) + sumN Awy.len xs0)
  ·  -- too large
    have HN0 := Lib.hid hN0
    have z1 : w.heap.size + 1 ≤ (w.alloc (.cells #[.int .i64 J0, .slice A0 n0 c0] 24)).heap.size := by simp
    have B1 : Below w.heap.size w (w.alloc (.cells #[.int .i64 J0, .slice A0 n0 c0] 24)) := (Below.refl _ _).alloc (Nat.le_refl _) _
    have cP0_0_1 : (w.alloc (.cells #[.int .i64 J0, .slice A0 n0 c0] 24)).cell? ⟨w.heap.size, 0, none⟩ = some (.int .i64 J0) := ((Blk.new w 24 #[.int .i64 J0, .slice A0 n0 c0]).cell 0).trans rfl
    have cP0_1_1 : (w.alloc (.cells #[.int .i64 J0, .slice A0 n0 c0] 24)).cell? ⟨w.heap.size, 1, none⟩ = some (.slice A0 n0 c0) := ((Blk.new w 24 #[.int .i64 J0, .slice A0 n0 c0]).cell 1).trans rfl
    go_enter Try.func4, Try.ntmps4
    have sc0 := szMine_any J0 A0 n0 c0 xs0 (1048576) (w.alloc (.cells #[.int .i64 J0, .slice A0 n0 c0] 24)) ((hr0.below B1).more B1.size) (by omega) (by omega) (by omega) HM0.out
    rw [szI_n (l := 1048576) (s := ((n0 : Int) + sumN Awy.len xs0)) (by omega)] at sc0
    go_wp2_with fail; ((with_reducible refine sc0.mono ?_); rintro e w2 ⟨rfl, hb2⟩)
    clear sc0
    have z2 : (w.alloc (.cells #[.int .i64 J0, .slice A0 n0 c0] 24)).heap.size ≤ w2.heap.size := hb2.size
    have B2 : Below w.heap.size w w2 := B1.trans (hb2.mono B1.size)
    have cP0_0_2 : w2.cell? ⟨w.heap.size, 0, none⟩ = some (.int .i64 J0) := (hb2.cell (block_lt_of_cell cP0_0_1)).trans cP0_0_1
    have cP0_1_2 : w2.cell? ⟨w.heap.size, 1, none⟩ = some (.slice A0 n0 c0) := (hb2.cell (block_lt_of_cell cP0_1_1)).trans cP0_1_1
    clear cP0_0_1 cP0_1_1
    go_wp2
    go_ret
    exact ⟨rfl, B2⟩
  have HY0 := Lib.hid hN0
  have hn0 : n0 ≤ 1048576 := by omega
  have z1 : w.heap.size + 1 ≤ (w.alloc (.cells #[.int .i64 J0, .slice A0 n0 c0] 24)).heap.size := by simp
  have B1 : Below w.heap.size w (w.alloc (.cells #[.int .i64 J0, .slice A0 n0 c0] 24)) := (Below.refl _ _).alloc (Nat.le_refl _) _
  have cP0_0_1 : (w.alloc (.cells #[.int .i64 J0, .slice A0 n0 c0] 24)).cell? ⟨w.heap.size, 0, none⟩ = some (.int .i64 J0) := ((Blk.new w 24 #[.int .i64 J0, .slice A0 n0 c0]).cell 0).trans rfl
  have cP0_1_1 : (w.alloc (.cells #[.int .i64 J0, .slice A0 n0 c0] 24)).cell? ⟨w.heap.size, 1, none⟩ = some (.slice A0 n0 c0) := ((Blk.new w 24 #[.int .i64 J0, .slice A0 n0 c0]).cell 1).trans rfl
  go_enter Try.func4, Try.ntmps4
  have sc0 := szMine_any J0 A0 n0 c0 xs0 (1048576) (w.alloc (.cells #[.int .i64 J0, .slice A0 n0 c0] 24)) ((hr0.below B1).more B1.size) (by omega) (by omega) (by omega) HM0.out
  rw [szI_y (l := 1048576) (s := ((n0 : Int) + sumN Awy.len xs0)) (by omega)] at sc0
  go_wp2_with fail; ((with_reducible refine sc0.mono ?_); rintro e w2 ⟨rfl, hb2⟩)
  clear sc0
  have z2 : (w.alloc (.cells #[.int .i64 J0, .slice A0 n0 c0] 24)).heap.size ≤ w2.heap.size := hb2.size
  have B2 : Below w.heap.size w w2 := B1.trans (hb2.mono B1.size)
  have cP0_0_2 : w2.cell? ⟨w.heap.size, 0, none⟩ = some (.int .i64 J0) := (hb2.cell (block_lt_of_cell cP0_0_1)).trans cP0_0_1
  have cP0_1_2 : w2.cell? ⟨w.heap.size, 1, none⟩ = some (.slice A0 n0 c0) := (hb2.cell (block_lt_of_cell cP0_1_1)).trans cP0_1_1
  clear cP0_0_1 cP0_1_1
  go_wp2_with fail; ((with_reducible refine (toMine_any J0 A0 n0 c0 xs0 _ ((hr0.below B2).more B2.size) hn0 HM0.out).mono ?_); rintro e w3 ⟨AS0, rfl, oS0, hb3⟩)
  have z3 : w2.heap.size ≤ w3.heap.size := hb3.size
  have B3 : Below w.heap.size w w3 := B2.trans (hb3.mono B2.size)
  have cP0_0_3 : w3.cell? ⟨w.heap.size, 0, none⟩ = some (.int .i64 J0) := (hb3.cell (block_lt_of_cell cP0_0_2)).trans cP0_0_2
  have cP0_1_3 : w3.cell? ⟨w.heap.size, 1, none⟩ = some (.slice A0 n0 c0) := (hb3.cell (block_lt_of_cell cP0_1_2)).trans cP0_1_2
  clear cP0_0_2 cP0_1_2
  have FS0_3 := own_mk oS0
  have SS0_3 := Same.refl w2.heap.size w3.heap.size w3
  go_wp2_with fail; ((with_reducible refine (toInt64S_any A1 n1 c1 xs1 _ ((hr1.below B3).more B3.size) hn1).mono ?_); rintro e w4 ⟨rfl, oS1, hb4⟩)
  have z4 : w3.heap.size ≤ w4.heap.size := hb4.size
  have B4 : Below w.heap.size w w4 := B3.trans (hb4.mono B3.size)
  have cP0_0_4 : w4.cell? ⟨w.heap.size, 0, none⟩ = some (.int .i64 J0) := (hb4.cell (block_lt_of_cell cP0_0_3)).trans cP0_0_3
  have cP0_1_4 : w4.cell? ⟨w.heap.size, 1, none⟩ = some (.slice A0 n0 c0) := (hb4.cell (block_lt_of_cell cP0_1_3)).trans cP0_1_3
  clear cP0_0_3 cP0_1_3
  have SS0_4 := SS0_3.below hb4 (by omega)
  have FS1_4 := own_mk oS1
  have SS1_4 := Same.refl w3.heap.size w4.heap.size w4
  have cc5 := specFlowsOfMeshes_any J0 AS0 n0 n0 xs0 (some ⟨w3.heap.size, 0, none⟩) n1 n1 xs1 w4 (FS0_3.same SS0_4).reads hn0 HM0.out (FS1_4.same SS1_4).reads hn1
  go_wp2_with fail; ((with_reducible refine (cc5).mono ?_); rintro e w5 ⟨AW, nW, cW, rfl, oW, hnW, hb5⟩)
  have z5 : w4.heap.size ≤ w5.heap.size := hb5.size
  have B5 : Below w.heap.size w w5 := B4.trans (hb5.mono B4.size)
  have cP0_0_5 : w5.cell? ⟨w.heap.size, 0, none⟩ = some (.int .i64 J0) := (hb5.cell (block_lt_of_cell cP0_0_4)).trans cP0_0_4
  have cP0_1_5 : w5.cell? ⟨w.heap.size, 1, none⟩ = some (.slice A0 n0 c0) := (hb5.cell (block_lt_of_cell cP0_1_4)).trans cP0_1_4
  clear cP0_0_4 cP0_1_4
  have SS0_5 := SS0_4.below hb5 (by omega)
  have SS1_5 := SS1_4.below hb5 (by omega)
  have FW_5 := own_mk oW
  have SW_5 := Same.refl w4.heap.size w5.heap.size w5
  clear cc5
  go_wp2_with fail; ((with_reducible refine (toMine_any J0 A0 n0 c0 xs0 _ ((hr0.below B5).more B5.size) hn0 HM0.out).mono ?_); rintro e w6 ⟨AX0, rfl, oX0, hb6⟩)
  have z6 : w5.heap.size ≤ w6.heap.size := hb6.size
  have B6 : Below w.heap.size w w6 := B5.trans (hb6.mono B5.size)
  have cP0_0_6 : w6.cell? ⟨w.heap.size, 0, none⟩ = some (.int .i64 J0) := (hb6.cell (block_lt_of_cell cP0_0_5)).trans cP0_0_5
  have cP0_1_6 : w6.cell? ⟨w.heap.size, 1, none⟩ = some (.slice A0 n0 c0) := (hb6.cell (block_lt_of_cell cP0_1_5)).trans cP0_1_5
  clear cP0_0_5 cP0_1_5
  have SW_6 := SW_5.below hb6 (by omega)
  have FX0_6 := own_mk oX0
  have SX0_6 := Same.refl w5.heap.size w6.heap.size w6
  -- its box
  have z7 : w6.heap.size + 1 ≤ (w6.alloc (.cells #[.int .i64 J0, .slice AX0 n0 n0] 31)).heap.size := by simp
  have B7 : Below w.heap.size w (w6.alloc (.cells #[.int .i64 J0, .slice AX0 n0 n0] 31)) := B6.alloc B6.size _
  have cP0_0_7 : (w6.alloc (.cells #[.int .i64 J0, .slice AX0 n0 n0] 31)).cell? ⟨w.heap.size, 0, none⟩ = some (.int .i64 J0) := (World.cell?_alloc_lt _ _ _ (block_lt_of_cell cP0_0_6)).trans cP0_0_6
  have cP0_1_7 : (w6.alloc (.cells #[.int .i64 J0, .slice AX0 n0 n0] 31)).cell? ⟨w.heap.size, 1, none⟩ = some (.slice A0 n0 c0) := (World.cell?_alloc_lt _ _ _ (block_lt_of_cell cP0_1_6)).trans cP0_1_6
  clear cP0_0_6 cP0_1_6
  have cX0_0_7 : (w6.alloc (.cells #[.int .i64 J0, .slice AX0 n0 n0] 31)).cell? ⟨w6.heap.size, 0, none⟩ = some (.int .i64 J0) := ((Blk.new w6 31 #[.int .i64 J0, .slice AX0 n0 n0]).cell 0).trans rfl
  have cX0_1_7 : (w6.alloc (.cells #[.int .i64 J0, .slice AX0 n0 n0] 31)).cell? ⟨w6.heap.size, 1, none⟩ = some (.slice AX0 n0 n0) := ((Blk.new w6 31 #[.int .i64 J0, .slice AX0 n0 n0]).cell 1).trans rfl
  have SW_7 := SW_6.below (show Below w6.heap.size w6 (w6.alloc (.cells #[.int .i64 J0, .slice AX0 n0 n0] 31)) from (Below.refl _ _).alloc (Nat.le_refl _) _) (by omega)
  have SX0_7 := SX0_6.below (show Below w6.heap.size w6 (w6.alloc (.cells #[.int .i64 J0, .slice AX0 n0 n0] 31)) from (Below.refl _ _).alloc (Nat.le_refl _) _) (by omega)
  go_wp2_with fail; ((with_reducible refine (toInt64S_any A1 n1 c1 xs1 _ ((hr1.below B7).more B7.size) hn1).mono ?_); rintro e w8 ⟨rfl, oX1, hb8⟩)
  have z8 : (w6.alloc (.cells #[.int .i64 J0, .slice AX0 n0 n0] 31)).heap.size ≤ w8.heap.size := hb8.size
  have B8 : Below w.heap.size w w8 := B7.trans (hb8.mono B7.size)
  have cP0_0_8 : w8.cell? ⟨w.heap.size, 0, none⟩ = some (.int .i64 J0) := (hb8.cell (block_lt_of_cell cP0_0_7)).trans cP0_0_7
  have cP0_1_8 : w8.cell? ⟨w.heap.size, 1, none⟩ = some (.slice A0 n0 c0) := (hb8.cell (block_lt_of_cell cP0_1_7)).trans cP0_1_7
  clear cP0_0_7 cP0_1_7
  have cX0_0_8 : w8.cell? ⟨w6.heap.size, 0, none⟩ = some (.int .i64 J0) := (hb8.cell (block_lt_of_cell cX0_0_7)).trans cX0_0_7
  have cX0_1_8 : w8.cell? ⟨w6.heap.size, 1, none⟩ = some (.slice AX0 n0 n0) := (hb8.cell (block_lt_of_cell cX0_1_7)).trans cX0_1_7
  clear cX0_0_7 cX0_1_7
  have SW_8 := SW_7.below hb8 (by omega)
  have SX0_8 := SX0_7.below hb8 (by omega)
  rw [show (w6.alloc (.cells #[.int .i64 J0, .slice AX0 n0 n0] 31)).heap.size = (w6.heap.size + 1) by simp] at oX1
  have FX1_8 := own_mk oX1
  have SX1_8 := Same.refl (w6.heap.size + 1) w8.heap.size w8
  have cc9 := implFlowsOfMeshes_any J0 AX0 n0 n0 xs0 (some ⟨(w6.heap.size + 1), 0, none⟩) n1 n1 xs1 w8 (FX0_6.same SX0_8).reads hn0 HM0.out (FX1_8.same SX1_8).reads hn1
  go_wp2_with fail; ((with_reducible refine (cc9).mono ?_); rintro e w9 ⟨AG, nG, cG, rfl, oG, hnG, hb9⟩)
  have z9 : w8.heap.size ≤ w9.heap.size := hb9.size
  have B9 : Below w.heap.size w w9 := B8.trans (hb9.mono B8.size)
  have cP0_0_9 : w9.cell? ⟨w.heap.size, 0, none⟩ = some (.int .i64 J0) := (hb9.cell (block_lt_of_cell cP0_0_8)).trans cP0_0_8
  have cP0_1_9 : w9.cell? ⟨w.heap.size, 1, none⟩ = some (.slice A0 n0 c0) := (hb9.cell (block_lt_of_cell cP0_1_8)).trans cP0_1_8
  clear cP0_0_8 cP0_1_8
  have cX0_0_9 : w9.cell? ⟨w6.heap.size, 0, none⟩ = some (.int .i64 J0) := (hb9.cell (block_lt_of_cell cX0_0_8)).trans cX0_0_8
  have cX0_1_9 : w9.cell? ⟨w6.heap.size, 1, none⟩ = some (.slice AX0 n0 n0) := (hb9.cell (block_lt_of_cell cX0_1_8)).trans cX0_1_8
  clear cX0_0_8 cX0_1_8
  have SW_9 := SW_8.below hb9 (by omega)
  have SX0_9 := SX0_8.below hb9 (by omega)
  have SX1_9 := SX1_8.below hb9 (by omega)
  have FG_9 := own_mk oG
  have SG_9 := Same.refl w8.heap.size w9.heap.size w9
  clear cc9
  obtain rfl : nG = nW := by have h1 := FG_9.own.1; have h2 := FW_5.own.1; omega
  go_wp2_with fail; ((with_reducible refine (eqInt64S_b _ _ nG cG cW _ _ (FG_9.same SG_9).reads (FW_5.same SW_9).reads (by omega)).mono ?_); rintro e w10 ⟨rfl, hb10⟩)
  have z10 : w9.heap.size ≤ w10.heap.size := hb10.size
  have B10 : Below w.heap.size w w10 := B9.trans (hb10.mono B9.size)
  have cP0_0_10 : w10.cell? ⟨w.heap.size, 0, none⟩ = some (.int .i64 J0) := (hb10.cell (block_lt_of_cell cP0_0_9)).trans cP0_0_9
  have cP0_1_10 : w10.cell? ⟨w.heap.size, 1, none⟩ = some (.slice A0 n0 c0) := (hb10.cell (block_lt_of_cell cP0_1_9)).trans cP0_1_9
  clear cP0_0_9 cP0_1_9
  have cX0_0_10 : w10.cell? ⟨w6.heap.size, 0, none⟩ = some (.int .i64 J0) := (hb10.cell (block_lt_of_cell cX0_0_9)).trans cX0_0_9
  have cX0_1_10 : w10.cell? ⟨w6.heap.size, 1, none⟩ = some (.slice AX0 n0 n0) := (hb10.cell (block_lt_of_cell cX0_1_9)).trans cX0_1_9
  clear cX0_0_9 cX0_1_9
  have SW_10 := SW_9.below hb10 (by omega)
  have SX0_10 := SX0_9.below hb10 (by omega)
  have SX1_10 := SX1_9.below hb10 (by omega)
  have SG_10 := SG_9.below hb10 (by omega)
  have RDT0 := (hr0.below (below_drew B10)).more (below_drew B10).size
  have HZT0 : w6.heap.size ≤ w10.drew.heap.size := by show _ ≤ w10.heap.size; omega
  go_wp2_with fail
  go_region_held3 (fun w' => w'.cell? ⟨w.heap.size, 0, none⟩ = some (.int .i64 J0) ∧ w'.cell? ⟨w.heap.size, 1, none⟩ = some (.slice A0 n0 c0) ∧ w'.cell? ⟨w6.heap.size, 0, none⟩ = some (.int .i64 J0) ∧ w'.cell? ⟨w6.heap.size, 1, none⟩ = some (.slice AX0 n0 n0))
    (first | go_keep | (exact ⟨(hb11.cell (block_lt_of_cell cP0_0_10)).trans cP0_0_10, (hb11.cell (block_lt_of_cell cP0_1_10)).trans cP0_1_10, (hb11.cell (block_lt_of_cell cX0_0_10)).trans cX0_0_10, (hb11.cell (block_lt_of_cell cX0_1_10)).trans cX0_1_10⟩) | (exact ⟨(hb12.cell (block_lt_of_cell ((hb11.cell (block_lt_of_cell cP0_0_10)).trans cP0_0_10))).trans ((hb11.cell (block_lt_of_cell cP0_0_10)).trans cP0_0_10), (hb12.cell (block_lt_of_cell ((hb11.cell (block_lt_of_cell cP0_1_10)).trans cP0_1_10))).trans ((hb11.cell (block_lt_of_cell cP0_1_10)).trans cP0_1_10), (hb12.cell (block_lt_of_cell ((hb11.cell (block_lt_of_cell cX0_0_10)).trans cX0_0_10))).trans ((hb11.cell (block_lt_of_cell cX0_0_10)).trans cX0_0_10), (hb12.cell (block_lt_of_cell ((hb11.cell (block_lt_of_cell cX0_1_10)).trans cX0_1_10))).trans ((hb11.cell (block_lt_of_cell cX0_1_10)).trans cX0_1_10)⟩))
    ((first | (go_at_call 15; (with_reducible refine (eqMine_b J0 _ _ n0 n0 n0 xs0 _ (FX0_6.same ((SX0_10.drew).below hb11 HZT0)).reads (own_mk oT0).reads (by omega)).mono ?_); rintro e w12 ⟨rfl, hb12⟩) | (go_at_call 12; (with_reducible refine (toMine_any J0 A0 n0 c0 xs0 _ RDT0 hn0 HM0.out).mono ?_); rintro e w11 ⟨AT0, rfl, oT0, hb11⟩)))
  replace hb11 : Below w10.heap.size w10 w11 := below_undrew hb11
  have z11 : w10.heap.size ≤ w11.heap.size := hb11.size
  have B11 : Below w.heap.size w w11 := B10.trans (hb11.mono B10.size)
  have cP0_0_11 : w11.cell? ⟨w.heap.size, 0, none⟩ = some (.int .i64 J0) := (hb11.cell (block_lt_of_cell cP0_0_10)).trans cP0_0_10
  have cP0_1_11 : w11.cell? ⟨w.heap.size, 1, none⟩ = some (.slice A0 n0 c0) := (hb11.cell (block_lt_of_cell cP0_1_10)).trans cP0_1_10
  clear cP0_0_10 cP0_1_10
  have cX0_0_11 : w11.cell? ⟨w6.heap.size, 0, none⟩ = some (.int .i64 J0) := (hb11.cell (block_lt_of_cell cX0_0_10)).trans cX0_0_10
  have cX0_1_11 : w11.cell? ⟨w6.heap.size, 1, none⟩ = some (.slice AX0 n0 n0) := (hb11.cell (block_lt_of_cell cX0_1_10)).trans cX0_1_10
  clear cX0_0_10 cX0_1_10
  have SW_11 := SW_10.below hb11 (by omega)
  have SX0_11 := SX0_10.below hb11 (by omega)
  have SX1_11 := SX1_10.below hb11 (by omega)
  have SG_11 := SG_10.below hb11 (by omega)
  have z12 : w11.heap.size ≤ w12.heap.size := hb12.size
  have B12 : Below w.heap.size w w12 := B11.trans (hb12.mono B11.size)
  have cP0_0_12 : w12.cell? ⟨w.heap.size, 0, none⟩ = some (.int .i64 J0) := (hb12.cell (block_lt_of_cell cP0_0_11)).trans cP0_0_11
  have cP0_1_12 : w12.cell? ⟨w.heap.size, 1, none⟩ = some (.slice A0 n0 c0) := (hb12.cell (block_lt_of_cell cP0_1_11)).trans cP0_1_11
  clear cP0_0_11 cP0_1_11
  have cX0_0_12 : w12.cell? ⟨w6.heap.size, 0, none⟩ = some (.int .i64 J0) := (hb12.cell (block_lt_of_cell cX0_0_11)).trans cX0_0_11
  have cX0_1_12 : w12.cell? ⟨w6.heap.size, 1, none⟩ = some (.slice AX0 n0 n0) := (hb12.cell (block_lt_of_cell cX0_1_11)).trans cX0_1_11
  clear cX0_0_11 cX0_1_11
  have SW_12 := SW_11.below hb12 (by omega)
  have SX0_12 := SX0_11.below hb12 (by omega)
  have SX1_12 := SX1_11.below hb12 (by omega)
  have SG_12 := SG_11.below hb12 (by omega)
  go_wp2_with fail; ((with_reducible refine (toInt64S_any A1 n1 c1 xs1 _ ((hr1.below B12).more B12.size) hn1).mono ?_); rintro e w13 ⟨rfl, oT1, hb13⟩)
  have z13 : w12.heap.size ≤ w13.heap.size := hb13.size
  have B13 : Below w.heap.size w w13 := B12.trans (hb13.mono B12.size)
  have cP0_0_13 : w13.cell? ⟨w.heap.size, 0, none⟩ = some (.int .i64 J0) := (hb13.cell (block_lt_of_cell cP0_0_12)).trans cP0_0_12
  have cP0_1_13 : w13.cell? ⟨w.heap.size, 1, none⟩ = some (.slice A0 n0 c0) := (hb13.cell (block_lt_of_cell cP0_1_12)).trans cP0_1_12
  clear cP0_0_12 cP0_1_12
  have cX0_0_13 : w13.cell? ⟨w6.heap.size, 0, none⟩ = some (.int .i64 J0) := (hb13.cell (block_lt_of_cell cX0_0_12)).trans cX0_0_12
  have cX0_1_13 : w13.cell? ⟨w6.heap.size, 1, none⟩ = some (.slice AX0 n0 n0) := (hb13.cell (block_lt_of_cell cX0_1_12)).trans cX0_1_12
  clear cX0_0_12 cX0_1_12
  have SW_13 := SW_12.below hb13 (by omega)
  have SX0_13 := SX0_12.below hb13 (by omega)
  have SX1_13 := SX1_12.below hb13 (by omega)
  have SG_13 := SG_12.below hb13 (by omega)
  have FT1_13 := own_mk oT1
  have ST1_13 := Same.refl w12.heap.size w13.heap.size w13
  go_wp2_with fail; ((with_reducible refine (eqInt64S_b _ _ n1 n1 n1 xs1 _ (FX1_8.same SX1_13).reads (FT1_13.same ST1_13).reads (by omega)).mono ?_); rintro e w14 ⟨rfl, hb14⟩)
  have z14 : w13.heap.size ≤ w14.heap.size := hb14.size
  have B14 : Below w.heap.size w w14 := B13.trans (hb14.mono B13.size)
  have cP0_0_14 : w14.cell? ⟨w.heap.size, 0, none⟩ = some (.int .i64 J0) := (hb14.cell (block_lt_of_cell cP0_0_13)).trans cP0_0_13
  have cP0_1_14 : w14.cell? ⟨w.heap.size, 1, none⟩ = some (.slice A0 n0 c0) := (hb14.cell (block_lt_of_cell cP0_1_13)).trans cP0_1_13
  clear cP0_0_13 cP0_1_13
  have cX0_0_14 : w14.cell? ⟨w6.heap.size, 0, none⟩ = some (.int .i64 J0) := (hb14.cell (block_lt_of_cell cX0_0_13)).trans cX0_0_13
  have cX0_1_14 : w14.cell? ⟨w6.heap.size, 1, none⟩ = some (.slice AX0 n0 n0) := (hb14.cell (block_lt_of_cell cX0_1_13)).trans cX0_1_13
  clear cX0_0_13 cX0_1_13
  have SW_14 := SW_13.below hb14 (by omega)
  have SX0_14 := SX0_13.below hb14 (by omega)
  have SX1_14 := SX1_13.below hb14 (by omega)
  have SG_14 := SG_13.below hb14 (by omega)
  have ST1_14 := ST1_13.below hb14 (by omega)
  go_wp2_with fail; ((with_reducible refine (markMine_any J0 AX0 n0 n0 _ (1) _ w14 (FX0_6.same SX0_14).own (by omega) (by omega) (by omega)).mono ?_); rintro e w15 ⟨rfl, hb15⟩)
  have hc15 := Chg.of_grown hb15 (FX0_6.range)
  have z15 : w14.heap.size ≤ w15.heap.size := hc15.size
  have B15 : Below w.heap.size w w15 := below_chg B14 hc15 B5.size B14.size
  have SW_15 := SW_14.chg hc15 (by omega) (Or.inl (by omega))
  have SX1_15 := SX1_14.chg hc15 (by omega) (Or.inr (by omega))
  have SG_15 := SG_14.chg hc15 (by omega) (Or.inr (by omega))
  have cP0_0_15 : w15.cell? ⟨w.heap.size, 0, none⟩ = some (.int .i64 J0) := hc15.cell cP0_0_14 (Or.inl (by first | (show w.heap.size < _; omega) | (show w.heap.size + _ < _; omega)))
  have cP0_1_15 : w15.cell? ⟨w.heap.size, 1, none⟩ = some (.slice A0 n0 c0) := hc15.cell cP0_1_14 (Or.inl (by first | (show w.heap.size < _; omega) | (show w.heap.size + _ < _; omega)))
  clear cP0_0_14 cP0_1_14
  have cX0_0_15 : w15.cell? ⟨w6.heap.size, 0, none⟩ = some (.int .i64 J0) := hc15.cell cX0_0_14 (Or.inr (Nat.le_refl _))
  have cX0_1_15 : w15.cell? ⟨w6.heap.size, 1, none⟩ = some (.slice AX0 n0 n0) := hc15.cell cX0_1_14 (Or.inr (Nat.le_refl _))
  clear cX0_0_14 cX0_1_14
  go_wp2_with fail; ((with_reducible refine (markInt64S_any (some ⟨(w6.heap.size + 1), 0, none⟩) n1 n1 _ ((1) + 7 * n0) _ w15 (FX1_8.same SX1_15).own (by omega) (by omega) (by omega)).mono ?_); rintro e w16 ⟨rfl, oX116, hb16⟩)
  have hc16 := Chg.of_grown hb16 (FX1_8.range)
  have z16 : w15.heap.size ≤ w16.heap.size := hc16.size
  have B16 : Below w.heap.size w w16 := below_chg B15 hc16 (by omega) B15.size
  have SW_16 := SW_15.chg hc16 (by omega) (Or.inl (by omega))
  have SG_16 := SG_15.chg hc16 (by omega) (Or.inr (by omega))
  have cP0_0_16 : w16.cell? ⟨w.heap.size, 0, none⟩ = some (.int .i64 J0) := hc16.cell cP0_0_15 (Or.inl (by first | (show w.heap.size < _; omega) | (show w.heap.size + _ < _; omega)))
  have cP0_1_16 : w16.cell? ⟨w.heap.size, 1, none⟩ = some (.slice A0 n0 c0) := hc16.cell cP0_1_15 (Or.inl (by first | (show w.heap.size < _; omega) | (show w.heap.size + _ < _; omega)))
  clear cP0_0_15 cP0_1_15
  have cX0_0_16 : w16.cell? ⟨w6.heap.size, 0, none⟩ = some (.int .i64 J0) := hc16.cell cX0_0_15 (Or.inl (by show w6.heap.size < _; omega))
  have cX0_1_16 : w16.cell? ⟨w6.heap.size, 1, none⟩ = some (.slice AX0 n0 n0) := hc16.cell cX0_1_15 (Or.inl (by show w6.heap.size < _; omega))
  clear cX0_0_15 cX0_1_15
  have FX1_16 : Own w16 (w6.heap.size + 1) w8.heap.size _ _ _ _ _ _ := ⟨oX116, FX1_8.top⟩
  have SX1_16 := Same.refl (w6.heap.size + 1) w8.heap.size w16
  go_wp2_with fail; ((with_reducible refine (eqInt64S_b _ _ nG cG cW _ _ (FG_9.same SG_16).reads (FW_5.same SW_16).reads (by omega)).mono ?_); rintro e w17 ⟨rfl, hb17⟩)
  have z17 : w16.heap.size ≤ w17.heap.size := hb17.size
  have B17 : Below w.heap.size w w17 := B16.trans (hb17.mono B16.size)
  have cP0_0_17 : w17.cell? ⟨w.heap.size, 0, none⟩ = some (.int .i64 J0) := (hb17.cell (block_lt_of_cell cP0_0_16)).trans cP0_0_16
  have cP0_1_17 : w17.cell? ⟨w.heap.size, 1, none⟩ = some (.slice A0 n0 c0) := (hb17.cell (block_lt_of_cell cP0_1_16)).trans cP0_1_16
  clear cP0_0_16 cP0_1_16
  have cX0_0_17 : w17.cell? ⟨w6.heap.size, 0, none⟩ = some (.int .i64 J0) := (hb17.cell (block_lt_of_cell cX0_0_16)).trans cX0_0_16
  have cX0_1_17 : w17.cell? ⟨w6.heap.size, 1, none⟩ = some (.slice AX0 n0 n0) := (hb17.cell (block_lt_of_cell cX0_1_16)).trans cX0_1_16
  clear cX0_0_16 cX0_1_16
  have SW_17 := SW_16.below hb17 (by omega)
  have SG_17 := SG_16.below hb17 (by omega)
  go_wp2_with fail; ((with_reducible refine (markInt64S_any AG nG cG _ (1) _ w17 (FG_9.same SG_17).own (by omega) (by omega) (by omega)).mono ?_); rintro e w18 ⟨rfl, oG18, hb18⟩)
  have hc18 := Chg.of_grown hb18 (FG_9.range)
  have z18 : w17.heap.size ≤ w18.heap.size := hc18.size
  have B18 : Below w.heap.size w w18 := below_chg B17 hc18 B8.size B17.size
  have SW_18 := SW_17.chg hc18 (by omega) (Or.inl (by omega))
  have cP0_0_18 : w18.cell? ⟨w.heap.size, 0, none⟩ = some (.int .i64 J0) := hc18.cell cP0_0_17 (Or.inl (by first | (show w.heap.size < _; omega) | (show w.heap.size + _ < _; omega)))
  have cP0_1_18 : w18.cell? ⟨w.heap.size, 1, none⟩ = some (.slice A0 n0 c0) := hc18.cell cP0_1_17 (Or.inl (by first | (show w.heap.size < _; omega) | (show w.heap.size + _ < _; omega)))
  clear cP0_0_17 cP0_1_17
  have cX0_0_18 : w18.cell? ⟨w6.heap.size, 0, none⟩ = some (.int .i64 J0) := hc18.cell cX0_0_17 (Or.inl (by show w6.heap.size < _; omega))
  have cX0_1_18 : w18.cell? ⟨w6.heap.size, 1, none⟩ = some (.slice AX0 n0 n0) := hc18.cell cX0_1_17 (Or.inl (by show w6.heap.size < _; omega))
  clear cX0_0_17 cX0_1_17
  have FG_18 : Own w18 w8.heap.size w9.heap.size _ _ _ _ _ _ := ⟨oG18, FG_9.top⟩
  have SG_18 := Same.refl w8.heap.size w9.heap.size w18
  go_wp2_with fail; ((with_reducible refine (heldInt64S_any _ nG cG 1 w18 (FG_18.same SG_18).reads (by omega) (by omega) (by omega)).mono ?_); rintro e w' ⟨rfl, rfl⟩)
  go_wp2_with fail; ((with_reducible refine (toMine_any J0 A0 n0 c0 xs0 _ ((hr0.below B18).more B18.size) hn0 HM0.out).mono ?_); rintro e w19 ⟨AU0, rfl, oU0, hb19⟩)
  have z19 : w18.heap.size ≤ w19.heap.size := hb19.size
  have B19 : Below w.heap.size w w19 := B18.trans (hb19.mono B18.size)
  have cP0_0_19 : w19.cell? ⟨w.heap.size, 0, none⟩ = some (.int .i64 J0) := (hb19.cell (block_lt_of_cell cP0_0_18)).trans cP0_0_18
  have cP0_1_19 : w19.cell? ⟨w.heap.size, 1, none⟩ = some (.slice A0 n0 c0) := (hb19.cell (block_lt_of_cell cP0_1_18)).trans cP0_1_18
  clear cP0_0_18 cP0_1_18
  have cX0_0_19 : w19.cell? ⟨w6.heap.size, 0, none⟩ = some (.int .i64 J0) := (hb19.cell (block_lt_of_cell cX0_0_18)).trans cX0_0_18
  have cX0_1_19 : w19.cell? ⟨w6.heap.size, 1, none⟩ = some (.slice AX0 n0 n0) := (hb19.cell (block_lt_of_cell cX0_1_18)).trans cX0_1_18
  clear cX0_0_18 cX0_1_18
  have SW_19 := SW_18.below hb19 (by omega)
  have SG_19 := SG_18.below hb19 (by omega)
  have FU0_19 := own_mk oU0
  have SU0_19 := Same.refl w18.heap.size w19.heap.size w19
  go_wp2_with fail; ((with_reducible refine (toInt64S_any A1 n1 c1 xs1 _ ((hr1.below B19).more B19.size) hn1).mono ?_); rintro e w20 ⟨rfl, oU1, hb20⟩)
  have z20 : w19.heap.size ≤ w20.heap.size := hb20.size
  have B20 : Below w.heap.size w w20 := B19.trans (hb20.mono B19.size)
  have cP0_0_20 : w20.cell? ⟨w.heap.size, 0, none⟩ = some (.int .i64 J0) := (hb20.cell (block_lt_of_cell cP0_0_19)).trans cP0_0_19
  have cP0_1_20 : w20.cell? ⟨w.heap.size, 1, none⟩ = some (.slice A0 n0 c0) := (hb20.cell (block_lt_of_cell cP0_1_19)).trans cP0_1_19
  clear cP0_0_19 cP0_1_19
  have cX0_0_20 : w20.cell? ⟨w6.heap.size, 0, none⟩ = some (.int .i64 J0) := (hb20.cell (block_lt_of_cell cX0_0_19)).trans cX0_0_19
  have cX0_1_20 : w20.cell? ⟨w6.heap.size, 1, none⟩ = some (.slice AX0 n0 n0) := (hb20.cell (block_lt_of_cell cX0_1_19)).trans cX0_1_19
  clear cX0_0_19 cX0_1_19
  have SW_20 := SW_19.below hb20 (by omega)
  have SG_20 := SG_19.below hb20 (by omega)
  have SU0_20 := SU0_19.below hb20 (by omega)
  have FU1_20 := own_mk oU1
  have SU1_20 := Same.refl w19.heap.size w20.heap.size w20
  have cc21 := implFlowsOfMeshes_any J0 AU0 n0 n0 xs0 (some ⟨w19.heap.size, 0, none⟩) n1 n1 xs1 w20 (FU0_19.same SU0_20).reads hn0 HM0.out (FU1_20.same SU1_20).reads hn1
  go_wp2_with fail; ((with_reducible refine (cc21).mono ?_); rintro e w21 ⟨AH, nH, cH, rfl, oH, hnH, hb21⟩)
  have z21 : w20.heap.size ≤ w21.heap.size := hb21.size
  have B21 : Below w.heap.size w w21 := B20.trans (hb21.mono B20.size)
  have cP0_0_21 : w21.cell? ⟨w.heap.size, 0, none⟩ = some (.int .i64 J0) := (hb21.cell (block_lt_of_cell cP0_0_20)).trans cP0_0_20
  have cP0_1_21 : w21.cell? ⟨w.heap.size, 1, none⟩ = some (.slice A0 n0 c0) := (hb21.cell (block_lt_of_cell cP0_1_20)).trans cP0_1_20
  clear cP0_0_20 cP0_1_20
  have cX0_0_21 : w21.cell? ⟨w6.heap.size, 0, none⟩ = some (.int .i64 J0) := (hb21.cell (block_lt_of_cell cX0_0_20)).trans cX0_0_20
  have cX0_1_21 : w21.cell? ⟨w6.heap.size, 1, none⟩ = some (.slice AX0 n0 n0) := (hb21.cell (block_lt_of_cell cX0_1_20)).trans cX0_1_20
  clear cX0_0_20 cX0_1_20
  have SW_21 := SW_20.below hb21 (by omega)
  have SG_21 := SG_20.below hb21 (by omega)
  have SU0_21 := SU0_20.below hb21 (by omega)
  have SU1_21 := SU1_20.below hb21 (by omega)
  have FH_21 := own_mk oH
  have SH_21 := Same.refl w20.heap.size w21.heap.size w21
  clear cc21
  obtain rfl : nH = nG := by have h1 := FH_21.own.1; have h2 := FW_5.own.1; omega
  go_wp2_with fail; ((with_reducible refine (eqInt64S_b _ _ nH cH cW _ _ (FH_21.same SH_21).reads (FW_5.same SW_21).reads (by omega)).mono ?_); rintro e w22 ⟨rfl, hb22⟩)
  have z22 : w21.heap.size ≤ w22.heap.size := hb22.size
  have B22 : Below w.heap.size w w22 := B21.trans (hb22.mono B21.size)
  have cP0_0_22 : w22.cell? ⟨w.heap.size, 0, none⟩ = some (.int .i64 J0) := (hb22.cell (block_lt_of_cell cP0_0_21)).trans cP0_0_21
  have cP0_1_22 : w22.cell? ⟨w.heap.size, 1, none⟩ = some (.slice A0 n0 c0) := (hb22.cell (block_lt_of_cell cP0_1_21)).trans cP0_1_21
  clear cP0_0_21 cP0_1_21
  have cX0_0_22 : w22.cell? ⟨w6.heap.size, 0, none⟩ = some (.int .i64 J0) := (hb22.cell (block_lt_of_cell cX0_0_21)).trans cX0_0_21
  have cX0_1_22 : w22.cell? ⟨w6.heap.size, 1, none⟩ = some (.slice AX0 n0 n0) := (hb22.cell (block_lt_of_cell cX0_1_21)).trans cX0_1_21
  clear cX0_0_21 cX0_1_21
  have SW_22 := SW_21.below hb22 (by omega)
  have SG_22 := SG_21.below hb22 (by omega)
  have SH_22 := SH_21.below hb22 (by omega)
  go_wp2_with fail; ((with_reducible refine (heldInt64S_any _ nH cG 1 w22 (FG_18.same SG_22).reads (by omega) (by omega) (by omega)).mono ?_); rintro e w' ⟨rfl, rfl⟩)
  go_wp2
  go_ret
  exact ⟨rfl, B22⟩

set_option maxRecDepth 100000 in
theorem lifted (os : Os) (started : os.Started) (H : Type) (enc : TypeId × Value → H) :
    ReturnsInHanded {} Try.checked os 4 .any (Rows.fnExactFlowsOfMeshesSpec.pre6 enc Try.prog Try.f4 Rows.fnExactFlowsOfMeshesRow.domain false) (Rows.fnExactFlowsOfMeshesSpec.post enc Try.prog Try.f4 false true false false) := by
  refine returnsInHanded_of_change (C := Try.checked) own_ started (by kernel_rfl) Try.func4
    (ChangeSpec.witness6 (enc := enc) (C := Try.checked) false ⟨#[], #[.agg #[.int .i64 0, .slice none 0 0], .slice none 0 0], []⟩ 12 (by kernel_rfl) (by kernel_rfl) (by kernel_rfl) (by kernel_rfl)) ?_
  intro W base args ds gs before hval0 hW hcnd _
  have hval : ∀ (j : Nat) t v, Try.f4.params[j]? = some t → args[j]? = some v → Value.okWide Try.prog W .any base t v := hval0
  have hW' := hW
  obtain ⟨p, q, hA0, hV, rfl, hfz, hnd⟩ := hW
  have hA : DataW.TrodAll enc Try.prog W 0 (fun _ => true) true Try.f4.params.toList args.toList ds p := hA0
  rw [Try.params4] at hA hval
  obtain ⟨v0, vs0, d0, ds0, p0, q0, hargs, rfl, rfl, h0, r0⟩ := trodAll_cons hA
  obtain ⟨v1, vs1, d1, ds1, p1, q1, rfl, rfl, rfl, h1, r1⟩ := trodAll_cons r0
  obtain ⟨rfl, rfl, rfl⟩ := trodAll_nil r1
  obtain rfl : args = #[v0, v1] := by cases args; simp_all
  obtain ⟨rfl, rfl⟩ := trodVars_none hV
  obtain ⟨J0, A0, n0, c0, xs0, rfl, lc0, gc0, hr0, hm0⟩ := op_mine Try.underlying24 (by kernel_rfl) (by kernel_rfl) Try.underlying2 Try.underlying22 Try.underlying112 (by kernel_rfl) (by kernel_rfl) Try.underlying9 Try.underlying2 Try.underlying2 Try.underlying2 Try.underlying2 Try.underlying2 Try.underlying2 (hval 0 24 v0 rfl rfl) h0
  obtain ⟨A1, n1, c1, xs1, rfl, lc1, gc1, hr1⟩ := op_ints Try.underlying25 Try.underlying2 (by kernel_rfl) (hval 1 25 v1 rfl rfl) h1
  clear hA0 hval0
  refine (walk J0 A0 n0 c0 xs0 lc0 gc0 A1 n1 c1 xs1 lc1 gc1 W hr0 hm0 hr1).mono fun e W' ⟨he, hb⟩ => ?_
  subst he
  exact ⟨_, rfl, law_post laidOut_ (by kernel_rfl) rfl rfl Try.underlying4 hW' rfl hb⟩

theorem over : Rows.fnExactFlowsOfMeshesRow.holds Try.pinned (OpenSpec.ofChange Rows.fnExactFlowsOfMeshesSpec) :=
  OpenClaim.holds_of_wide 4 Try.f4 rfl rfl rfl rfl rfl rfl rfl ⟨rfl, rfl, rfl, rfl, rfl⟩ rfl rfl rfl rfl rfl (by kernel_rfl) Try.func4 (by kernel_rfl)
    (of_decide_eq_true (by kernel_rfl)) (by unfold Func.isWrapper; first | (rw [if_pos (by decide +kernel)]; kernel_rfl) | (rw [if_neg (by decide +kernel)]; exact ⟨rfl, rfl⟩))
    (fun os started H enc _ => lifted os started H enc)

/-- The statement. -/
theorem proved : Rows.FnExactFlowsOfMeshesSaid := over
#print axioms proved
end Go.Proofs.Ytjmhhbjbmgpagaa.lFlowsOfMeshes
