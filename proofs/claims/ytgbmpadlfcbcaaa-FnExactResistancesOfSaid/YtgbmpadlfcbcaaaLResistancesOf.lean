/- The law FnExactResistancesOf: for all arguments the program's ResistancesOf and the reference's return the same, and the result shares no memory with an argument or with the result of another call; no condition. -/
import Derived.Test.YtgbmpadlfcbcaaaFrame
import Derived.Test.YtgbmpadlfcbcaaaOwn
import Derived.Test.YtgbmpadlfcbcaaaFrR
import Derived.Test.YtgbmpadlfcbcaaaRst
namespace Go.Proofs.Ytgbmpadlfcbcaaa.lResistancesOf
set_option linter.unusedVariables false
set_option linter.unusedSimpArgs false
open Go.ChangeShapes Go.WideShapes Go.ChangeAt Go.RowKit
set_option maxHeartbeats 4000000 in
theorem walk (J0 : Int) (A0 : Option Addr) (n0 c0 : Nat) (xs0 : List Awy) (lc0 : n0 ≤ c0) (gc0 : c0 ≤ maxLen) (w : World) (hr0 : Reads w w.heap.size 7 A0 n0 (Awy.recs xs0)) (hm0 : ∀ x ∈ xs0, x.s.size ≤ maxLen) :
    Calls Try.prog 11 #[.agg #[.int .i64 J0, .slice A0 n0 c0]] w fun e w' => e = .returned (.bool true) ∧ Below w.heap.size w w' := by
  have HM0 := Lib.hid hm0
  clear hm0
  have t0 := sumN_nonneg Awy.len xs0
  by_cases hN0 : 1048576 < ((n0 : Int) + sumN Awy.len xs0)
  ·  -- too large
    have HN0 := Lib.hid hN0
    have z1 : w.heap.size + 1 ≤ (w.alloc (.cells #[.int .i64 J0, .slice A0 n0 c0] 24)).heap.size := by simp
    have B1 : Below w.heap.size w (w.alloc (.cells #[.int .i64 J0, .slice A0 n0 c0] 24)) := (Below.refl _ _).alloc (Nat.le_refl _) _
    have cP0_0_1 : (w.alloc (.cells #[.int .i64 J0, .slice A0 n0 c0] 24)).cell? ⟨w.heap.size, 0, none⟩ = some (.int .i64 J0) := ((Blk.new w 24 #[.int .i64 J0, .slice A0 n0 c0]).cell 0).trans rfl
    have cP0_1_1 : (w.alloc (.cells #[.int .i64 J0, .slice A0 n0 c0] 24)).cell? ⟨w.heap.size, 1, none⟩ = some (.slice A0 n0 c0) := ((Blk.new w 24 #[.int .i64 J0, .slice A0 n0 c0]).cell 1).trans rfl
    go_enter Try.func11, Try.ntmps11
    have sc0 := szMine_any J0 A0 n0 c0 xs0 (1048576) (w.alloc (.cells #[.int .i64 J0, .slice A0 n0 c0] 24)) ((hr0.below B1).more B1.size) (by omega) (by omega) (by omega) HM0.out
    rw [szI_n (l := 1048576) (s := ((n0 : Int) + sumN Awy.len xs0)) (by omega)] at sc0
    go_wp2_with fail; ((with_reducible refine sc0.mono ?_); rintro e w2 ⟨rfl, hb2⟩)
    clear sc0
    have z2 : (w.alloc (.cells #[.int .i64 J0, .slice A0 n0 c0] 24)).heap.size ≤ w2.heap.size := hb2.size
    have B2 : Below w.heap.size w w2 := B1.trans (hb2.mono B1.size)
    have cP0_0_2 : w2.cell? ⟨w.heap.size, 0, none⟩ = some (.int .i64 J0) := (hb2.cell (block_lt_of_cell cP0_0_1)).trans cP0_0_1
    have cP0_1_2 : w2.cell? ⟨w.heap.size, 1, none⟩ = some (.slice A0 n0 c0) := (hb2.cell (block_lt_of_cell cP0_1_1)).trans cP0_1_1
    clear cP0_0_1 cP0_1_1
    go_wp2
    go_ret
    exact ⟨rfl, B2⟩
  have HY0 := Lib.hid hN0
  have hn0 : n0 ≤ 1048576 := by omega
  have z1 : w.heap.size + 1 ≤ (w.alloc (.cells #[.int .i64 J0, .slice A0 n0 c0] 24)).heap.size := by simp
  have B1 : Below w.heap.size w (w.alloc (.cells #[.int .i64 J0, .slice A0 n0 c0] 24)) := (Below.refl _ _).alloc (Nat.le_refl _) _
  have cP0_0_1 : (w.alloc (.cells #[.int .i64 J0, .slice A0 n0 c0] 24)).cell? ⟨w.heap.size, 0, none⟩ = some (.int .i64 J0) := ((Blk.new w 24 #[.int .i64 J0, .slice A0 n0 c0]).cell 0).trans rfl
  have cP0_1_1 : (w.alloc (.cells #[.int .i64 J0, .slice A0 n0 c0] 24)).cell? ⟨w.heap.size, 1, none⟩ = some (.slice A0 n0 c0) := ((Blk.new w 24 #[.int .i64 J0, .slice A0 n0 c0]).cell 1).trans rfl
  go_enter Try.func11, Try.ntmps11
  have sc0 := szMine_any J0 A0 n0 c0 xs0 (1048576) (w.alloc (.cells #[.int .i64 J0, .slice A0 n0 c0] 24)) ((hr0.below B1).more B1.size) (by omega) (by omega) (by omega) HM0.out
  rw [szI_y (l := 1048576) (s := ((n0 : Int) + sumN Awy.len xs0)) (by omega)] at sc0
  go_wp2_with fail; ((with_reducible refine sc0.mono ?_); rintro e w2 ⟨rfl, hb2⟩)
  clear sc0
  have z2 : (w.alloc (.cells #[.int .i64 J0, .slice A0 n0 c0] 24)).heap.size ≤ w2.heap.size := hb2.size
  have B2 : Below w.heap.size w w2 := B1.trans (hb2.mono B1.size)
  have cP0_0_2 : w2.cell? ⟨w.heap.size, 0, none⟩ = some (.int .i64 J0) := (hb2.cell (block_lt_of_cell cP0_0_1)).trans cP0_0_1
  have cP0_1_2 : w2.cell? ⟨w.heap.size, 1, none⟩ = some (.slice A0 n0 c0) := (hb2.cell (block_lt_of_cell cP0_1_1)).trans cP0_1_1
  clear cP0_0_1 cP0_1_1
  go_wp2_with fail; ((with_reducible refine (toMine_any J0 A0 n0 c0 xs0 _ ((hr0.below B2).more B2.size) hn0 HM0.out).mono ?_); rintro e w3 ⟨AS0, rfl, oS0, hb3⟩)
  have z3 : w2.heap.size ≤ w3.heap.size := hb3.size
  have B3 : Below w.heap.size w w3 := B2.trans (hb3.mono B2.size)
  have cP0_0_3 : w3.cell? ⟨w.heap.size, 0, none⟩ = some (.int .i64 J0) := (hb3.cell (block_lt_of_cell cP0_0_2)).trans cP0_0_2
  have cP0_1_3 : w3.cell? ⟨w.heap.size, 1, none⟩ = some (.slice A0 n0 c0) := (hb3.cell (block_lt_of_cell cP0_1_2)).trans cP0_1_2
  clear cP0_0_2 cP0_1_2
  have FS0_3 := own_mk oS0
  have SS0_3 := Same.refl w2.heap.size w3.heap.size w3
  have cc4 := specResistancesOf_any J0 AS0 n0 n0 xs0 w3 (FS0_3.same SS0_3).reads hn0 HM0.out
  go_wp2_with fail; ((with_reducible refine (cc4).mono ?_); rintro e w4 ⟨AW, nW, cW, rfl, oW, hnW, hb4⟩)
  have z4 : w3.heap.size ≤ w4.heap.size := hb4.size
  have B4 : Below w.heap.size w w4 := B3.trans (hb4.mono B3.size)
  have cP0_0_4 : w4.cell? ⟨w.heap.size, 0, none⟩ = some (.int .i64 J0) := (hb4.cell (block_lt_of_cell cP0_0_3)).trans cP0_0_3
  have cP0_1_4 : w4.cell? ⟨w.heap.size, 1, none⟩ = some (.slice A0 n0 c0) := (hb4.cell (block_lt_of_cell cP0_1_3)).trans cP0_1_3
  clear cP0_0_3 cP0_1_3
  have SS0_4 := SS0_3.below hb4 (by omega)
  have FW_4 := own_mk oW
  have SW_4 := Same.refl w3.heap.size w4.heap.size w4
  clear cc4
  go_wp2_with fail; ((with_reducible refine (toMine_any J0 A0 n0 c0 xs0 _ ((hr0.below B4).more B4.size) hn0 HM0.out).mono ?_); rintro e w5 ⟨AX0, rfl, oX0, hb5⟩)
  have z5 : w4.heap.size ≤ w5.heap.size := hb5.size
  have B5 : Below w.heap.size w w5 := B4.trans (hb5.mono B4.size)
  have cP0_0_5 : w5.cell? ⟨w.heap.size, 0, none⟩ = some (.int .i64 J0) := (hb5.cell (block_lt_of_cell cP0_0_4)).trans cP0_0_4
  have cP0_1_5 : w5.cell? ⟨w.heap.size, 1, none⟩ = some (.slice A0 n0 c0) := (hb5.cell (block_lt_of_cell cP0_1_4)).trans cP0_1_4
  clear cP0_0_4 cP0_1_4
  have SW_5 := SW_4.below hb5 (by omega)
  have FX0_5 := own_mk oX0
  have SX0_5 := Same.refl w4.heap.size w5.heap.size w5
  -- its box
  have z6 : w5.heap.size + 1 ≤ (w5.alloc (.cells #[.int .i64 J0, .slice AX0 n0 n0] 31)).heap.size := by simp
  have B6 : Below w.heap.size w (w5.alloc (.cells #[.int .i64 J0, .slice AX0 n0 n0] 31)) := B5.alloc B5.size _
  have cP0_0_6 : (w5.alloc (.cells #[.int .i64 J0, .slice AX0 n0 n0] 31)).cell? ⟨w.heap.size, 0, none⟩ = some (.int .i64 J0) := (World.cell?_alloc_lt _ _ _ (block_lt_of_cell cP0_0_5)).trans cP0_0_5
  have cP0_1_6 : (w5.alloc (.cells #[.int .i64 J0, .slice AX0 n0 n0] 31)).cell? ⟨w.heap.size, 1, none⟩ = some (.slice A0 n0 c0) := (World.cell?_alloc_lt _ _ _ (block_lt_of_cell cP0_1_5)).trans cP0_1_5
  clear cP0_0_5 cP0_1_5
  have cX0_0_6 : (w5.alloc (.cells #[.int .i64 J0, .slice AX0 n0 n0] 31)).cell? ⟨w5.heap.size, 0, none⟩ = some (.int .i64 J0) := ((Blk.new w5 31 #[.int .i64 J0, .slice AX0 n0 n0]).cell 0).trans rfl
  have cX0_1_6 : (w5.alloc (.cells #[.int .i64 J0, .slice AX0 n0 n0] 31)).cell? ⟨w5.heap.size, 1, none⟩ = some (.slice AX0 n0 n0) := ((Blk.new w5 31 #[.int .i64 J0, .slice AX0 n0 n0]).cell 1).trans rfl
  have SW_6 := SW_5.below (show Below w5.heap.size w5 (w5.alloc (.cells #[.int .i64 J0, .slice AX0 n0 n0] 31)) from (Below.refl _ _).alloc (Nat.le_refl _) _) (by omega)
  have SX0_6 := SX0_5.below (show Below w5.heap.size w5 (w5.alloc (.cells #[.int .i64 J0, .slice AX0 n0 n0] 31)) from (Below.refl _ _).alloc (Nat.le_refl _) _) (by omega)
  have cc7 := implResistancesOf_any J0 AX0 n0 n0 xs0 (w5.alloc (.cells #[.int .i64 J0, .slice AX0 n0 n0] 31)) (FX0_5.same SX0_6).reads hn0 HM0.out
  go_wp2_with fail; ((with_reducible refine (cc7).mono ?_); rintro e w7 ⟨AG, nG, cG, rfl, oG, hnG, hb7⟩)
  have z7 : (w5.alloc (.cells #[.int .i64 J0, .slice AX0 n0 n0] 31)).heap.size ≤ w7.heap.size := hb7.size
  have B7 : Below w.heap.size w w7 := B6.trans (hb7.mono B6.size)
  have cP0_0_7 : w7.cell? ⟨w.heap.size, 0, none⟩ = some (.int .i64 J0) := (hb7.cell (block_lt_of_cell cP0_0_6)).trans cP0_0_6
  have cP0_1_7 : w7.cell? ⟨w.heap.size, 1, none⟩ = some (.slice A0 n0 c0) := (hb7.cell (block_lt_of_cell cP0_1_6)).trans cP0_1_6
  clear cP0_0_6 cP0_1_6
  have cX0_0_7 : w7.cell? ⟨w5.heap.size, 0, none⟩ = some (.int .i64 J0) := (hb7.cell (block_lt_of_cell cX0_0_6)).trans cX0_0_6
  have cX0_1_7 : w7.cell? ⟨w5.heap.size, 1, none⟩ = some (.slice AX0 n0 n0) := (hb7.cell (block_lt_of_cell cX0_1_6)).trans cX0_1_6
  clear cX0_0_6 cX0_1_6
  have SW_7 := SW_6.below hb7 (by omega)
  have SX0_7 := SX0_6.below hb7 (by omega)
  rw [show (w5.alloc (.cells #[.int .i64 J0, .slice AX0 n0 n0] 31)).heap.size = (w5.heap.size + 1) by simp] at oG
  have FG_7 := own_mk oG
  have SG_7 := Same.refl (w5.heap.size + 1) w7.heap.size w7
  clear cc7
  obtain rfl : nG = nW := by have h1 := FG_7.own.1; have h2 := FW_4.own.1; omega
  go_wp2_with fail; ((with_reducible refine (eqInt64S_b _ _ nG cG cW _ _ (FG_7.same SG_7).reads (FW_4.same SW_7).reads (by omega)).mono ?_); rintro e w8 ⟨rfl, hb8⟩)
  have z8 : w7.heap.size ≤ w8.heap.size := hb8.size
  have B8 : Below w.heap.size w w8 := B7.trans (hb8.mono B7.size)
  have cP0_0_8 : w8.cell? ⟨w.heap.size, 0, none⟩ = some (.int .i64 J0) := (hb8.cell (block_lt_of_cell cP0_0_7)).trans cP0_0_7
  have cP0_1_8 : w8.cell? ⟨w.heap.size, 1, none⟩ = some (.slice A0 n0 c0) := (hb8.cell (block_lt_of_cell cP0_1_7)).trans cP0_1_7
  clear cP0_0_7 cP0_1_7
  have cX0_0_8 : w8.cell? ⟨w5.heap.size, 0, none⟩ = some (.int .i64 J0) := (hb8.cell (block_lt_of_cell cX0_0_7)).trans cX0_0_7
  have cX0_1_8 : w8.cell? ⟨w5.heap.size, 1, none⟩ = some (.slice AX0 n0 n0) := (hb8.cell (block_lt_of_cell cX0_1_7)).trans cX0_1_7
  clear cX0_0_7 cX0_1_7
  have SW_8 := SW_7.below hb8 (by omega)
  have SX0_8 := SX0_7.below hb8 (by omega)
  have SG_8 := SG_7.below hb8 (by omega)
  have RDT0 := (hr0.below (below_drew B8)).more (below_drew B8).size
  have HZT0 : w5.heap.size ≤ w8.drew.heap.size := by show _ ≤ w8.heap.size; omega
  go_wp2_with fail
  go_region_held3 (fun w' => w'.cell? ⟨w.heap.size, 0, none⟩ = some (.int .i64 J0) ∧ w'.cell? ⟨w.heap.size, 1, none⟩ = some (.slice A0 n0 c0) ∧ w'.cell? ⟨w5.heap.size, 0, none⟩ = some (.int .i64 J0) ∧ w'.cell? ⟨w5.heap.size, 1, none⟩ = some (.slice AX0 n0 n0))
    (first | go_keep | (exact ⟨(hb9.cell (block_lt_of_cell cP0_0_8)).trans cP0_0_8, (hb9.cell (block_lt_of_cell cP0_1_8)).trans cP0_1_8, (hb9.cell (block_lt_of_cell cX0_0_8)).trans cX0_0_8, (hb9.cell (block_lt_of_cell cX0_1_8)).trans cX0_1_8⟩) | (exact ⟨(hb10.cell (block_lt_of_cell ((hb9.cell (block_lt_of_cell cP0_0_8)).trans cP0_0_8))).trans ((hb9.cell (block_lt_of_cell cP0_0_8)).trans cP0_0_8), (hb10.cell (block_lt_of_cell ((hb9.cell (block_lt_of_cell cP0_1_8)).trans cP0_1_8))).trans ((hb9.cell (block_lt_of_cell cP0_1_8)).trans cP0_1_8), (hb10.cell (block_lt_of_cell ((hb9.cell (block_lt_of_cell cX0_0_8)).trans cX0_0_8))).trans ((hb9.cell (block_lt_of_cell cX0_0_8)).trans cX0_0_8), (hb10.cell (block_lt_of_cell ((hb9.cell (block_lt_of_cell cX0_1_8)).trans cX0_1_8))).trans ((hb9.cell (block_lt_of_cell cX0_1_8)).trans cX0_1_8)⟩))
    ((first | (go_at_call 19; (with_reducible refine (eqMine_b J0 _ _ n0 n0 n0 xs0 _ (FX0_5.same ((SX0_8.drew).below hb9 HZT0)).reads (own_mk oT0).reads (by omega)).mono ?_); rintro e w10 ⟨rfl, hb10⟩) | (go_at_call 16; (with_reducible refine (toMine_any J0 A0 n0 c0 xs0 _ RDT0 hn0 HM0.out).mono ?_); rintro e w9 ⟨AT0, rfl, oT0, hb9⟩)))
  replace hb9 : Below w8.heap.size w8 w9 := below_undrew hb9
  have z9 : w8.heap.size ≤ w9.heap.size := hb9.size
  have B9 : Below w.heap.size w w9 := B8.trans (hb9.mono B8.size)
  have cP0_0_9 : w9.cell? ⟨w.heap.size, 0, none⟩ = some (.int .i64 J0) := (hb9.cell (block_lt_of_cell cP0_0_8)).trans cP0_0_8
  have cP0_1_9 : w9.cell? ⟨w.heap.size, 1, none⟩ = some (.slice A0 n0 c0) := (hb9.cell (block_lt_of_cell cP0_1_8)).trans cP0_1_8
  clear cP0_0_8 cP0_1_8
  have cX0_0_9 : w9.cell? ⟨w5.heap.size, 0, none⟩ = some (.int .i64 J0) := (hb9.cell (block_lt_of_cell cX0_0_8)).trans cX0_0_8
  have cX0_1_9 : w9.cell? ⟨w5.heap.size, 1, none⟩ = some (.slice AX0 n0 n0) := (hb9.cell (block_lt_of_cell cX0_1_8)).trans cX0_1_8
  clear cX0_0_8 cX0_1_8
  have SW_9 := SW_8.below hb9 (by omega)
  have SX0_9 := SX0_8.below hb9 (by omega)
  have SG_9 := SG_8.below hb9 (by omega)
  have z10 : w9.heap.size ≤ w10.heap.size := hb10.size
  have B10 : Below w.heap.size w w10 := B9.trans (hb10.mono B9.size)
  have cP0_0_10 : w10.cell? ⟨w.heap.size, 0, none⟩ = some (.int .i64 J0) := (hb10.cell (block_lt_of_cell cP0_0_9)).trans cP0_0_9
  have cP0_1_10 : w10.cell? ⟨w.heap.size, 1, none⟩ = some (.slice A0 n0 c0) := (hb10.cell (block_lt_of_cell cP0_1_9)).trans cP0_1_9
  clear cP0_0_9 cP0_1_9
  have cX0_0_10 : w10.cell? ⟨w5.heap.size, 0, none⟩ = some (.int .i64 J0) := (hb10.cell (block_lt_of_cell cX0_0_9)).trans cX0_0_9
  have cX0_1_10 : w10.cell? ⟨w5.heap.size, 1, none⟩ = some (.slice AX0 n0 n0) := (hb10.cell (block_lt_of_cell cX0_1_9)).trans cX0_1_9
  clear cX0_0_9 cX0_1_9
  have SW_10 := SW_9.below hb10 (by omega)
  have SX0_10 := SX0_9.below hb10 (by omega)
  have SG_10 := SG_9.below hb10 (by omega)
  go_wp2_with fail; ((with_reducible refine (markMine_any J0 AX0 n0 n0 _ (1) _ w10 (FX0_5.same SX0_10).own (by omega) (by omega) (by omega)).mono ?_); rintro e w11 ⟨rfl, hb11⟩)
  have hc11 := Chg.of_grown hb11 (FX0_5.range)
  have z11 : w10.heap.size ≤ w11.heap.size := hc11.size
  have B11 : Below w.heap.size w w11 := below_chg B10 hc11 B4.size B10.size
  have SW_11 := SW_10.chg hc11 (by omega) (Or.inl (by omega))
  have SG_11 := SG_10.chg hc11 (by omega) (Or.inr (by omega))
  have cP0_0_11 : w11.cell? ⟨w.heap.size, 0, none⟩ = some (.int .i64 J0) := hc11.cell cP0_0_10 (Or.inl (by first | (show w.heap.size < _; omega) | (show w.heap.size + _ < _; omega)))
  have cP0_1_11 : w11.cell? ⟨w.heap.size, 1, none⟩ = some (.slice A0 n0 c0) := hc11.cell cP0_1_10 (Or.inl (by first | (show w.heap.size < _; omega) | (show w.heap.size + _ < _; omega)))
  clear cP0_0_10 cP0_1_10
  have cX0_0_11 : w11.cell? ⟨w5.heap.size, 0, none⟩ = some (.int .i64 J0) := hc11.cell cX0_0_10 (Or.inr (Nat.le_refl _))
  have cX0_1_11 : w11.cell? ⟨w5.heap.size, 1, none⟩ = some (.slice AX0 n0 n0) := hc11.cell cX0_1_10 (Or.inr (Nat.le_refl _))
  clear cX0_0_10 cX0_1_10
  go_wp2_with fail; ((with_reducible refine (eqInt64S_b _ _ nG cG cW _ _ (FG_7.same SG_11).reads (FW_4.same SW_11).reads (by omega)).mono ?_); rintro e w12 ⟨rfl, hb12⟩)
  have z12 : w11.heap.size ≤ w12.heap.size := hb12.size
  have B12 : Below w.heap.size w w12 := B11.trans (hb12.mono B11.size)
  have cP0_0_12 : w12.cell? ⟨w.heap.size, 0, none⟩ = some (.int .i64 J0) := (hb12.cell (block_lt_of_cell cP0_0_11)).trans cP0_0_11
  have cP0_1_12 : w12.cell? ⟨w.heap.size, 1, none⟩ = some (.slice A0 n0 c0) := (hb12.cell (block_lt_of_cell cP0_1_11)).trans cP0_1_11
  clear cP0_0_11 cP0_1_11
  have cX0_0_12 : w12.cell? ⟨w5.heap.size, 0, none⟩ = some (.int .i64 J0) := (hb12.cell (block_lt_of_cell cX0_0_11)).trans cX0_0_11
  have cX0_1_12 : w12.cell? ⟨w5.heap.size, 1, none⟩ = some (.slice AX0 n0 n0) := (hb12.cell (block_lt_of_cell cX0_1_11)).trans cX0_1_11
  clear cX0_0_11 cX0_1_11
  have SW_12 := SW_11.below hb12 (by omega)
  have SG_12 := SG_11.below hb12 (by omega)
  go_wp2_with fail; ((with_reducible refine (markInt64S_any AG nG cG _ (1) _ w12 (FG_7.same SG_12).own (by omega) (by omega) (by omega)).mono ?_); rintro e w13 ⟨rfl, oG13, hb13⟩)
  have hc13 := Chg.of_grown hb13 (FG_7.range)
  have z13 : w12.heap.size ≤ w13.heap.size := hc13.size
  have B13 : Below w.heap.size w w13 := below_chg B12 hc13 (by omega) B12.size
  have SW_13 := SW_12.chg hc13 (by omega) (Or.inl (by omega))
  have cP0_0_13 : w13.cell? ⟨w.heap.size, 0, none⟩ = some (.int .i64 J0) := hc13.cell cP0_0_12 (Or.inl (by first | (show w.heap.size < _; omega) | (show w.heap.size + _ < _; omega)))
  have cP0_1_13 : w13.cell? ⟨w.heap.size, 1, none⟩ = some (.slice A0 n0 c0) := hc13.cell cP0_1_12 (Or.inl (by first | (show w.heap.size < _; omega) | (show w.heap.size + _ < _; omega)))
  clear cP0_0_12 cP0_1_12
  have cX0_0_13 : w13.cell? ⟨w5.heap.size, 0, none⟩ = some (.int .i64 J0) := hc13.cell cX0_0_12 (Or.inl (by show w5.heap.size < _; omega))
  have cX0_1_13 : w13.cell? ⟨w5.heap.size, 1, none⟩ = some (.slice AX0 n0 n0) := hc13.cell cX0_1_12 (Or.inl (by show w5.heap.size < _; omega))
  clear cX0_0_12 cX0_1_12
  have FG_13 : Own w13 (w5.heap.size + 1) w7.heap.size _ _ _ _ _ _ := ⟨oG13, FG_7.top⟩
  have SG_13 := Same.refl (w5.heap.size + 1) w7.heap.size w13
  go_wp2_with fail; ((with_reducible refine (heldInt64S_any _ nG cG 1 w13 (FG_13.same SG_13).reads (by omega) (by omega) (by omega)).mono ?_); rintro e w' ⟨rfl, rfl⟩)
  go_wp2_with fail; ((with_reducible refine (toMine_any J0 A0 n0 c0 xs0 _ ((hr0.below B13).more B13.size) hn0 HM0.out).mono ?_); rintro e w14 ⟨AU0, rfl, oU0, hb14⟩)
  have z14 : w13.heap.size ≤ w14.heap.size := hb14.size
  have B14 : Below w.heap.size w w14 := B13.trans (hb14.mono B13.size)
  have cP0_0_14 : w14.cell? ⟨w.heap.size, 0, none⟩ = some (.int .i64 J0) := (hb14.cell (block_lt_of_cell cP0_0_13)).trans cP0_0_13
  have cP0_1_14 : w14.cell? ⟨w.heap.size, 1, none⟩ = some (.slice A0 n0 c0) := (hb14.cell (block_lt_of_cell cP0_1_13)).trans cP0_1_13
  clear cP0_0_13 cP0_1_13
  have cX0_0_14 : w14.cell? ⟨w5.heap.size, 0, none⟩ = some (.int .i64 J0) := (hb14.cell (block_lt_of_cell cX0_0_13)).trans cX0_0_13
  have cX0_1_14 : w14.cell? ⟨w5.heap.size, 1, none⟩ = some (.slice AX0 n0 n0) := (hb14.cell (block_lt_of_cell cX0_1_13)).trans cX0_1_13
  clear cX0_0_13 cX0_1_13
  have SW_14 := SW_13.below hb14 (by omega)
  have SG_14 := SG_13.below hb14 (by omega)
  have FU0_14 := own_mk oU0
  have SU0_14 := Same.refl w13.heap.size w14.heap.size w14
  have cc15 := implResistancesOf_any J0 AU0 n0 n0 xs0 w14 (FU0_14.same SU0_14).reads hn0 HM0.out
  go_wp2_with fail; ((with_reducible refine (cc15).mono ?_); rintro e w15 ⟨AH, nH, cH, rfl, oH, hnH, hb15⟩)
  have z15 : w14.heap.size ≤ w15.heap.size := hb15.size
  have B15 : Below w.heap.size w w15 := B14.trans (hb15.mono B14.size)
  have cP0_0_15 : w15.cell? ⟨w.heap.size, 0, none⟩ = some (.int .i64 J0) := (hb15.cell (block_lt_of_cell cP0_0_14)).trans cP0_0_14
  have cP0_1_15 : w15.cell? ⟨w.heap.size, 1, none⟩ = some (.slice A0 n0 c0) := (hb15.cell (block_lt_of_cell cP0_1_14)).trans cP0_1_14
  clear cP0_0_14 cP0_1_14
  have cX0_0_15 : w15.cell? ⟨w5.heap.size, 0, none⟩ = some (.int .i64 J0) := (hb15.cell (block_lt_of_cell cX0_0_14)).trans cX0_0_14
  have cX0_1_15 : w15.cell? ⟨w5.heap.size, 1, none⟩ = some (.slice AX0 n0 n0) := (hb15.cell (block_lt_of_cell cX0_1_14)).trans cX0_1_14
  clear cX0_0_14 cX0_1_14
  have SW_15 := SW_14.below hb15 (by omega)
  have SG_15 := SG_14.below hb15 (by omega)
  have SU0_15 := SU0_14.below hb15 (by omega)
  have FH_15 := own_mk oH
  have SH_15 := Same.refl w14.heap.size w15.heap.size w15
  clear cc15
  obtain rfl : nH = nG := by have h1 := FH_15.own.1; have h2 := FW_4.own.1; omega
  go_wp2_with fail; ((with_reducible refine (eqInt64S_b _ _ nH cH cW _ _ (FH_15.same SH_15).reads (FW_4.same SW_15).reads (by omega)).mono ?_); rintro e w16 ⟨rfl, hb16⟩)
  have z16 : w15.heap.size ≤ w16.heap.size := hb16.size
  have B16 : Below w.heap.size w w16 := B15.trans (hb16.mono B15.size)
  have cP0_0_16 : w16.cell? ⟨w.heap.size, 0, none⟩ = some (.int .i64 J0) := (hb16.cell (block_lt_of_cell cP0_0_15)).trans cP0_0_15
  have cP0_1_16 : w16.cell? ⟨w.heap.size, 1, none⟩ = some (.slice A0 n0 c0) := (hb16.cell (block_lt_of_cell cP0_1_15)).trans cP0_1_15
  clear cP0_0_15 cP0_1_15
  have cX0_0_16 : w16.cell? ⟨w5.heap.size, 0, none⟩ = some (.int .i64 J0) := (hb16.cell (block_lt_of_cell cX0_0_15)).trans cX0_0_15
  have cX0_1_16 : w16.cell? ⟨w5.heap.size, 1, none⟩ = some (.slice AX0 n0 n0) := (hb16.cell (block_lt_of_cell cX0_1_15)).trans cX0_1_15
  clear cX0_0_15 cX0_1_15
  have SW_16 := SW_15.below hb16 (by omega)
  have SG_16 := SG_15.below hb16 (by omega)
  have SH_16 := SH_15.below hb16 (by omega)
  go_wp2_with fail; ((with_reducible refine (heldInt64S_any _ nH cG 1 w16 (FG_13.same SG_16).reads (by omega) (by omega) (by omega)).mono ?_); rintro e w' ⟨rfl, rfl⟩)
  go_wp2
  go_ret
  exact ⟨rfl, B16⟩

set_option maxRecDepth 100000 in
theorem lifted (os : Os) (started : os.Started) (H : Type) (enc : TypeId × Value → H) :
    ReturnsInHanded {} Try.checked os 11 .any (Rows.fnExactResistancesOfSpec.pre6 enc Try.prog Try.f11 Rows.fnExactResistancesOfRow.domain false) (Rows.fnExactResistancesOfSpec.post enc Try.prog Try.f11 false true false false) := by
  refine returnsInHanded_of_change (C := Try.checked) own_ started (by kernel_rfl) Try.func11
    (ChangeSpec.witness6 (enc := enc) (C := Try.checked) false ⟨#[], #[.agg #[.int .i64 0, .slice none 0 0]], []⟩ 12 (by kernel_rfl) (by kernel_rfl) (by kernel_rfl) (by kernel_rfl)) ?_
  intro W base args ds gs before hval0 hW hcnd _
  have hval : ∀ (j : Nat) t v, Try.f11.params[j]? = some t → args[j]? = some v → Value.okWide Try.prog W .any base t v := hval0
  have hW' := hW
  obtain ⟨p, q, hA0, hV, rfl, hfz, hnd⟩ := hW
  have hA : DataW.TrodAll enc Try.prog W 0 (fun _ => true) true Try.f11.params.toList args.toList ds p := hA0
  rw [Try.params11] at hA hval
  obtain ⟨v0, vs0, d0, ds0, p0, q0, hargs, rfl, rfl, h0, r0⟩ := trodAll_cons hA
  obtain ⟨rfl, rfl, rfl⟩ := trodAll_nil r0
  obtain rfl : args = #[v0] := by cases args; simp_all
  obtain ⟨rfl, rfl⟩ := trodVars_none hV
  obtain ⟨J0, A0, n0, c0, xs0, rfl, lc0, gc0, hr0, hm0⟩ := op_mine Try.underlying24 (by kernel_rfl) (by kernel_rfl) Try.underlying2 Try.underlying22 Try.underlying107 (by kernel_rfl) (by kernel_rfl) Try.underlying9 Try.underlying2 Try.underlying2 Try.underlying2 Try.underlying2 Try.underlying2 Try.underlying2 (hval 0 24 v0 rfl rfl) h0
  clear hA0 hval0
  refine (walk J0 A0 n0 c0 xs0 lc0 gc0 W hr0 hm0).mono fun e W' ⟨he, hb⟩ => ?_
  subst he
  exact ⟨_, rfl, law_post laidOut_ (by kernel_rfl) rfl rfl Try.underlying4 hW' rfl hb⟩

theorem over : Rows.fnExactResistancesOfRow.holds Try.pinned (OpenSpec.ofChange Rows.fnExactResistancesOfSpec) :=
  OpenClaim.holds_of_wide 11 Try.f11 rfl rfl rfl rfl rfl rfl rfl ⟨rfl, rfl, rfl, rfl, rfl⟩ rfl rfl rfl rfl rfl (by kernel_rfl) Try.func11 (by kernel_rfl)
    (of_decide_eq_true (by kernel_rfl)) (by unfold Func.isWrapper; first | (rw [if_pos (by decide +kernel)]; kernel_rfl) | (rw [if_neg (by decide +kernel)]; exact ⟨rfl, rfl⟩))
    (fun os started H enc _ => lifted os started H enc)

/-- The statement. -/
theorem proved : Rows.FnExactResistancesOfSaid := over
#print axioms proved
end Go.Proofs.Ytgbmpadlfcbcaaa.lResistancesOf
