/- The law FnExactReduceMine: for all arguments the program's ReduceMine and the reference's return the same; no condition. -/
import Derived.Test.YtnfallanjndbcaaFrame
import Derived.Test.YtnfallanjndbcaaOwn
import Derived.Test.YtnfallanjndbcaaFrR
import Derived.Test.YtnfallanjndbcaaRedR
import Derived.Test.YtnfallanjndbcaaRedS
namespace Go.Proofs.Ytnfallanjndbcaa.lReduceMine
set_option linter.unusedVariables false
set_option linter.unusedSimpArgs false
open Go.ChangeShapes Go.WideShapes Go.ChangeAt Go.RowKit
set_option maxHeartbeats 4000000 in
set_option maxRecDepth 100000 in
theorem walk (J0 : Int) (A0 : Option Addr) (n0 c0 : Nat) (xs0 : List Awy) (lc0 : n0 ≤ c0) (gc0 : c0 ≤ maxLen) (A1 : Option Addr) (n1 c1 : Nat) (xs1 : List Int) (lc1 : n1 ≤ c1) (gc1 : c1 ≤ maxLen) (a2 : Int) (la2 : -9223372036854775808 ≤ a2) (ga2 : a2 ≤ 9223372036854775807) (a3 : Int) (la3 : -9223372036854775808 ≤ a3) (ga3 : a3 ≤ 9223372036854775807) (w : World) (hr0 : Reads w w.heap.size 7 A0 n0 (Awy.recs xs0)) (hm0 : ∀ x ∈ xs0, x.s.size ≤ maxLen) (hr1 : Reads w w.heap.size 1 A1 n1 (ints xs1)) :
    Calls Try.prog 3 #[.agg #[.int .i64 J0, .slice A0 n0 c0], .slice A1 n1 c1, .int .i64 a2, .int .i64 a3] w fun e w' => e = .returned (.bool true) ∧ Below w.heap.size w w' := by
  have HM0 := Lib.hid hm0
  clear hm0
  by_cases big1 : 1048576 < n1
  · go_enter Try.func3, Try.ntmps3
    go_wp2
    go_ret
    exact ⟨rfl, by (repeat (first | exact Below.refl _ _ | assumption | (refine Below.alloc ?_ (by first | exact Nat.le_refl _ | (simp; done) | (simp; omega)) _) | (refine below_drewN ?_ _) | (refine Below.trans ?_ (Below.mono (by assumption) (by first | exact Nat.le_refl _ | (simp; done) | (simp; omega) | omega)))))⟩
  have hn1 : n1 ≤ 1048576 := by omega
  have t0 := sumN_nonneg Awy.len xs0
  by_cases hN0 : 1048576 < ((n0 : Int) + sumN Awy.len xs0)
  ·  -- too large
    have HN0 := Lib.hid hN0
    have z1 : w.heap.size + 1 ≤ (w.alloc (.cells #[.int .i64 J0, .slice A0 n0 c0] 24)).heap.size := by simp
    have B1 : Below w.heap.size w (w.alloc (.cells #[.int .i64 J0, .slice A0 n0 c0] 24)) := (Below.refl _ _).alloc (Nat.le_refl _) _
    have cP0_0_1 : (w.alloc (.cells #[.int .i64 J0, .slice A0 n0 c0] 24)).cell? ⟨w.heap.size, 0, none⟩ = some (.int .i64 J0) := ((Blk.new w 24 #[.int .i64 J0, .slice A0 n0 c0]).cell 0).trans rfl
    have cP0_1_1 : (w.alloc (.cells #[.int .i64 J0, .slice A0 n0 c0] 24)).cell? ⟨w.heap.size, 1, none⟩ = some (.slice A0 n0 c0) := ((Blk.new w 24 #[.int .i64 J0, .slice A0 n0 c0]).cell 1).trans rfl
    go_enter Try.func3, Try.ntmps3
    have sc0 := szMine_any J0 A0 n0 c0 xs0 (1048576) (w.alloc (.cells #[.int .i64 J0, .slice A0 n0 c0] 24)) ((hr0.below B1).more B1.size) (by omega) (by omega) (by omega) HM0.out
    rw [szI_n (l := 1048576) (s := ((n0 : Int) + sumN Awy.len xs0)) (by omega)] at sc0
    go_wp2_with fail; ((with_reducible refine sc0.mono ?_); rintro e w2 ⟨rfl, hb2⟩)
    clear sc0
    have z2 : (w.alloc (.cells #[.int .i64 J0, .slice A0 n0 c0] 24)).heap.size ≤ w2.heap.size := hb2.size
    have B2 : Below w.heap.size w w2 := B1.trans (hb2.mono B1.size)
    have cP0_0_2 : w2.cell? ⟨w.heap.size, 0, none⟩ = some (.int .i64 J0) := (hb2.cell (block_lt_of_cell cP0_0_1)).trans cP0_0_1
    have cP0_1_2 : w2.cell? ⟨w.heap.size, 1, none⟩ = some (.slice A0 n0 c0) := (hb2.cell (block_lt_of_cell cP0_1_1)).trans cP0_1_1
    clear cP0_0_1 cP0_1_1
    go_wp2
    go_ret
    exact ⟨rfl, B2⟩
  have HY0 := Lib.hid hN0
  have hn0 : n0 ≤ 1048576 := by omega
  have z1 : w.heap.size + 1 ≤ (w.alloc (.cells #[.int .i64 J0, .slice A0 n0 c0] 24)).heap.size := by simp
  have B1 : Below w.heap.size w (w.alloc (.cells #[.int .i64 J0, .slice A0 n0 c0] 24)) := (Below.refl _ _).alloc (Nat.le_refl _) _
  have cP0_0_1 : (w.alloc (.cells #[.int .i64 J0, .slice A0 n0 c0] 24)).cell? ⟨w.heap.size, 0, none⟩ = some (.int .i64 J0) := ((Blk.new w 24 #[.int .i64 J0, .slice A0 n0 c0]).cell 0).trans rfl
  have cP0_1_1 : (w.alloc (.cells #[.int .i64 J0, .slice A0 n0 c0] 24)).cell? ⟨w.heap.size, 1, none⟩ = some (.slice A0 n0 c0) := ((Blk.new w 24 #[.int .i64 J0, .slice A0 n0 c0]).cell 1).trans rfl
  go_enter Try.func3, Try.ntmps3
  have sc0 := szMine_any J0 A0 n0 c0 xs0 (1048576) (w.alloc (.cells #[.int .i64 J0, .slice A0 n0 c0] 24)) ((hr0.below B1).more B1.size) (by omega) (by omega) (by omega) HM0.out
  rw [szI_y (l := 1048576) (s := ((n0 : Int) + sumN Awy.len xs0)) (by omega)] at sc0
  go_wp2_with fail; ((with_reducible refine sc0.mono ?_); rintro e w2 ⟨rfl, hb2⟩)
  clear sc0
  have z2 : (w.alloc (.cells #[.int .i64 J0, .slice A0 n0 c0] 24)).heap.size ≤ w2.heap.size := hb2.size
  have B2 : Below w.heap.size w w2 := B1.trans (hb2.mono B1.size)
  have cP0_0_2 : w2.cell? ⟨w.heap.size, 0, none⟩ = some (.int .i64 J0) := (hb2.cell (block_lt_of_cell cP0_0_1)).trans cP0_0_1
  have cP0_1_2 : w2.cell? ⟨w.heap.size, 1, none⟩ = some (.slice A0 n0 c0) := (hb2.cell (block_lt_of_cell cP0_1_1)).trans cP0_1_1
  clear cP0_0_1 cP0_1_1
  go_wp2_with fail; ((with_reducible refine (toMine_any J0 A0 n0 c0 xs0 _ ((hr0.below B2).more B2.size) hn0 HM0.out).mono ?_); rintro e w3 ⟨AS0, rfl, oS0, hb3⟩)
  have z3 : w2.heap.size ≤ w3.heap.size := hb3.size
  have B3 : Below w.heap.size w w3 := B2.trans (hb3.mono B2.size)
  have cP0_0_3 : w3.cell? ⟨w.heap.size, 0, none⟩ = some (.int .i64 J0) := (hb3.cell (block_lt_of_cell cP0_0_2)).trans cP0_0_2
  have cP0_1_3 : w3.cell? ⟨w.heap.size, 1, none⟩ = some (.slice A0 n0 c0) := (hb3.cell (block_lt_of_cell cP0_1_2)).trans cP0_1_2
  clear cP0_0_2 cP0_1_2
  have FS0_3 := own_mk oS0
  have SS0_3 := Same.refl w2.heap.size w3.heap.size w3
  go_wp2_with fail; ((with_reducible refine (toInt64S_any A1 n1 c1 xs1 _ ((hr1.below B3).more B3.size) hn1).mono ?_); rintro e w4 ⟨rfl, oS1, hb4⟩)
  have z4 : w3.heap.size ≤ w4.heap.size := hb4.size
  have B4 : Below w.heap.size w w4 := B3.trans (hb4.mono B3.size)
  have cP0_0_4 : w4.cell? ⟨w.heap.size, 0, none⟩ = some (.int .i64 J0) := (hb4.cell (block_lt_of_cell cP0_0_3)).trans cP0_0_3
  have cP0_1_4 : w4.cell? ⟨w.heap.size, 1, none⟩ = some (.slice A0 n0 c0) := (hb4.cell (block_lt_of_cell cP0_1_3)).trans cP0_1_3
  clear cP0_0_3 cP0_1_3
  have SS0_4 := SS0_3.below hb4 (by omega)
  have FS1_4 := own_mk oS1
  have SS1_4 := Same.refl w3.heap.size w4.heap.size w4
  have cc5 := specReduceMine_any J0 AS0 n0 n0 xs0 (some ⟨w3.heap.size, 0, none⟩) n1 n1 xs1 a2 a3 w4 (FS0_3.same SS0_4).reads hn0 HM0.out (FS1_4.same SS1_4).reads hn1
  go_wp2_with fail; ((with_reducible refine (cc5).mono ?_); rintro e w5 ⟨rfl, hb5⟩)
  have z5 : w4.heap.size ≤ w5.heap.size := hb5.size
  have B5 : Below w.heap.size w w5 := B4.trans (hb5.mono B4.size)
  have cP0_0_5 : w5.cell? ⟨w.heap.size, 0, none⟩ = some (.int .i64 J0) := (hb5.cell (block_lt_of_cell cP0_0_4)).trans cP0_0_4
  have cP0_1_5 : w5.cell? ⟨w.heap.size, 1, none⟩ = some (.slice A0 n0 c0) := (hb5.cell (block_lt_of_cell cP0_1_4)).trans cP0_1_4
  clear cP0_0_4 cP0_1_4
  have SS0_5 := SS0_4.below hb5 (by omega)
  have SS1_5 := SS1_4.below hb5 (by omega)
  clear cc5
  go_wp2_with fail; ((with_reducible refine (toMine_any J0 A0 n0 c0 xs0 _ ((hr0.below B5).more B5.size) hn0 HM0.out).mono ?_); rintro e w6 ⟨AX0, rfl, oX0, hb6⟩)
  have z6 : w5.heap.size ≤ w6.heap.size := hb6.size
  have B6 : Below w.heap.size w w6 := B5.trans (hb6.mono B5.size)
  have cP0_0_6 : w6.cell? ⟨w.heap.size, 0, none⟩ = some (.int .i64 J0) := (hb6.cell (block_lt_of_cell cP0_0_5)).trans cP0_0_5
  have cP0_1_6 : w6.cell? ⟨w.heap.size, 1, none⟩ = some (.slice A0 n0 c0) := (hb6.cell (block_lt_of_cell cP0_1_5)).trans cP0_1_5
  clear cP0_0_5 cP0_1_5
  have FX0_6 := own_mk oX0
  have SX0_6 := Same.refl w5.heap.size w6.heap.size w6
  -- its box
  have z7 : w6.heap.size + 1 ≤ (w6.alloc (.cells #[.int .i64 J0, .slice AX0 n0 n0] 31)).heap.size := by simp
  have B7 : Below w.heap.size w (w6.alloc (.cells #[.int .i64 J0, .slice AX0 n0 n0] 31)) := B6.alloc B6.size _
  have cP0_0_7 : (w6.alloc (.cells #[.int .i64 J0, .slice AX0 n0 n0] 31)).cell? ⟨w.heap.size, 0, none⟩ = some (.int .i64 J0) := (World.cell?_alloc_lt _ _ _ (block_lt_of_cell cP0_0_6)).trans cP0_0_6
  have cP0_1_7 : (w6.alloc (.cells #[.int .i64 J0, .slice AX0 n0 n0] 31)).cell? ⟨w.heap.size, 1, none⟩ = some (.slice A0 n0 c0) := (World.cell?_alloc_lt _ _ _ (block_lt_of_cell cP0_1_6)).trans cP0_1_6
  clear cP0_0_6 cP0_1_6
  have cX0_0_7 : (w6.alloc (.cells #[.int .i64 J0, .slice AX0 n0 n0] 31)).cell? ⟨w6.heap.size, 0, none⟩ = some (.int .i64 J0) := ((Blk.new w6 31 #[.int .i64 J0, .slice AX0 n0 n0]).cell 0).trans rfl
  have cX0_1_7 : (w6.alloc (.cells #[.int .i64 J0, .slice AX0 n0 n0] 31)).cell? ⟨w6.heap.size, 1, none⟩ = some (.slice AX0 n0 n0) := ((Blk.new w6 31 #[.int .i64 J0, .slice AX0 n0 n0]).cell 1).trans rfl
  have SX0_7 := SX0_6.below (show Below w6.heap.size w6 (w6.alloc (.cells #[.int .i64 J0, .slice AX0 n0 n0] 31)) from (Below.refl _ _).alloc (Nat.le_refl _) _) (by omega)
  go_wp2_with fail; ((with_reducible refine (toInt64S_any A1 n1 c1 xs1 _ ((hr1.below B7).more B7.size) hn1).mono ?_); rintro e w8 ⟨rfl, oX1, hb8⟩)
  have z8 : (w6.alloc (.cells #[.int .i64 J0, .slice AX0 n0 n0] 31)).heap.size ≤ w8.heap.size := hb8.size
  have B8 : Below w.heap.size w w8 := B7.trans (hb8.mono B7.size)
  have cP0_0_8 : w8.cell? ⟨w.heap.size, 0, none⟩ = some (.int .i64 J0) := (hb8.cell (block_lt_of_cell cP0_0_7)).trans cP0_0_7
  have cP0_1_8 : w8.cell? ⟨w.heap.size, 1, none⟩ = some (.slice A0 n0 c0) := (hb8.cell (block_lt_of_cell cP0_1_7)).trans cP0_1_7
  clear cP0_0_7 cP0_1_7
  have cX0_0_8 : w8.cell? ⟨w6.heap.size, 0, none⟩ = some (.int .i64 J0) := (hb8.cell (block_lt_of_cell cX0_0_7)).trans cX0_0_7
  have cX0_1_8 : w8.cell? ⟨w6.heap.size, 1, none⟩ = some (.slice AX0 n0 n0) := (hb8.cell (block_lt_of_cell cX0_1_7)).trans cX0_1_7
  clear cX0_0_7 cX0_1_7
  have SX0_8 := SX0_7.below hb8 (by omega)
  rw [show (w6.alloc (.cells #[.int .i64 J0, .slice AX0 n0 n0] 31)).heap.size = (w6.heap.size + 1) by simp] at oX1
  have FX1_8 := own_mk oX1
  have SX1_8 := Same.refl (w6.heap.size + 1) w8.heap.size w8
  have cc9 := implReduceMine_any J0 AX0 n0 n0 xs0 (some ⟨(w6.heap.size + 1), 0, none⟩) n1 n1 xs1 a2 a3 w8 (FX0_6.same SX0_8).reads hn0 HM0.out (FX1_8.same SX1_8).reads hn1
  go_wp2_with fail; ((with_reducible refine (cc9).mono ?_); rintro e w9 ⟨rfl, hb9⟩)
  have z9 : w8.heap.size ≤ w9.heap.size := hb9.size
  have B9 : Below w.heap.size w w9 := B8.trans (hb9.mono B8.size)
  have cP0_0_9 : w9.cell? ⟨w.heap.size, 0, none⟩ = some (.int .i64 J0) := (hb9.cell (block_lt_of_cell cP0_0_8)).trans cP0_0_8
  have cP0_1_9 : w9.cell? ⟨w.heap.size, 1, none⟩ = some (.slice A0 n0 c0) := (hb9.cell (block_lt_of_cell cP0_1_8)).trans cP0_1_8
  clear cP0_0_8 cP0_1_8
  have cX0_0_9 : w9.cell? ⟨w6.heap.size, 0, none⟩ = some (.int .i64 J0) := (hb9.cell (block_lt_of_cell cX0_0_8)).trans cX0_0_8
  have cX0_1_9 : w9.cell? ⟨w6.heap.size, 1, none⟩ = some (.slice AX0 n0 n0) := (hb9.cell (block_lt_of_cell cX0_1_8)).trans cX0_1_8
  clear cX0_0_8 cX0_1_8
  have SX0_9 := SX0_8.below hb9 (by omega)
  have SX1_9 := SX1_8.below hb9 (by omega)
  clear cc9
  have RDT0 := (hr0.below (below_drew B9)).more (below_drew B9).size
  have HZT0 : w6.heap.size ≤ w9.drew.heap.size := by show _ ≤ w9.heap.size; omega
  go_wp2_with fail
  go_region_held3 (fun w' => w'.cell? ⟨w.heap.size, 0, none⟩ = some (.int .i64 J0) ∧ w'.cell? ⟨w.heap.size, 1, none⟩ = some (.slice A0 n0 c0) ∧ w'.cell? ⟨w6.heap.size, 0, none⟩ = some (.int .i64 J0) ∧ w'.cell? ⟨w6.heap.size, 1, none⟩ = some (.slice AX0 n0 n0))
    (first | go_keep | (exact ⟨(hb10.cell (block_lt_of_cell cP0_0_9)).trans cP0_0_9, (hb10.cell (block_lt_of_cell cP0_1_9)).trans cP0_1_9, (hb10.cell (block_lt_of_cell cX0_0_9)).trans cX0_0_9, (hb10.cell (block_lt_of_cell cX0_1_9)).trans cX0_1_9⟩) | (exact ⟨(hb11.cell (block_lt_of_cell ((hb10.cell (block_lt_of_cell cP0_0_9)).trans cP0_0_9))).trans ((hb10.cell (block_lt_of_cell cP0_0_9)).trans cP0_0_9), (hb11.cell (block_lt_of_cell ((hb10.cell (block_lt_of_cell cP0_1_9)).trans cP0_1_9))).trans ((hb10.cell (block_lt_of_cell cP0_1_9)).trans cP0_1_9), (hb11.cell (block_lt_of_cell ((hb10.cell (block_lt_of_cell cX0_0_9)).trans cX0_0_9))).trans ((hb10.cell (block_lt_of_cell cX0_0_9)).trans cX0_0_9), (hb11.cell (block_lt_of_cell ((hb10.cell (block_lt_of_cell cX0_1_9)).trans cX0_1_9))).trans ((hb10.cell (block_lt_of_cell cX0_1_9)).trans cX0_1_9)⟩))
    ((first | (go_at_call 9; (with_reducible refine (eqMine_b J0 _ _ n0 n0 n0 xs0 _ (FX0_6.same ((SX0_9.drew).below hb10 HZT0)).reads (own_mk oT0).reads (by omega)).mono ?_); rintro e w11 ⟨rfl, hb11⟩) | (go_at_call 6; (with_reducible refine (toMine_any J0 A0 n0 c0 xs0 _ RDT0 hn0 HM0.out).mono ?_); rintro e w10 ⟨AT0, rfl, oT0, hb10⟩)))
  replace hb10 : Below w9.heap.size w9 w10 := below_undrew hb10
  have z10 : w9.heap.size ≤ w10.heap.size := hb10.size
  have B10 : Below w.heap.size w w10 := B9.trans (hb10.mono B9.size)
  have cP0_0_10 : w10.cell? ⟨w.heap.size, 0, none⟩ = some (.int .i64 J0) := (hb10.cell (block_lt_of_cell cP0_0_9)).trans cP0_0_9
  have cP0_1_10 : w10.cell? ⟨w.heap.size, 1, none⟩ = some (.slice A0 n0 c0) := (hb10.cell (block_lt_of_cell cP0_1_9)).trans cP0_1_9
  clear cP0_0_9 cP0_1_9
  have cX0_0_10 : w10.cell? ⟨w6.heap.size, 0, none⟩ = some (.int .i64 J0) := (hb10.cell (block_lt_of_cell cX0_0_9)).trans cX0_0_9
  have cX0_1_10 : w10.cell? ⟨w6.heap.size, 1, none⟩ = some (.slice AX0 n0 n0) := (hb10.cell (block_lt_of_cell cX0_1_9)).trans cX0_1_9
  clear cX0_0_9 cX0_1_9
  have SX0_10 := SX0_9.below hb10 (by omega)
  have SX1_10 := SX1_9.below hb10 (by omega)
  have z11 : w10.heap.size ≤ w11.heap.size := hb11.size
  have B11 : Below w.heap.size w w11 := B10.trans (hb11.mono B10.size)
  have cP0_0_11 : w11.cell? ⟨w.heap.size, 0, none⟩ = some (.int .i64 J0) := (hb11.cell (block_lt_of_cell cP0_0_10)).trans cP0_0_10
  have cP0_1_11 : w11.cell? ⟨w.heap.size, 1, none⟩ = some (.slice A0 n0 c0) := (hb11.cell (block_lt_of_cell cP0_1_10)).trans cP0_1_10
  clear cP0_0_10 cP0_1_10
  have cX0_0_11 : w11.cell? ⟨w6.heap.size, 0, none⟩ = some (.int .i64 J0) := (hb11.cell (block_lt_of_cell cX0_0_10)).trans cX0_0_10
  have cX0_1_11 : w11.cell? ⟨w6.heap.size, 1, none⟩ = some (.slice AX0 n0 n0) := (hb11.cell (block_lt_of_cell cX0_1_10)).trans cX0_1_10
  clear cX0_0_10 cX0_1_10
  have SX0_11 := SX0_10.below hb11 (by omega)
  have SX1_11 := SX1_10.below hb11 (by omega)
  go_wp2_with fail; ((with_reducible refine (toInt64S_any A1 n1 c1 xs1 _ ((hr1.below B11).more B11.size) hn1).mono ?_); rintro e w12 ⟨rfl, oT1, hb12⟩)
  have z12 : w11.heap.size ≤ w12.heap.size := hb12.size
  have B12 : Below w.heap.size w w12 := B11.trans (hb12.mono B11.size)
  have cP0_0_12 : w12.cell? ⟨w.heap.size, 0, none⟩ = some (.int .i64 J0) := (hb12.cell (block_lt_of_cell cP0_0_11)).trans cP0_0_11
  have cP0_1_12 : w12.cell? ⟨w.heap.size, 1, none⟩ = some (.slice A0 n0 c0) := (hb12.cell (block_lt_of_cell cP0_1_11)).trans cP0_1_11
  clear cP0_0_11 cP0_1_11
  have cX0_0_12 : w12.cell? ⟨w6.heap.size, 0, none⟩ = some (.int .i64 J0) := (hb12.cell (block_lt_of_cell cX0_0_11)).trans cX0_0_11
  have cX0_1_12 : w12.cell? ⟨w6.heap.size, 1, none⟩ = some (.slice AX0 n0 n0) := (hb12.cell (block_lt_of_cell cX0_1_11)).trans cX0_1_11
  clear cX0_0_11 cX0_1_11
  have SX1_12 := SX1_11.below hb12 (by omega)
  have FT1_12 := own_mk oT1
  have ST1_12 := Same.refl w11.heap.size w12.heap.size w12
  go_wp2_with fail; ((with_reducible refine (eqInt64S_b _ _ n1 n1 n1 xs1 _ (FX1_8.same SX1_12).reads (FT1_12.same ST1_12).reads (by omega)).mono ?_); rintro e w13 ⟨rfl, hb13⟩)
  have z13 : w12.heap.size ≤ w13.heap.size := hb13.size
  have B13 : Below w.heap.size w w13 := B12.trans (hb13.mono B12.size)
  have cP0_0_13 : w13.cell? ⟨w.heap.size, 0, none⟩ = some (.int .i64 J0) := (hb13.cell (block_lt_of_cell cP0_0_12)).trans cP0_0_12
  have cP0_1_13 : w13.cell? ⟨w.heap.size, 1, none⟩ = some (.slice A0 n0 c0) := (hb13.cell (block_lt_of_cell cP0_1_12)).trans cP0_1_12
  clear cP0_0_12 cP0_1_12
  have cX0_0_13 : w13.cell? ⟨w6.heap.size, 0, none⟩ = some (.int .i64 J0) := (hb13.cell (block_lt_of_cell cX0_0_12)).trans cX0_0_12
  have cX0_1_13 : w13.cell? ⟨w6.heap.size, 1, none⟩ = some (.slice AX0 n0 n0) := (hb13.cell (block_lt_of_cell cX0_1_12)).trans cX0_1_12
  clear cX0_0_12 cX0_1_12
  have SX1_13 := SX1_12.below hb13 (by omega)
  have ST1_13 := ST1_12.below hb13 (by omega)
  go_wp2
  go_ret
  exact ⟨rfl, B13⟩

set_option maxRecDepth 100000 in
theorem lifted (os : Os) (started : os.Started) (H : Type) (enc : TypeId × Value → H) :
    ReturnsInHanded {} Try.checked os 3 .any (Rows.fnExactReduceMineSpec.pre6 enc Try.prog Try.f3 Rows.fnExactReduceMineRow.domain false) (Rows.fnExactReduceMineSpec.post enc Try.prog Try.f3 false true false false) := by
  refine returnsInHanded_of_change (C := Try.checked) own_ started (by kernel_rfl) Try.func3
    (ChangeSpec.witness6 (enc := enc) (C := Try.checked) false ⟨#[], #[.agg #[.int .i64 0, .slice none 0 0], .slice none 0 0, .int .i64 0, .int .i64 0], []⟩ 12 (by kernel_rfl) (by kernel_rfl) (by kernel_rfl) (by kernel_rfl)) ?_
  intro W base args ds gs before hval0 hW hcnd _
  have hval : ∀ (j : Nat) t v, Try.f3.params[j]? = some t → args[j]? = some v → Value.okWide Try.prog W .any base t v := hval0
  have hW' := hW
  obtain ⟨p, q, hA0, hV, rfl, hfz, hnd⟩ := hW
  have hA : DataW.TrodAll enc Try.prog W 0 (fun _ => true) true Try.f3.params.toList args.toList ds p := hA0
  rw [Try.params3] at hA hval
  obtain ⟨v0, vs0, d0, ds0, p0, q0, hargs, rfl, rfl, h0, r0⟩ := trodAll_cons hA
  obtain ⟨v1, vs1, d1, ds1, p1, q1, rfl, rfl, rfl, h1, r1⟩ := trodAll_cons r0
  obtain ⟨v2, vs2, d2, ds2, p2, q2, rfl, rfl, rfl, h2, r2⟩ := trodAll_cons r1
  obtain ⟨v3, vs3, d3, ds3, p3, q3, rfl, rfl, rfl, h3, r3⟩ := trodAll_cons r2
  obtain ⟨rfl, rfl, rfl⟩ := trodAll_nil r3
  obtain rfl : args = #[v0, v1, v2, v3] := by cases args; simp_all
  obtain ⟨rfl, rfl⟩ := trodVars_none hV
  obtain ⟨J0, A0, n0, c0, xs0, rfl, lc0, gc0, hr0, hm0⟩ := op_mine Try.underlying24 (by kernel_rfl) (by kernel_rfl) Try.underlying2 Try.underlying22 Try.underlying62 (by kernel_rfl) (by kernel_rfl) Try.underlying9 Try.underlying2 Try.underlying2 Try.underlying2 Try.underlying2 Try.underlying2 Try.underlying2 (hval 0 24 v0 rfl rfl) h0
  obtain ⟨A1, n1, c1, xs1, rfl, lc1, gc1, hr1⟩ := op_ints Try.underlying25 Try.underlying2 (by kernel_rfl) (hval 1 25 v1 rfl rfl) h1
  obtain ⟨a2, rfl, la2, ga2⟩ := op_int Try.underlying2 (hval 2 2 v2 rfl rfl) h2
  obtain ⟨a3, rfl, la3, ga3⟩ := op_int Try.underlying2 (hval 3 2 v3 rfl rfl) h3
  clear hA0 hval0
  refine (walk J0 A0 n0 c0 xs0 lc0 gc0 A1 n1 c1 xs1 lc1 gc1 a2 la2 ga2 a3 la3 ga3 W hr0 hm0 hr1).mono fun e W' ⟨he, hb⟩ => ?_
  subst he
  exact ⟨_, rfl, law_post laidOut_ (by kernel_rfl) rfl rfl Try.underlying4 hW' rfl hb⟩

theorem over : Rows.fnExactReduceMineRow.holds Try.pinned (OpenSpec.ofChange Rows.fnExactReduceMineSpec) :=
  OpenClaim.holds_of_wide 3 Try.f3 rfl rfl rfl rfl rfl rfl rfl ⟨rfl, rfl, rfl, rfl, rfl⟩ rfl rfl rfl rfl rfl (by kernel_rfl) Try.func3 (by kernel_rfl)
    (of_decide_eq_true (by kernel_rfl)) (by unfold Func.isWrapper; first | (rw [if_pos (by decide +kernel)]; kernel_rfl) | (rw [if_neg (by decide +kernel)]; exact ⟨rfl, rfl⟩))
    (fun os started H enc _ => lifted os started H enc)

/-- The statement. -/
theorem proved : Rows.FnExactReduceMineSaid := over
#print axioms proved
end Go.Proofs.Ytnfallanjndbcaa.lReduceMine
