/- The law FnExactSpeedFan: for all arguments the program's SpeedFan and the reference's return the same, and the result shares no memory with an argument or with the result of another call; no condition. -/
import Derived.Test.YtapophggndlhaaaFrame
import Derived.Test.YtapophggndlhaaaOwn
import Derived.Test.YtapophggndlhaaaFrN
import Derived.Test.YtapophggndlhaaaFanH
import Derived.Test.YtapophggndlhaaaMkR
import Derived.Test.YtapophggndlhaaaSpi
namespace Go.Proofs.Ytapophggndlhaaa.lSpeedFan
set_option linter.unusedVariables false
set_option linter.unusedSimpArgs false
open Go.ChangeShapes Go.WideShapes Go.ChangeAt Go.RowKit
set_option maxHeartbeats 4000000 in
theorem walk (s0 : ByteArray) (a0 : Int) (A0 : Option Addr) (n0 c0 : Nat) (xs0 : List Row) (ls0 : s0.size ≤ maxLen) (lc0 : n0 ≤ c0) (gc0 : c0 ≤ maxLen) (a1 : Int) (la1 : -9223372036854775808 ≤ a1) (ga1 : a1 ≤ 9223372036854775807) (a2 : Int) (la2 : -9223372036854775808 ≤ a2) (ga2 : a2 ≤ 9223372036854775807) (w : World) (hr0 : RSS w w.heap.size A0 n0 xs0) (hm0 : ∀ r ∈ xs0, r.n ≤ maxLen) :
    Calls Try.prog 3 #[.agg #[.string s0, .int .i64 a0, .slice A0 n0 c0], .int .i64 a1, .int .i64 a2] w fun e w' => e = .returned (.bool true) ∧ Below w.heap.size w w' := by
  have HM0 := Lib.hid hm0
  clear hm0
  have t0 := tot_nonneg xs0
  by_cases hN0 : 1048576 < ((s0.size : Int) + ((n0 : Int) + tot xs0))
  ·  -- too large
    have HN0 := Lib.hid hN0
    have z1 : w.heap.size + 1 ≤ (w.alloc (.cells #[.string s0, .int .i64 a0, .slice A0 n0 c0] 24)).heap.size := by simp
    have B1 : Below w.heap.size w (w.alloc (.cells #[.string s0, .int .i64 a0, .slice A0 n0 c0] 24)) := (Below.refl _ _).alloc (Nat.le_refl _) _
    have cP0_0_1 : (w.alloc (.cells #[.string s0, .int .i64 a0, .slice A0 n0 c0] 24)).cell? ⟨w.heap.size, 0, none⟩ = some (.string s0) := ((Blk.new w 24 #[.string s0, .int .i64 a0, .slice A0 n0 c0]).cell 0).trans rfl
    have cP0_1_1 : (w.alloc (.cells #[.string s0, .int .i64 a0, .slice A0 n0 c0] 24)).cell? ⟨w.heap.size, 1, none⟩ = some (.int .i64 a0) := ((Blk.new w 24 #[.string s0, .int .i64 a0, .slice A0 n0 c0]).cell 1).trans rfl
    have cP0_2_1 : (w.alloc (.cells #[.string s0, .int .i64 a0, .slice A0 n0 c0] 24)).cell? ⟨w.heap.size, 2, none⟩ = some (.slice A0 n0 c0) := ((Blk.new w 24 #[.string s0, .int .i64 a0, .slice A0 n0 c0]).cell 2).trans rfl
    go_enter Try.func3, Try.ntmps3
    have sc0 := szFan_any s0 a0 A0 n0 c0 xs0 (1048576) (w.alloc (.cells #[.string s0, .int .i64 a0, .slice A0 n0 c0] 24)) ls0 ((hr0.below B1).more B1.size) (by omega) (by omega) (by omega) HM0.out
    rw [szI_n (l := 1048576) (s := ((s0.size : Int) + ((n0 : Int) + tot xs0))) (by omega)] at sc0
    go_wp2_with fail; ((with_reducible refine sc0.mono ?_); rintro e w2 ⟨rfl, hb2⟩)
    clear sc0
    have z2 : (w.alloc (.cells #[.string s0, .int .i64 a0, .slice A0 n0 c0] 24)).heap.size ≤ w2.heap.size := hb2.size
    have B2 : Below w.heap.size w w2 := B1.trans (hb2.mono B1.size)
    have cP0_0_2 : w2.cell? ⟨w.heap.size, 0, none⟩ = some (.string s0) := (hb2.cell (block_lt_of_cell cP0_0_1)).trans cP0_0_1
    have cP0_1_2 : w2.cell? ⟨w.heap.size, 1, none⟩ = some (.int .i64 a0) := (hb2.cell (block_lt_of_cell cP0_1_1)).trans cP0_1_1
    have cP0_2_2 : w2.cell? ⟨w.heap.size, 2, none⟩ = some (.slice A0 n0 c0) := (hb2.cell (block_lt_of_cell cP0_2_1)).trans cP0_2_1
    clear cP0_0_1 cP0_1_1 cP0_2_1
    go_wp2
    go_ret
    exact ⟨rfl, B2⟩
  have HY0 := Lib.hid hN0
  have hn0 : n0 ≤ 1048576 := by omega
  have hrn0 : Hid (∀ r ∈ xs0, r.n ≤ 1048576) := fun r hr => by have := tot_mem hr; omega
  have z1 : w.heap.size + 1 ≤ (w.alloc (.cells #[.string s0, .int .i64 a0, .slice A0 n0 c0] 24)).heap.size := by simp
  have B1 : Below w.heap.size w (w.alloc (.cells #[.string s0, .int .i64 a0, .slice A0 n0 c0] 24)) := (Below.refl _ _).alloc (Nat.le_refl _) _
  have cP0_0_1 : (w.alloc (.cells #[.string s0, .int .i64 a0, .slice A0 n0 c0] 24)).cell? ⟨w.heap.size, 0, none⟩ = some (.string s0) := ((Blk.new w 24 #[.string s0, .int .i64 a0, .slice A0 n0 c0]).cell 0).trans rfl
  have cP0_1_1 : (w.alloc (.cells #[.string s0, .int .i64 a0, .slice A0 n0 c0] 24)).cell? ⟨w.heap.size, 1, none⟩ = some (.int .i64 a0) := ((Blk.new w 24 #[.string s0, .int .i64 a0, .slice A0 n0 c0]).cell 1).trans rfl
  have cP0_2_1 : (w.alloc (.cells #[.string s0, .int .i64 a0, .slice A0 n0 c0] 24)).cell? ⟨w.heap.size, 2, none⟩ = some (.slice A0 n0 c0) := ((Blk.new w 24 #[.string s0, .int .i64 a0, .slice A0 n0 c0]).cell 2).trans rfl
  go_enter Try.func3, Try.ntmps3
  have sc0 := szFan_any s0 a0 A0 n0 c0 xs0 (1048576) (w.alloc (.cells #[.string s0, .int .i64 a0, .slice A0 n0 c0] 24)) ls0 ((hr0.below B1).more B1.size) (by omega) (by omega) (by omega) HM0.out
  rw [szI_y (l := 1048576) (s := ((s0.size : Int) + ((n0 : Int) + tot xs0))) (by omega)] at sc0
  go_wp2_with fail; ((with_reducible refine sc0.mono ?_); rintro e w2 ⟨rfl, hb2⟩)
  clear sc0
  have z2 : (w.alloc (.cells #[.string s0, .int .i64 a0, .slice A0 n0 c0] 24)).heap.size ≤ w2.heap.size := hb2.size
  have B2 : Below w.heap.size w w2 := B1.trans (hb2.mono B1.size)
  have cP0_0_2 : w2.cell? ⟨w.heap.size, 0, none⟩ = some (.string s0) := (hb2.cell (block_lt_of_cell cP0_0_1)).trans cP0_0_1
  have cP0_1_2 : w2.cell? ⟨w.heap.size, 1, none⟩ = some (.int .i64 a0) := (hb2.cell (block_lt_of_cell cP0_1_1)).trans cP0_1_1
  have cP0_2_2 : w2.cell? ⟨w.heap.size, 2, none⟩ = some (.slice A0 n0 c0) := (hb2.cell (block_lt_of_cell cP0_2_1)).trans cP0_2_1
  clear cP0_0_1 cP0_1_1 cP0_2_1
  obtain ⟨kR, HkR⟩ : ∃ k : Int, Hid (spCode s0 a0 (dat xs0) a1 a2 = k) := ⟨_, rfl⟩
  obtain ⟨sR, HsR⟩ : ∃ s : ByteArray, Hid (okS kR s0 = s) := ⟨_, rfl⟩
  obtain ⟨aR, HaR⟩ : ∃ a : Int, Hid (okA kR a0 = a) := ⟨_, rfl⟩
  obtain ⟨cR, HcR⟩ : ∃ c, Hid (okC kR (spC (dat xs0) a1 a2) = c) := ⟨_, rfl⟩
  go_wp2_with fail; ((with_reducible refine (toFan_any s0 a0 A0 n0 c0 xs0 _ ls0 ((hr0.below B2).more B2.size) hn0 hrn0.out).mono ?_); rintro e w3 ⟨AS0, rsS0, rfl, oS0, DS0, hb3⟩)
  have z3 : w2.heap.size ≤ w3.heap.size := hb3.size
  have B3 : Below w.heap.size w w3 := B2.trans (hb3.mono B2.size)
  have cP0_0_3 : w3.cell? ⟨w.heap.size, 0, none⟩ = some (.string s0) := (hb3.cell (block_lt_of_cell cP0_0_2)).trans cP0_0_2
  have cP0_1_3 : w3.cell? ⟨w.heap.size, 1, none⟩ = some (.int .i64 a0) := (hb3.cell (block_lt_of_cell cP0_1_2)).trans cP0_1_2
  have cP0_2_3 : w3.cell? ⟨w.heap.size, 2, none⟩ = some (.slice A0 n0 c0) := (hb3.cell (block_lt_of_cell cP0_2_2)).trans cP0_2_2
  clear cP0_0_2 cP0_1_2 cP0_2_2
  have FS0_3 := oss_mk oS0
  have MS0 := Lib.hid (bound_dat hr0 FS0_3.reads DS0 hrn0.out)
  have TS0 : tot rsS0 ≤ 1048576 := by rw [tot_eq hr0 FS0_3.reads DS0]; omega
  have TNS0 := tot_nonneg rsS0
  have HDS0 := Lib.hid DS0
  clear DS0
  have SS0_3 := Same.refl w2.heap.size w3.heap.size w3
  have cc4 := specSpeedFan_any s0 a0 AS0 n0 n0 rsS0 a1 a2 w3 ls0 (FS0_3.same SS0_3).reads hn0 MS0.out
  rw [HDS0.out, HkR.out, HsR.out, HaR.out, HcR.out] at cc4
  go_wp2_with fail; ((with_reducible refine (cc4).mono ?_); rintro e w4 ⟨AW, nW, cW, rsW, rfl, oW, DW, hnW, MW', TW, hb4⟩)
  have z4 : w3.heap.size ≤ w4.heap.size := hb4.size
  have B4 : Below w.heap.size w w4 := B3.trans (hb4.mono B3.size)
  have cP0_0_4 : w4.cell? ⟨w.heap.size, 0, none⟩ = some (.string s0) := (hb4.cell (block_lt_of_cell cP0_0_3)).trans cP0_0_3
  have cP0_1_4 : w4.cell? ⟨w.heap.size, 1, none⟩ = some (.int .i64 a0) := (hb4.cell (block_lt_of_cell cP0_1_3)).trans cP0_1_3
  have cP0_2_4 : w4.cell? ⟨w.heap.size, 2, none⟩ = some (.slice A0 n0 c0) := (hb4.cell (block_lt_of_cell cP0_2_3)).trans cP0_2_3
  clear cP0_0_3 cP0_1_3 cP0_2_3
  have SS0_4 := SS0_3.below hb4 (by omega)
  have FW_4 := oss_mk oW
  have MW := Lib.hid MW'
  clear MW'
  have TNW := tot_nonneg rsW
  have HDW := Lib.hid DW
  clear DW
  have SW_4 := Same.refl w3.heap.size w4.heap.size w4
  have z5 : w4.heap.size + 1 ≤ (w4.alloc (.cells #[Value.string sR, .int .i64 aR, .slice AW nW cW] 26)).heap.size := by simp
  have B5 : Below w.heap.size w (w4.alloc (.cells #[Value.string sR, .int .i64 aR, .slice AW nW cW] 26)) := B4.alloc B4.size _
  have cP0_0_5 : (w4.alloc (.cells #[Value.string sR, .int .i64 aR, .slice AW nW cW] 26)).cell? ⟨w.heap.size, 0, none⟩ = some (.string s0) := (World.cell?_alloc_lt _ _ _ (block_lt_of_cell cP0_0_4)).trans cP0_0_4
  have cP0_1_5 : (w4.alloc (.cells #[Value.string sR, .int .i64 aR, .slice AW nW cW] 26)).cell? ⟨w.heap.size, 1, none⟩ = some (.int .i64 a0) := (World.cell?_alloc_lt _ _ _ (block_lt_of_cell cP0_1_4)).trans cP0_1_4
  have cP0_2_5 : (w4.alloc (.cells #[Value.string sR, .int .i64 aR, .slice AW nW cW] 26)).cell? ⟨w.heap.size, 2, none⟩ = some (.slice A0 n0 c0) := (World.cell?_alloc_lt _ _ _ (block_lt_of_cell cP0_2_4)).trans cP0_2_4
  clear cP0_0_4 cP0_1_4 cP0_2_4
  have cW_0_5 : (w4.alloc (.cells #[Value.string sR, .int .i64 aR, .slice AW nW cW] 26)).cell? ⟨w4.heap.size, 0, none⟩ = some (Value.string sR) := ((Blk.new w4 26 #[Value.string sR, .int .i64 aR, .slice AW nW cW]).cell 0).trans rfl
  have cW_1_5 : (w4.alloc (.cells #[Value.string sR, .int .i64 aR, .slice AW nW cW] 26)).cell? ⟨w4.heap.size, 1, none⟩ = some (.int .i64 aR) := ((Blk.new w4 26 #[Value.string sR, .int .i64 aR, .slice AW nW cW]).cell 1).trans rfl
  have cW_2_5 : (w4.alloc (.cells #[Value.string sR, .int .i64 aR, .slice AW nW cW] 26)).cell? ⟨w4.heap.size, 2, none⟩ = some (.slice AW nW cW) := ((Blk.new w4 26 #[Value.string sR, .int .i64 aR, .slice AW nW cW]).cell 2).trans rfl
  have SS0_5 := SS0_4.below (show Below w4.heap.size w4 (w4.alloc (.cells #[Value.string sR, .int .i64 aR, .slice AW nW cW] 26)) from (Below.refl _ _).alloc (Nat.le_refl _) _) (by omega)
  have SW_5 := SW_4.below (show Below w4.heap.size w4 (w4.alloc (.cells #[Value.string sR, .int .i64 aR, .slice AW nW cW] 26)) from (Below.refl _ _).alloc (Nat.le_refl _) _) (by omega)
  clear cc4
  go_wp2_with fail; ((with_reducible refine (toFan_any s0 a0 A0 n0 c0 xs0 _ ls0 ((hr0.below B5).more B5.size) hn0 hrn0.out).mono ?_); rintro e w6 ⟨AX0, rsX0, rfl, oX0, DX0, hb6⟩)
  have z6 : (w4.alloc (.cells #[Value.string sR, .int .i64 aR, .slice AW nW cW] 26)).heap.size ≤ w6.heap.size := hb6.size
  have B6 : Below w.heap.size w w6 := B5.trans (hb6.mono B5.size)
  have cP0_0_6 : w6.cell? ⟨w.heap.size, 0, none⟩ = some (.string s0) := (hb6.cell (block_lt_of_cell cP0_0_5)).trans cP0_0_5
  have cP0_1_6 : w6.cell? ⟨w.heap.size, 1, none⟩ = some (.int .i64 a0) := (hb6.cell (block_lt_of_cell cP0_1_5)).trans cP0_1_5
  have cP0_2_6 : w6.cell? ⟨w.heap.size, 2, none⟩ = some (.slice A0 n0 c0) := (hb6.cell (block_lt_of_cell cP0_2_5)).trans cP0_2_5
  clear cP0_0_5 cP0_1_5 cP0_2_5
  have cW_0_6 : w6.cell? ⟨w4.heap.size, 0, none⟩ = some (Value.string sR) := (hb6.cell (block_lt_of_cell cW_0_5)).trans cW_0_5
  have cW_1_6 : w6.cell? ⟨w4.heap.size, 1, none⟩ = some (.int .i64 aR) := (hb6.cell (block_lt_of_cell cW_1_5)).trans cW_1_5
  have cW_2_6 : w6.cell? ⟨w4.heap.size, 2, none⟩ = some (.slice AW nW cW) := (hb6.cell (block_lt_of_cell cW_2_5)).trans cW_2_5
  clear cW_0_5 cW_1_5 cW_2_5
  have SW_6 := SW_5.below hb6 (by omega)
  rw [show (w4.alloc (.cells #[Value.string sR, .int .i64 aR, .slice AW nW cW] 26)).heap.size = (w4.heap.size + 1) by simp] at oX0
  have FX0_6 := oss_mk oX0
  have MX0 := Lib.hid (bound_dat hr0 FX0_6.reads DX0 hrn0.out)
  have TX0 : tot rsX0 ≤ 1048576 := by rw [tot_eq hr0 FX0_6.reads DX0]; omega
  have TNX0 := tot_nonneg rsX0
  have HDX0 := Lib.hid DX0
  clear DX0
  have SX0_6 := Same.refl (w4.heap.size + 1) w6.heap.size w6
  -- its box
  have z7 : w6.heap.size + 1 ≤ (w6.alloc (.cells #[.string s0, .int .i64 a0, .slice AX0 n0 n0] 26)).heap.size := by simp
  have B7 : Below w.heap.size w (w6.alloc (.cells #[.string s0, .int .i64 a0, .slice AX0 n0 n0] 26)) := B6.alloc B6.size _
  have cP0_0_7 : (w6.alloc (.cells #[.string s0, .int .i64 a0, .slice AX0 n0 n0] 26)).cell? ⟨w.heap.size, 0, none⟩ = some (.string s0) := (World.cell?_alloc_lt _ _ _ (block_lt_of_cell cP0_0_6)).trans cP0_0_6
  have cP0_1_7 : (w6.alloc (.cells #[.string s0, .int .i64 a0, .slice AX0 n0 n0] 26)).cell? ⟨w.heap.size, 1, none⟩ = some (.int .i64 a0) := (World.cell?_alloc_lt _ _ _ (block_lt_of_cell cP0_1_6)).trans cP0_1_6
  have cP0_2_7 : (w6.alloc (.cells #[.string s0, .int .i64 a0, .slice AX0 n0 n0] 26)).cell? ⟨w.heap.size, 2, none⟩ = some (.slice A0 n0 c0) := (World.cell?_alloc_lt _ _ _ (block_lt_of_cell cP0_2_6)).trans cP0_2_6
  clear cP0_0_6 cP0_1_6 cP0_2_6
  have cW_0_7 : (w6.alloc (.cells #[.string s0, .int .i64 a0, .slice AX0 n0 n0] 26)).cell? ⟨w4.heap.size, 0, none⟩ = some (Value.string sR) := (World.cell?_alloc_lt _ _ _ (block_lt_of_cell cW_0_6)).trans cW_0_6
  have cW_1_7 : (w6.alloc (.cells #[.string s0, .int .i64 a0, .slice AX0 n0 n0] 26)).cell? ⟨w4.heap.size, 1, none⟩ = some (.int .i64 aR) := (World.cell?_alloc_lt _ _ _ (block_lt_of_cell cW_1_6)).trans cW_1_6
  have cW_2_7 : (w6.alloc (.cells #[.string s0, .int .i64 a0, .slice AX0 n0 n0] 26)).cell? ⟨w4.heap.size, 2, none⟩ = some (.slice AW nW cW) := (World.cell?_alloc_lt _ _ _ (block_lt_of_cell cW_2_6)).trans cW_2_6
  clear cW_0_6 cW_1_6 cW_2_6
  have cX0_0_7 : (w6.alloc (.cells #[.string s0, .int .i64 a0, .slice AX0 n0 n0] 26)).cell? ⟨w6.heap.size, 0, none⟩ = some (.string s0) := ((Blk.new w6 26 #[.string s0, .int .i64 a0, .slice AX0 n0 n0]).cell 0).trans rfl
  have cX0_1_7 : (w6.alloc (.cells #[.string s0, .int .i64 a0, .slice AX0 n0 n0] 26)).cell? ⟨w6.heap.size, 1, none⟩ = some (.int .i64 a0) := ((Blk.new w6 26 #[.string s0, .int .i64 a0, .slice AX0 n0 n0]).cell 1).trans rfl
  have cX0_2_7 : (w6.alloc (.cells #[.string s0, .int .i64 a0, .slice AX0 n0 n0] 26)).cell? ⟨w6.heap.size, 2, none⟩ = some (.slice AX0 n0 n0) := ((Blk.new w6 26 #[.string s0, .int .i64 a0, .slice AX0 n0 n0]).cell 2).trans rfl
  have SW_7 := SW_6.below (show Below w6.heap.size w6 (w6.alloc (.cells #[.string s0, .int .i64 a0, .slice AX0 n0 n0] 26)) from (Below.refl _ _).alloc (Nat.le_refl _) _) (by omega)
  have SX0_7 := SX0_6.below (show Below w6.heap.size w6 (w6.alloc (.cells #[.string s0, .int .i64 a0, .slice AX0 n0 n0] 26)) from (Below.refl _ _).alloc (Nat.le_refl _) _) (by omega)
  have cc8 := implSpeedFan_any s0 a0 AX0 n0 n0 rsX0 a1 a2 (w6.alloc (.cells #[.string s0, .int .i64 a0, .slice AX0 n0 n0] 26)) ls0 (FX0_6.same SX0_7).reads hn0 MX0.out
  rw [HDX0.out, HkR.out, HsR.out, HaR.out, HcR.out] at cc8
  go_wp2_with fail; ((with_reducible refine (cc8).mono ?_); rintro e w8 ⟨AG, nG, cG, rsG, rfl, oG, DG, hnG, MG', TG, hb8⟩)
  have z8 : (w6.alloc (.cells #[.string s0, .int .i64 a0, .slice AX0 n0 n0] 26)).heap.size ≤ w8.heap.size := hb8.size
  have B8 : Below w.heap.size w w8 := B7.trans (hb8.mono B7.size)
  have cP0_0_8 : w8.cell? ⟨w.heap.size, 0, none⟩ = some (.string s0) := (hb8.cell (block_lt_of_cell cP0_0_7)).trans cP0_0_7
  have cP0_1_8 : w8.cell? ⟨w.heap.size, 1, none⟩ = some (.int .i64 a0) := (hb8.cell (block_lt_of_cell cP0_1_7)).trans cP0_1_7
  have cP0_2_8 : w8.cell? ⟨w.heap.size, 2, none⟩ = some (.slice A0 n0 c0) := (hb8.cell (block_lt_of_cell cP0_2_7)).trans cP0_2_7
  clear cP0_0_7 cP0_1_7 cP0_2_7
  have cW_0_8 : w8.cell? ⟨w4.heap.size, 0, none⟩ = some (Value.string sR) := (hb8.cell (block_lt_of_cell cW_0_7)).trans cW_0_7
  have cW_1_8 : w8.cell? ⟨w4.heap.size, 1, none⟩ = some (.int .i64 aR) := (hb8.cell (block_lt_of_cell cW_1_7)).trans cW_1_7
  have cW_2_8 : w8.cell? ⟨w4.heap.size, 2, none⟩ = some (.slice AW nW cW) := (hb8.cell (block_lt_of_cell cW_2_7)).trans cW_2_7
  clear cW_0_7 cW_1_7 cW_2_7
  have cX0_0_8 : w8.cell? ⟨w6.heap.size, 0, none⟩ = some (.string s0) := (hb8.cell (block_lt_of_cell cX0_0_7)).trans cX0_0_7
  have cX0_1_8 : w8.cell? ⟨w6.heap.size, 1, none⟩ = some (.int .i64 a0) := (hb8.cell (block_lt_of_cell cX0_1_7)).trans cX0_1_7
  have cX0_2_8 : w8.cell? ⟨w6.heap.size, 2, none⟩ = some (.slice AX0 n0 n0) := (hb8.cell (block_lt_of_cell cX0_2_7)).trans cX0_2_7
  clear cX0_0_7 cX0_1_7 cX0_2_7
  have SW_8 := SW_7.below hb8 (by omega)
  have SX0_8 := SX0_7.below hb8 (by omega)
  rw [show (w6.alloc (.cells #[.string s0, .int .i64 a0, .slice AX0 n0 n0] 26)).heap.size = (w6.heap.size + 1) by simp] at oG
  have FG_8 := oss_mk oG
  have MG := Lib.hid MG'
  clear MG'
  have TNG := tot_nonneg rsG
  have HDG := Lib.hid DG
  clear DG
  have SG_8 := Same.refl (w6.heap.size + 1) w8.heap.size w8
  have z9 : w8.heap.size + 1 ≤ (w8.alloc (.cells #[Value.string sR, .int .i64 aR, .slice AG nG cG] 26)).heap.size := by simp
  have B9 : Below w.heap.size w (w8.alloc (.cells #[Value.string sR, .int .i64 aR, .slice AG nG cG] 26)) := B8.alloc B8.size _
  have cP0_0_9 : (w8.alloc (.cells #[Value.string sR, .int .i64 aR, .slice AG nG cG] 26)).cell? ⟨w.heap.size, 0, none⟩ = some (.string s0) := (World.cell?_alloc_lt _ _ _ (block_lt_of_cell cP0_0_8)).trans cP0_0_8
  have cP0_1_9 : (w8.alloc (.cells #[Value.string sR, .int .i64 aR, .slice AG nG cG] 26)).cell? ⟨w.heap.size, 1, none⟩ = some (.int .i64 a0) := (World.cell?_alloc_lt _ _ _ (block_lt_of_cell cP0_1_8)).trans cP0_1_8
  have cP0_2_9 : (w8.alloc (.cells #[Value.string sR, .int .i64 aR, .slice AG nG cG] 26)).cell? ⟨w.heap.size, 2, none⟩ = some (.slice A0 n0 c0) := (World.cell?_alloc_lt _ _ _ (block_lt_of_cell cP0_2_8)).trans cP0_2_8
  clear cP0_0_8 cP0_1_8 cP0_2_8
  have cW_0_9 : (w8.alloc (.cells #[Value.string sR, .int .i64 aR, .slice AG nG cG] 26)).cell? ⟨w4.heap.size, 0, none⟩ = some (Value.string sR) := (World.cell?_alloc_lt _ _ _ (block_lt_of_cell cW_0_8)).trans cW_0_8
  have cW_1_9 : (w8.alloc (.cells #[Value.string sR, .int .i64 aR, .slice AG nG cG] 26)).cell? ⟨w4.heap.size, 1, none⟩ = some (.int .i64 aR) := (World.cell?_alloc_lt _ _ _ (block_lt_of_cell cW_1_8)).trans cW_1_8
  have cW_2_9 : (w8.alloc (.cells #[Value.string sR, .int .i64 aR, .slice AG nG cG] 26)).cell? ⟨w4.heap.size, 2, none⟩ = some (.slice AW nW cW) := (World.cell?_alloc_lt _ _ _ (block_lt_of_cell cW_2_8)).trans cW_2_8
  clear cW_0_8 cW_1_8 cW_2_8
  have cX0_0_9 : (w8.alloc (.cells #[Value.string sR, .int .i64 aR, .slice AG nG cG] 26)).cell? ⟨w6.heap.size, 0, none⟩ = some (.string s0) := (World.cell?_alloc_lt _ _ _ (block_lt_of_cell cX0_0_8)).trans cX0_0_8
  have cX0_1_9 : (w8.alloc (.cells #[Value.string sR, .int .i64 aR, .slice AG nG cG] 26)).cell? ⟨w6.heap.size, 1, none⟩ = some (.int .i64 a0) := (World.cell?_alloc_lt _ _ _ (block_lt_of_cell cX0_1_8)).trans cX0_1_8
  have cX0_2_9 : (w8.alloc (.cells #[Value.string sR, .int .i64 aR, .slice AG nG cG] 26)).cell? ⟨w6.heap.size, 2, none⟩ = some (.slice AX0 n0 n0) := (World.cell?_alloc_lt _ _ _ (block_lt_of_cell cX0_2_8)).trans cX0_2_8
  clear cX0_0_8 cX0_1_8 cX0_2_8
  have cG_0_9 : (w8.alloc (.cells #[Value.string sR, .int .i64 aR, .slice AG nG cG] 26)).cell? ⟨w8.heap.size, 0, none⟩ = some (Value.string sR) := ((Blk.new w8 26 #[Value.string sR, .int .i64 aR, .slice AG nG cG]).cell 0).trans rfl
  have cG_1_9 : (w8.alloc (.cells #[Value.string sR, .int .i64 aR, .slice AG nG cG] 26)).cell? ⟨w8.heap.size, 1, none⟩ = some (.int .i64 aR) := ((Blk.new w8 26 #[Value.string sR, .int .i64 aR, .slice AG nG cG]).cell 1).trans rfl
  have cG_2_9 : (w8.alloc (.cells #[Value.string sR, .int .i64 aR, .slice AG nG cG] 26)).cell? ⟨w8.heap.size, 2, none⟩ = some (.slice AG nG cG) := ((Blk.new w8 26 #[Value.string sR, .int .i64 aR, .slice AG nG cG]).cell 2).trans rfl
  have SW_9 := SW_8.below (show Below w8.heap.size w8 (w8.alloc (.cells #[Value.string sR, .int .i64 aR, .slice AG nG cG] 26)) from (Below.refl _ _).alloc (Nat.le_refl _) _) (by omega)
  have SX0_9 := SX0_8.below (show Below w8.heap.size w8 (w8.alloc (.cells #[Value.string sR, .int .i64 aR, .slice AG nG cG] 26)) from (Below.refl _ _).alloc (Nat.le_refl _) _) (by omega)
  have SG_9 := SG_8.below (show Below w8.heap.size w8 (w8.alloc (.cells #[Value.string sR, .int .i64 aR, .slice AG nG cG] 26)) from (Below.refl _ _).alloc (Nat.le_refl _) _) (by omega)
  clear cc8
  obtain rfl : nG = nW := by have h1 := FG_8.reads.len; have h2 := FW_4.reads.len; have h3 := dat_len rsG; have h4 := dat_len rsW; rw [HDG.out] at h3; rw [HDW.out] at h4; omega
  go_wp2_with fail; ((with_reducible refine (eqFan_b sR aR _ _ nG cG cW rsG rsW _ (FG_8.same SG_9).reads (FW_4.same SW_9).reads (HDG.out.trans HDW.out.symm) (by omega) (fun r hr => Nat.le_trans (MG.out r hr) (by omega))).mono ?_); rintro e w10 ⟨rfl, hb10⟩)
  have z10 : (w8.alloc (.cells #[Value.string sR, .int .i64 aR, .slice AG nG cG] 26)).heap.size ≤ w10.heap.size := hb10.size
  have B10 : Below w.heap.size w w10 := B9.trans (hb10.mono B9.size)
  have cP0_0_10 : w10.cell? ⟨w.heap.size, 0, none⟩ = some (.string s0) := (hb10.cell (block_lt_of_cell cP0_0_9)).trans cP0_0_9
  have cP0_1_10 : w10.cell? ⟨w.heap.size, 1, none⟩ = some (.int .i64 a0) := (hb10.cell (block_lt_of_cell cP0_1_9)).trans cP0_1_9
  have cP0_2_10 : w10.cell? ⟨w.heap.size, 2, none⟩ = some (.slice A0 n0 c0) := (hb10.cell (block_lt_of_cell cP0_2_9)).trans cP0_2_9
  clear cP0_0_9 cP0_1_9 cP0_2_9
  have cW_0_10 : w10.cell? ⟨w4.heap.size, 0, none⟩ = some (Value.string sR) := (hb10.cell (block_lt_of_cell cW_0_9)).trans cW_0_9
  have cW_1_10 : w10.cell? ⟨w4.heap.size, 1, none⟩ = some (.int .i64 aR) := (hb10.cell (block_lt_of_cell cW_1_9)).trans cW_1_9
  have cW_2_10 : w10.cell? ⟨w4.heap.size, 2, none⟩ = some (.slice AW nG cW) := (hb10.cell (block_lt_of_cell cW_2_9)).trans cW_2_9
  clear cW_0_9 cW_1_9 cW_2_9
  have cX0_0_10 : w10.cell? ⟨w6.heap.size, 0, none⟩ = some (.string s0) := (hb10.cell (block_lt_of_cell cX0_0_9)).trans cX0_0_9
  have cX0_1_10 : w10.cell? ⟨w6.heap.size, 1, none⟩ = some (.int .i64 a0) := (hb10.cell (block_lt_of_cell cX0_1_9)).trans cX0_1_9
  have cX0_2_10 : w10.cell? ⟨w6.heap.size, 2, none⟩ = some (.slice AX0 n0 n0) := (hb10.cell (block_lt_of_cell cX0_2_9)).trans cX0_2_9
  clear cX0_0_9 cX0_1_9 cX0_2_9
  have cG_0_10 : w10.cell? ⟨w8.heap.size, 0, none⟩ = some (Value.string sR) := (hb10.cell (block_lt_of_cell cG_0_9)).trans cG_0_9
  have cG_1_10 : w10.cell? ⟨w8.heap.size, 1, none⟩ = some (.int .i64 aR) := (hb10.cell (block_lt_of_cell cG_1_9)).trans cG_1_9
  have cG_2_10 : w10.cell? ⟨w8.heap.size, 2, none⟩ = some (.slice AG nG cG) := (hb10.cell (block_lt_of_cell cG_2_9)).trans cG_2_9
  clear cG_0_9 cG_1_9 cG_2_9
  have SW_10 := SW_9.below hb10 (by omega)
  have SX0_10 := SX0_9.below hb10 (by omega)
  have SG_10 := SG_9.below hb10 (by omega)
  have RDT0 := (hr0.below (below_drew B10)).more (below_drew B10).size
  have HZT0 : w6.heap.size ≤ w10.drew.heap.size := by show _ ≤ w10.heap.size; omega
  go_wp2_with fail
  go_region_held3 (fun w' => w'.cell? ⟨w.heap.size, 0, none⟩ = some (.string s0) ∧ w'.cell? ⟨w.heap.size, 1, none⟩ = some (.int .i64 a0) ∧ w'.cell? ⟨w.heap.size, 2, none⟩ = some (.slice A0 n0 c0) ∧ w'.cell? ⟨w6.heap.size, 0, none⟩ = some (.string s0) ∧ w'.cell? ⟨w6.heap.size, 1, none⟩ = some (.int .i64 a0) ∧ w'.cell? ⟨w6.heap.size, 2, none⟩ = some (.slice AX0 n0 n0))
    (first | go_keep | (exact ⟨(hb11.cell (block_lt_of_cell cP0_0_10)).trans cP0_0_10, (hb11.cell (block_lt_of_cell cP0_1_10)).trans cP0_1_10, (hb11.cell (block_lt_of_cell cP0_2_10)).trans cP0_2_10, (hb11.cell (block_lt_of_cell cX0_0_10)).trans cX0_0_10, (hb11.cell (block_lt_of_cell cX0_1_10)).trans cX0_1_10, (hb11.cell (block_lt_of_cell cX0_2_10)).trans cX0_2_10⟩) | (exact ⟨(hb12.cell (block_lt_of_cell ((hb11.cell (block_lt_of_cell cP0_0_10)).trans cP0_0_10))).trans ((hb11.cell (block_lt_of_cell cP0_0_10)).trans cP0_0_10), (hb12.cell (block_lt_of_cell ((hb11.cell (block_lt_of_cell cP0_1_10)).trans cP0_1_10))).trans ((hb11.cell (block_lt_of_cell cP0_1_10)).trans cP0_1_10), (hb12.cell (block_lt_of_cell ((hb11.cell (block_lt_of_cell cP0_2_10)).trans cP0_2_10))).trans ((hb11.cell (block_lt_of_cell cP0_2_10)).trans cP0_2_10), (hb12.cell (block_lt_of_cell ((hb11.cell (block_lt_of_cell cX0_0_10)).trans cX0_0_10))).trans ((hb11.cell (block_lt_of_cell cX0_0_10)).trans cX0_0_10), (hb12.cell (block_lt_of_cell ((hb11.cell (block_lt_of_cell cX0_1_10)).trans cX0_1_10))).trans ((hb11.cell (block_lt_of_cell cX0_1_10)).trans cX0_1_10), (hb12.cell (block_lt_of_cell ((hb11.cell (block_lt_of_cell cX0_2_10)).trans cX0_2_10))).trans ((hb11.cell (block_lt_of_cell cX0_2_10)).trans cX0_2_10)⟩))
    ((first | (go_at_call 15; (with_reducible refine (eqFan_b s0 a0 _ _ n0 n0 n0 rsX0 rsT0 _ (FX0_6.same ((SX0_10.drew).below hb11 HZT0)).reads (oss_mk oT0).reads (HDX0.out.trans DT0.symm) (by omega) (fun r hr => Nat.le_trans (MX0.out r hr) (by omega))).mono ?_); rintro e w12 ⟨rfl, hb12⟩) | (go_at_call 13; (with_reducible refine (toFan_any s0 a0 A0 n0 c0 xs0 _ ls0 RDT0 hn0 hrn0.out).mono ?_); rintro e w11 ⟨AT0, rsT0, rfl, oT0, DT0, hb11⟩)))
  replace hb11 : Below w10.heap.size w10 w11 := below_undrew hb11
  have z11 : w10.heap.size ≤ w11.heap.size := hb11.size
  have B11 : Below w.heap.size w w11 := B10.trans (hb11.mono B10.size)
  have cP0_0_11 : w11.cell? ⟨w.heap.size, 0, none⟩ = some (.string s0) := (hb11.cell (block_lt_of_cell cP0_0_10)).trans cP0_0_10
  have cP0_1_11 : w11.cell? ⟨w.heap.size, 1, none⟩ = some (.int .i64 a0) := (hb11.cell (block_lt_of_cell cP0_1_10)).trans cP0_1_10
  have cP0_2_11 : w11.cell? ⟨w.heap.size, 2, none⟩ = some (.slice A0 n0 c0) := (hb11.cell (block_lt_of_cell cP0_2_10)).trans cP0_2_10
  clear cP0_0_10 cP0_1_10 cP0_2_10
  have cW_0_11 : w11.cell? ⟨w4.heap.size, 0, none⟩ = some (Value.string sR) := (hb11.cell (block_lt_of_cell cW_0_10)).trans cW_0_10
  have cW_1_11 : w11.cell? ⟨w4.heap.size, 1, none⟩ = some (.int .i64 aR) := (hb11.cell (block_lt_of_cell cW_1_10)).trans cW_1_10
  have cW_2_11 : w11.cell? ⟨w4.heap.size, 2, none⟩ = some (.slice AW nG cW) := (hb11.cell (block_lt_of_cell cW_2_10)).trans cW_2_10
  clear cW_0_10 cW_1_10 cW_2_10
  have cX0_0_11 : w11.cell? ⟨w6.heap.size, 0, none⟩ = some (.string s0) := (hb11.cell (block_lt_of_cell cX0_0_10)).trans cX0_0_10
  have cX0_1_11 : w11.cell? ⟨w6.heap.size, 1, none⟩ = some (.int .i64 a0) := (hb11.cell (block_lt_of_cell cX0_1_10)).trans cX0_1_10
  have cX0_2_11 : w11.cell? ⟨w6.heap.size, 2, none⟩ = some (.slice AX0 n0 n0) := (hb11.cell (block_lt_of_cell cX0_2_10)).trans cX0_2_10
  clear cX0_0_10 cX0_1_10 cX0_2_10
  have cG_0_11 : w11.cell? ⟨w8.heap.size, 0, none⟩ = some (Value.string sR) := (hb11.cell (block_lt_of_cell cG_0_10)).trans cG_0_10
  have cG_1_11 : w11.cell? ⟨w8.heap.size, 1, none⟩ = some (.int .i64 aR) := (hb11.cell (block_lt_of_cell cG_1_10)).trans cG_1_10
  have cG_2_11 : w11.cell? ⟨w8.heap.size, 2, none⟩ = some (.slice AG nG cG) := (hb11.cell (block_lt_of_cell cG_2_10)).trans cG_2_10
  clear cG_0_10 cG_1_10 cG_2_10
  have SW_11 := SW_10.below hb11 (by omega)
  have SX0_11 := SX0_10.below hb11 (by omega)
  have SG_11 := SG_10.below hb11 (by omega)
  have z12 : w11.heap.size ≤ w12.heap.size := hb12.size
  have B12 : Below w.heap.size w w12 := B11.trans (hb12.mono B11.size)
  have cP0_0_12 : w12.cell? ⟨w.heap.size, 0, none⟩ = some (.string s0) := (hb12.cell (block_lt_of_cell cP0_0_11)).trans cP0_0_11
  have cP0_1_12 : w12.cell? ⟨w.heap.size, 1, none⟩ = some (.int .i64 a0) := (hb12.cell (block_lt_of_cell cP0_1_11)).trans cP0_1_11
  have cP0_2_12 : w12.cell? ⟨w.heap.size, 2, none⟩ = some (.slice A0 n0 c0) := (hb12.cell (block_lt_of_cell cP0_2_11)).trans cP0_2_11
  clear cP0_0_11 cP0_1_11 cP0_2_11
  have cW_0_12 : w12.cell? ⟨w4.heap.size, 0, none⟩ = some (Value.string sR) := (hb12.cell (block_lt_of_cell cW_0_11)).trans cW_0_11
  have cW_1_12 : w12.cell? ⟨w4.heap.size, 1, none⟩ = some (.int .i64 aR) := (hb12.cell (block_lt_of_cell cW_1_11)).trans cW_1_11
  have cW_2_12 : w12.cell? ⟨w4.heap.size, 2, none⟩ = some (.slice AW nG cW) := (hb12.cell (block_lt_of_cell cW_2_11)).trans cW_2_11
  clear cW_0_11 cW_1_11 cW_2_11
  have cX0_0_12 : w12.cell? ⟨w6.heap.size, 0, none⟩ = some (.string s0) := (hb12.cell (block_lt_of_cell cX0_0_11)).trans cX0_0_11
  have cX0_1_12 : w12.cell? ⟨w6.heap.size, 1, none⟩ = some (.int .i64 a0) := (hb12.cell (block_lt_of_cell cX0_1_11)).trans cX0_1_11
  have cX0_2_12 : w12.cell? ⟨w6.heap.size, 2, none⟩ = some (.slice AX0 n0 n0) := (hb12.cell (block_lt_of_cell cX0_2_11)).trans cX0_2_11
  clear cX0_0_11 cX0_1_11 cX0_2_11
  have cG_0_12 : w12.cell? ⟨w8.heap.size, 0, none⟩ = some (Value.string sR) := (hb12.cell (block_lt_of_cell cG_0_11)).trans cG_0_11
  have cG_1_12 : w12.cell? ⟨w8.heap.size, 1, none⟩ = some (.int .i64 aR) := (hb12.cell (block_lt_of_cell cG_1_11)).trans cG_1_11
  have cG_2_12 : w12.cell? ⟨w8.heap.size, 2, none⟩ = some (.slice AG nG cG) := (hb12.cell (block_lt_of_cell cG_2_11)).trans cG_2_11
  clear cG_0_11 cG_1_11 cG_2_11
  have SW_12 := SW_11.below hb12 (by omega)
  have SX0_12 := SX0_11.below hb12 (by omega)
  have SG_12 := SG_11.below hb12 (by omega)
  go_wp2_with fail; ((with_reducible refine (markFan_any s0 a0 (w4.heap.size + 1) w6.heap.size AX0 n0 n0 rsX0 (1) w12 (FX0_6.same SX0_12) (by omega) MX0.out TX0 (by omega) (by omega) (by omega)).mono ?_); rintro e w13 ⟨rfl, FX0_13, hb13⟩)
  have hc13 := hb13
  have z13 : w12.heap.size ≤ w13.heap.size := hc13.size
  have B13 : Below w.heap.size w w13 := below_chg B12 hc13 (by omega) B12.size
  have SW_13 := SW_12.chg hc13 (by omega) (Or.inl (by omega))
  have SG_13 := SG_12.chg hc13 (by omega) (Or.inr (by omega))
  have cP0_0_13 : w13.cell? ⟨w.heap.size, 0, none⟩ = some (.string s0) := hc13.cell cP0_0_12 (Or.inl (by first | (show w.heap.size < _; omega) | (show w.heap.size + _ < _; omega)))
  have cP0_1_13 : w13.cell? ⟨w.heap.size, 1, none⟩ = some (.int .i64 a0) := hc13.cell cP0_1_12 (Or.inl (by first | (show w.heap.size < _; omega) | (show w.heap.size + _ < _; omega)))
  have cP0_2_13 : w13.cell? ⟨w.heap.size, 2, none⟩ = some (.slice A0 n0 c0) := hc13.cell cP0_2_12 (Or.inl (by first | (show w.heap.size < _; omega) | (show w.heap.size + _ < _; omega)))
  clear cP0_0_12 cP0_1_12 cP0_2_12
  have cW_0_13 : w13.cell? ⟨w4.heap.size, 0, none⟩ = some (Value.string sR) := hc13.cell cW_0_12 (Or.inl (by show w4.heap.size < _; omega))
  have cW_1_13 : w13.cell? ⟨w4.heap.size, 1, none⟩ = some (.int .i64 aR) := hc13.cell cW_1_12 (Or.inl (by show w4.heap.size < _; omega))
  have cW_2_13 : w13.cell? ⟨w4.heap.size, 2, none⟩ = some (.slice AW nG cW) := hc13.cell cW_2_12 (Or.inl (by show w4.heap.size < _; omega))
  clear cW_0_12 cW_1_12 cW_2_12
  have cX0_0_13 : w13.cell? ⟨w6.heap.size, 0, none⟩ = some (.string s0) := hc13.cell cX0_0_12 (Or.inr (Nat.le_refl _))
  have cX0_1_13 : w13.cell? ⟨w6.heap.size, 1, none⟩ = some (.int .i64 a0) := hc13.cell cX0_1_12 (Or.inr (Nat.le_refl _))
  have cX0_2_13 : w13.cell? ⟨w6.heap.size, 2, none⟩ = some (.slice AX0 n0 n0) := hc13.cell cX0_2_12 (Or.inr (Nat.le_refl _))
  clear cX0_0_12 cX0_1_12 cX0_2_12
  have cG_0_13 : w13.cell? ⟨w8.heap.size, 0, none⟩ = some (Value.string sR) := hc13.cell cG_0_12 (Or.inr (by show _ ≤ w8.heap.size; omega))
  have cG_1_13 : w13.cell? ⟨w8.heap.size, 1, none⟩ = some (.int .i64 aR) := hc13.cell cG_1_12 (Or.inr (by show _ ≤ w8.heap.size; omega))
  have cG_2_13 : w13.cell? ⟨w8.heap.size, 2, none⟩ = some (.slice AG nG cG) := hc13.cell cG_2_12 (Or.inr (by show _ ≤ w8.heap.size; omega))
  clear cG_0_12 cG_1_12 cG_2_12
  have SX0_13 := Same.refl (w4.heap.size + 1) w6.heap.size w13
  go_wp2_with fail; ((with_reducible refine (eqFan_b sR aR _ _ nG cG cW rsG rsW _ (FG_8.same SG_13).reads (FW_4.same SW_13).reads (HDG.out.trans HDW.out.symm) (by omega) (fun r hr => Nat.le_trans (MG.out r hr) (by omega))).mono ?_); rintro e w14 ⟨rfl, hb14⟩)
  have z14 : w13.heap.size ≤ w14.heap.size := hb14.size
  have B14 : Below w.heap.size w w14 := B13.trans (hb14.mono B13.size)
  have cP0_0_14 : w14.cell? ⟨w.heap.size, 0, none⟩ = some (.string s0) := (hb14.cell (block_lt_of_cell cP0_0_13)).trans cP0_0_13
  have cP0_1_14 : w14.cell? ⟨w.heap.size, 1, none⟩ = some (.int .i64 a0) := (hb14.cell (block_lt_of_cell cP0_1_13)).trans cP0_1_13
  have cP0_2_14 : w14.cell? ⟨w.heap.size, 2, none⟩ = some (.slice A0 n0 c0) := (hb14.cell (block_lt_of_cell cP0_2_13)).trans cP0_2_13
  clear cP0_0_13 cP0_1_13 cP0_2_13
  have cW_0_14 : w14.cell? ⟨w4.heap.size, 0, none⟩ = some (Value.string sR) := (hb14.cell (block_lt_of_cell cW_0_13)).trans cW_0_13
  have cW_1_14 : w14.cell? ⟨w4.heap.size, 1, none⟩ = some (.int .i64 aR) := (hb14.cell (block_lt_of_cell cW_1_13)).trans cW_1_13
  have cW_2_14 : w14.cell? ⟨w4.heap.size, 2, none⟩ = some (.slice AW nG cW) := (hb14.cell (block_lt_of_cell cW_2_13)).trans cW_2_13
  clear cW_0_13 cW_1_13 cW_2_13
  have cX0_0_14 : w14.cell? ⟨w6.heap.size, 0, none⟩ = some (.string s0) := (hb14.cell (block_lt_of_cell cX0_0_13)).trans cX0_0_13
  have cX0_1_14 : w14.cell? ⟨w6.heap.size, 1, none⟩ = some (.int .i64 a0) := (hb14.cell (block_lt_of_cell cX0_1_13)).trans cX0_1_13
  have cX0_2_14 : w14.cell? ⟨w6.heap.size, 2, none⟩ = some (.slice AX0 n0 n0) := (hb14.cell (block_lt_of_cell cX0_2_13)).trans cX0_2_13
  clear cX0_0_13 cX0_1_13 cX0_2_13
  have cG_0_14 : w14.cell? ⟨w8.heap.size, 0, none⟩ = some (Value.string sR) := (hb14.cell (block_lt_of_cell cG_0_13)).trans cG_0_13
  have cG_1_14 : w14.cell? ⟨w8.heap.size, 1, none⟩ = some (.int .i64 aR) := (hb14.cell (block_lt_of_cell cG_1_13)).trans cG_1_13
  have cG_2_14 : w14.cell? ⟨w8.heap.size, 2, none⟩ = some (.slice AG nG cG) := (hb14.cell (block_lt_of_cell cG_2_13)).trans cG_2_13
  clear cG_0_13 cG_1_13 cG_2_13
  have SW_14 := SW_13.below hb14 (by omega)
  have SG_14 := SG_13.below hb14 (by omega)
  go_wp2_with fail; ((with_reducible refine (markFan_any sR aR (w6.heap.size + 1) w8.heap.size AG nG cG rsG (1) w14 (FG_8.same SG_14) (by omega) MG.out TG (by omega) (by omega) (by omega)).mono ?_); rintro e w15 ⟨rfl, FG_15, hb15⟩)
  have hc15 := hb15
  have z15 : w14.heap.size ≤ w15.heap.size := hc15.size
  have B15 : Below w.heap.size w w15 := below_chg B14 hc15 (by omega) B14.size
  have SW_15 := SW_14.chg hc15 (by omega) (Or.inl (by omega))
  have cP0_0_15 : w15.cell? ⟨w.heap.size, 0, none⟩ = some (.string s0) := hc15.cell cP0_0_14 (Or.inl (by first | (show w.heap.size < _; omega) | (show w.heap.size + _ < _; omega)))
  have cP0_1_15 : w15.cell? ⟨w.heap.size, 1, none⟩ = some (.int .i64 a0) := hc15.cell cP0_1_14 (Or.inl (by first | (show w.heap.size < _; omega) | (show w.heap.size + _ < _; omega)))
  have cP0_2_15 : w15.cell? ⟨w.heap.size, 2, none⟩ = some (.slice A0 n0 c0) := hc15.cell cP0_2_14 (Or.inl (by first | (show w.heap.size < _; omega) | (show w.heap.size + _ < _; omega)))
  clear cP0_0_14 cP0_1_14 cP0_2_14
  have cW_0_15 : w15.cell? ⟨w4.heap.size, 0, none⟩ = some (Value.string sR) := hc15.cell cW_0_14 (Or.inl (by show w4.heap.size < _; omega))
  have cW_1_15 : w15.cell? ⟨w4.heap.size, 1, none⟩ = some (.int .i64 aR) := hc15.cell cW_1_14 (Or.inl (by show w4.heap.size < _; omega))
  have cW_2_15 : w15.cell? ⟨w4.heap.size, 2, none⟩ = some (.slice AW nG cW) := hc15.cell cW_2_14 (Or.inl (by show w4.heap.size < _; omega))
  clear cW_0_14 cW_1_14 cW_2_14
  have cX0_0_15 : w15.cell? ⟨w6.heap.size, 0, none⟩ = some (.string s0) := hc15.cell cX0_0_14 (Or.inl (by show w6.heap.size < _; omega))
  have cX0_1_15 : w15.cell? ⟨w6.heap.size, 1, none⟩ = some (.int .i64 a0) := hc15.cell cX0_1_14 (Or.inl (by show w6.heap.size < _; omega))
  have cX0_2_15 : w15.cell? ⟨w6.heap.size, 2, none⟩ = some (.slice AX0 n0 n0) := hc15.cell cX0_2_14 (Or.inl (by show w6.heap.size < _; omega))
  clear cX0_0_14 cX0_1_14 cX0_2_14
  have cG_0_15 : w15.cell? ⟨w8.heap.size, 0, none⟩ = some (Value.string sR) := hc15.cell cG_0_14 (Or.inr (Nat.le_refl _))
  have cG_1_15 : w15.cell? ⟨w8.heap.size, 1, none⟩ = some (.int .i64 aR) := hc15.cell cG_1_14 (Or.inr (Nat.le_refl _))
  have cG_2_15 : w15.cell? ⟨w8.heap.size, 2, none⟩ = some (.slice AG nG cG) := hc15.cell cG_2_14 (Or.inr (Nat.le_refl _))
  clear cG_0_14 cG_1_14 cG_2_14
  have SG_15 := Same.refl (w6.heap.size + 1) w8.heap.size w15
  go_wp2_with fail; ((with_reducible refine (heldFan_any sR aR AG nG cG rsG 1 w15 (FG_15.same SG_15).reads (by omega) MG.out TG (by omega) (by omega)).mono ?_); rintro e w16 ⟨rfl, hb16⟩)
  have z16 : w15.heap.size ≤ w16.heap.size := hb16.size
  have B16 : Below w.heap.size w w16 := B15.trans (hb16.mono B15.size)
  have cP0_0_16 : w16.cell? ⟨w.heap.size, 0, none⟩ = some (.string s0) := (hb16.cell (block_lt_of_cell cP0_0_15)).trans cP0_0_15
  have cP0_1_16 : w16.cell? ⟨w.heap.size, 1, none⟩ = some (.int .i64 a0) := (hb16.cell (block_lt_of_cell cP0_1_15)).trans cP0_1_15
  have cP0_2_16 : w16.cell? ⟨w.heap.size, 2, none⟩ = some (.slice A0 n0 c0) := (hb16.cell (block_lt_of_cell cP0_2_15)).trans cP0_2_15
  clear cP0_0_15 cP0_1_15 cP0_2_15
  have cW_0_16 : w16.cell? ⟨w4.heap.size, 0, none⟩ = some (Value.string sR) := (hb16.cell (block_lt_of_cell cW_0_15)).trans cW_0_15
  have cW_1_16 : w16.cell? ⟨w4.heap.size, 1, none⟩ = some (.int .i64 aR) := (hb16.cell (block_lt_of_cell cW_1_15)).trans cW_1_15
  have cW_2_16 : w16.cell? ⟨w4.heap.size, 2, none⟩ = some (.slice AW nG cW) := (hb16.cell (block_lt_of_cell cW_2_15)).trans cW_2_15
  clear cW_0_15 cW_1_15 cW_2_15
  have cX0_0_16 : w16.cell? ⟨w6.heap.size, 0, none⟩ = some (.string s0) := (hb16.cell (block_lt_of_cell cX0_0_15)).trans cX0_0_15
  have cX0_1_16 : w16.cell? ⟨w6.heap.size, 1, none⟩ = some (.int .i64 a0) := (hb16.cell (block_lt_of_cell cX0_1_15)).trans cX0_1_15
  have cX0_2_16 : w16.cell? ⟨w6.heap.size, 2, none⟩ = some (.slice AX0 n0 n0) := (hb16.cell (block_lt_of_cell cX0_2_15)).trans cX0_2_15
  clear cX0_0_15 cX0_1_15 cX0_2_15
  have cG_0_16 : w16.cell? ⟨w8.heap.size, 0, none⟩ = some (Value.string sR) := (hb16.cell (block_lt_of_cell cG_0_15)).trans cG_0_15
  have cG_1_16 : w16.cell? ⟨w8.heap.size, 1, none⟩ = some (.int .i64 aR) := (hb16.cell (block_lt_of_cell cG_1_15)).trans cG_1_15
  have cG_2_16 : w16.cell? ⟨w8.heap.size, 2, none⟩ = some (.slice AG nG cG) := (hb16.cell (block_lt_of_cell cG_2_15)).trans cG_2_15
  clear cG_0_15 cG_1_15 cG_2_15
  have SW_16 := SW_15.below hb16 (by omega)
  have SG_16 := SG_15.below hb16 (by omega)
  go_wp2_with fail; ((with_reducible refine (toFan_any s0 a0 A0 n0 c0 xs0 _ ls0 ((hr0.below B16).more B16.size) hn0 hrn0.out).mono ?_); rintro e w17 ⟨AU0, rsU0, rfl, oU0, DU0, hb17⟩)
  have z17 : w16.heap.size ≤ w17.heap.size := hb17.size
  have B17 : Below w.heap.size w w17 := B16.trans (hb17.mono B16.size)
  have cP0_0_17 : w17.cell? ⟨w.heap.size, 0, none⟩ = some (.string s0) := (hb17.cell (block_lt_of_cell cP0_0_16)).trans cP0_0_16
  have cP0_1_17 : w17.cell? ⟨w.heap.size, 1, none⟩ = some (.int .i64 a0) := (hb17.cell (block_lt_of_cell cP0_1_16)).trans cP0_1_16
  have cP0_2_17 : w17.cell? ⟨w.heap.size, 2, none⟩ = some (.slice A0 n0 c0) := (hb17.cell (block_lt_of_cell cP0_2_16)).trans cP0_2_16
  clear cP0_0_16 cP0_1_16 cP0_2_16
  have cW_0_17 : w17.cell? ⟨w4.heap.size, 0, none⟩ = some (Value.string sR) := (hb17.cell (block_lt_of_cell cW_0_16)).trans cW_0_16
  have cW_1_17 : w17.cell? ⟨w4.heap.size, 1, none⟩ = some (.int .i64 aR) := (hb17.cell (block_lt_of_cell cW_1_16)).trans cW_1_16
  have cW_2_17 : w17.cell? ⟨w4.heap.size, 2, none⟩ = some (.slice AW nG cW) := (hb17.cell (block_lt_of_cell cW_2_16)).trans cW_2_16
  clear cW_0_16 cW_1_16 cW_2_16
  have cX0_0_17 : w17.cell? ⟨w6.heap.size, 0, none⟩ = some (.string s0) := (hb17.cell (block_lt_of_cell cX0_0_16)).trans cX0_0_16
  have cX0_1_17 : w17.cell? ⟨w6.heap.size, 1, none⟩ = some (.int .i64 a0) := (hb17.cell (block_lt_of_cell cX0_1_16)).trans cX0_1_16
  have cX0_2_17 : w17.cell? ⟨w6.heap.size, 2, none⟩ = some (.slice AX0 n0 n0) := (hb17.cell (block_lt_of_cell cX0_2_16)).trans cX0_2_16
  clear cX0_0_16 cX0_1_16 cX0_2_16
  have cG_0_17 : w17.cell? ⟨w8.heap.size, 0, none⟩ = some (Value.string sR) := (hb17.cell (block_lt_of_cell cG_0_16)).trans cG_0_16
  have cG_1_17 : w17.cell? ⟨w8.heap.size, 1, none⟩ = some (.int .i64 aR) := (hb17.cell (block_lt_of_cell cG_1_16)).trans cG_1_16
  have cG_2_17 : w17.cell? ⟨w8.heap.size, 2, none⟩ = some (.slice AG nG cG) := (hb17.cell (block_lt_of_cell cG_2_16)).trans cG_2_16
  clear cG_0_16 cG_1_16 cG_2_16
  have SW_17 := SW_16.below hb17 (by omega)
  have SG_17 := SG_16.below hb17 (by omega)
  have FU0_17 := oss_mk oU0
  have MU0 := Lib.hid (bound_dat hr0 FU0_17.reads DU0 hrn0.out)
  have TU0 : tot rsU0 ≤ 1048576 := by rw [tot_eq hr0 FU0_17.reads DU0]; omega
  have TNU0 := tot_nonneg rsU0
  have HDU0 := Lib.hid DU0
  clear DU0
  have SU0_17 := Same.refl w16.heap.size w17.heap.size w17
  have cc18 := implSpeedFan_any s0 a0 AU0 n0 n0 rsU0 a1 a2 w17 ls0 (FU0_17.same SU0_17).reads hn0 MU0.out
  rw [HDU0.out, HkR.out, HsR.out, HaR.out, HcR.out] at cc18
  go_wp2_with fail; ((with_reducible refine (cc18).mono ?_); rintro e w18 ⟨AH, nH, cH, rsH, rfl, oH, DH, hnH, MH', TH, hb18⟩)
  have z18 : w17.heap.size ≤ w18.heap.size := hb18.size
  have B18 : Below w.heap.size w w18 := B17.trans (hb18.mono B17.size)
  have cP0_0_18 : w18.cell? ⟨w.heap.size, 0, none⟩ = some (.string s0) := (hb18.cell (block_lt_of_cell cP0_0_17)).trans cP0_0_17
  have cP0_1_18 : w18.cell? ⟨w.heap.size, 1, none⟩ = some (.int .i64 a0) := (hb18.cell (block_lt_of_cell cP0_1_17)).trans cP0_1_17
  have cP0_2_18 : w18.cell? ⟨w.heap.size, 2, none⟩ = some (.slice A0 n0 c0) := (hb18.cell (block_lt_of_cell cP0_2_17)).trans cP0_2_17
  clear cP0_0_17 cP0_1_17 cP0_2_17
  have cW_0_18 : w18.cell? ⟨w4.heap.size, 0, none⟩ = some (Value.string sR) := (hb18.cell (block_lt_of_cell cW_0_17)).trans cW_0_17
  have cW_1_18 : w18.cell? ⟨w4.heap.size, 1, none⟩ = some (.int .i64 aR) := (hb18.cell (block_lt_of_cell cW_1_17)).trans cW_1_17
  have cW_2_18 : w18.cell? ⟨w4.heap.size, 2, none⟩ = some (.slice AW nG cW) := (hb18.cell (block_lt_of_cell cW_2_17)).trans cW_2_17
  clear cW_0_17 cW_1_17 cW_2_17
  have cX0_0_18 : w18.cell? ⟨w6.heap.size, 0, none⟩ = some (.string s0) := (hb18.cell (block_lt_of_cell cX0_0_17)).trans cX0_0_17
  have cX0_1_18 : w18.cell? ⟨w6.heap.size, 1, none⟩ = some (.int .i64 a0) := (hb18.cell (block_lt_of_cell cX0_1_17)).trans cX0_1_17
  have cX0_2_18 : w18.cell? ⟨w6.heap.size, 2, none⟩ = some (.slice AX0 n0 n0) := (hb18.cell (block_lt_of_cell cX0_2_17)).trans cX0_2_17
  clear cX0_0_17 cX0_1_17 cX0_2_17
  have cG_0_18 : w18.cell? ⟨w8.heap.size, 0, none⟩ = some (Value.string sR) := (hb18.cell (block_lt_of_cell cG_0_17)).trans cG_0_17
  have cG_1_18 : w18.cell? ⟨w8.heap.size, 1, none⟩ = some (.int .i64 aR) := (hb18.cell (block_lt_of_cell cG_1_17)).trans cG_1_17
  have cG_2_18 : w18.cell? ⟨w8.heap.size, 2, none⟩ = some (.slice AG nG cG) := (hb18.cell (block_lt_of_cell cG_2_17)).trans cG_2_17
  clear cG_0_17 cG_1_17 cG_2_17
  have SW_18 := SW_17.below hb18 (by omega)
  have SG_18 := SG_17.below hb18 (by omega)
  have SU0_18 := SU0_17.below hb18 (by omega)
  have FH_18 := oss_mk oH
  have MH := Lib.hid MH'
  clear MH'
  have TNH := tot_nonneg rsH
  have HDH := Lib.hid DH
  clear DH
  have SH_18 := Same.refl w17.heap.size w18.heap.size w18
  have z19 : w18.heap.size + 1 ≤ (w18.alloc (.cells #[Value.string sR, .int .i64 aR, .slice AH nH cH] 26)).heap.size := by simp
  have B19 : Below w.heap.size w (w18.alloc (.cells #[Value.string sR, .int .i64 aR, .slice AH nH cH] 26)) := B18.alloc B18.size _
  have cP0_0_19 : (w18.alloc (.cells #[Value.string sR, .int .i64 aR, .slice AH nH cH] 26)).cell? ⟨w.heap.size, 0, none⟩ = some (.string s0) := (World.cell?_alloc_lt _ _ _ (block_lt_of_cell cP0_0_18)).trans cP0_0_18
  have cP0_1_19 : (w18.alloc (.cells #[Value.string sR, .int .i64 aR, .slice AH nH cH] 26)).cell? ⟨w.heap.size, 1, none⟩ = some (.int .i64 a0) := (World.cell?_alloc_lt _ _ _ (block_lt_of_cell cP0_1_18)).trans cP0_1_18
  have cP0_2_19 : (w18.alloc (.cells #[Value.string sR, .int .i64 aR, .slice AH nH cH] 26)).cell? ⟨w.heap.size, 2, none⟩ = some (.slice A0 n0 c0) := (World.cell?_alloc_lt _ _ _ (block_lt_of_cell cP0_2_18)).trans cP0_2_18
  clear cP0_0_18 cP0_1_18 cP0_2_18
  have cW_0_19 : (w18.alloc (.cells #[Value.string sR, .int .i64 aR, .slice AH nH cH] 26)).cell? ⟨w4.heap.size, 0, none⟩ = some (Value.string sR) := (World.cell?_alloc_lt _ _ _ (block_lt_of_cell cW_0_18)).trans cW_0_18
  have cW_1_19 : (w18.alloc (.cells #[Value.string sR, .int .i64 aR, .slice AH nH cH] 26)).cell? ⟨w4.heap.size, 1, none⟩ = some (.int .i64 aR) := (World.cell?_alloc_lt _ _ _ (block_lt_of_cell cW_1_18)).trans cW_1_18
  have cW_2_19 : (w18.alloc (.cells #[Value.string sR, .int .i64 aR, .slice AH nH cH] 26)).cell? ⟨w4.heap.size, 2, none⟩ = some (.slice AW nG cW) := (World.cell?_alloc_lt _ _ _ (block_lt_of_cell cW_2_18)).trans cW_2_18
  clear cW_0_18 cW_1_18 cW_2_18
  have cX0_0_19 : (w18.alloc (.cells #[Value.string sR, .int .i64 aR, .slice AH nH cH] 26)).cell? ⟨w6.heap.size, 0, none⟩ = some (.string s0) := (World.cell?_alloc_lt _ _ _ (block_lt_of_cell cX0_0_18)).trans cX0_0_18
  have cX0_1_19 : (w18.alloc (.cells #[Value.string sR, .int .i64 aR, .slice AH nH cH] 26)).cell? ⟨w6.heap.size, 1, none⟩ = some (.int .i64 a0) := (World.cell?_alloc_lt _ _ _ (block_lt_of_cell cX0_1_18)).trans cX0_1_18
  have cX0_2_19 : (w18.alloc (.cells #[Value.string sR, .int .i64 aR, .slice AH nH cH] 26)).cell? ⟨w6.heap.size, 2, none⟩ = some (.slice AX0 n0 n0) := (World.cell?_alloc_lt _ _ _ (block_lt_of_cell cX0_2_18)).trans cX0_2_18
  clear cX0_0_18 cX0_1_18 cX0_2_18
  have cG_0_19 : (w18.alloc (.cells #[Value.string sR, .int .i64 aR, .slice AH nH cH] 26)).cell? ⟨w8.heap.size, 0, none⟩ = some (Value.string sR) := (World.cell?_alloc_lt _ _ _ (block_lt_of_cell cG_0_18)).trans cG_0_18
  have cG_1_19 : (w18.alloc (.cells #[Value.string sR, .int .i64 aR, .slice AH nH cH] 26)).cell? ⟨w8.heap.size, 1, none⟩ = some (.int .i64 aR) := (World.cell?_alloc_lt _ _ _ (block_lt_of_cell cG_1_18)).trans cG_1_18
  have cG_2_19 : (w18.alloc (.cells #[Value.string sR, .int .i64 aR, .slice AH nH cH] 26)).cell? ⟨w8.heap.size, 2, none⟩ = some (.slice AG nG cG) := (World.cell?_alloc_lt _ _ _ (block_lt_of_cell cG_2_18)).trans cG_2_18
  clear cG_0_18 cG_1_18 cG_2_18
  have cH_0_19 : (w18.alloc (.cells #[Value.string sR, .int .i64 aR, .slice AH nH cH] 26)).cell? ⟨w18.heap.size, 0, none⟩ = some (Value.string sR) := ((Blk.new w18 26 #[Value.string sR, .int .i64 aR, .slice AH nH cH]).cell 0).trans rfl
  have cH_1_19 : (w18.alloc (.cells #[Value.string sR, .int .i64 aR, .slice AH nH cH] 26)).cell? ⟨w18.heap.size, 1, none⟩ = some (.int .i64 aR) := ((Blk.new w18 26 #[Value.string sR, .int .i64 aR, .slice AH nH cH]).cell 1).trans rfl
  have cH_2_19 : (w18.alloc (.cells #[Value.string sR, .int .i64 aR, .slice AH nH cH] 26)).cell? ⟨w18.heap.size, 2, none⟩ = some (.slice AH nH cH) := ((Blk.new w18 26 #[Value.string sR, .int .i64 aR, .slice AH nH cH]).cell 2).trans rfl
  have SW_19 := SW_18.below (show Below w18.heap.size w18 (w18.alloc (.cells #[Value.string sR, .int .i64 aR, .slice AH nH cH] 26)) from (Below.refl _ _).alloc (Nat.le_refl _) _) (by omega)
  have SG_19 := SG_18.below (show Below w18.heap.size w18 (w18.alloc (.cells #[Value.string sR, .int .i64 aR, .slice AH nH cH] 26)) from (Below.refl _ _).alloc (Nat.le_refl _) _) (by omega)
  have SU0_19 := SU0_18.below (show Below w18.heap.size w18 (w18.alloc (.cells #[Value.string sR, .int .i64 aR, .slice AH nH cH] 26)) from (Below.refl _ _).alloc (Nat.le_refl _) _) (by omega)
  have SH_19 := SH_18.below (show Below w18.heap.size w18 (w18.alloc (.cells #[Value.string sR, .int .i64 aR, .slice AH nH cH] 26)) from (Below.refl _ _).alloc (Nat.le_refl _) _) (by omega)
  clear cc18
  obtain rfl : nH = nG := by have h1 := FH_18.reads.len; have h2 := FW_4.reads.len; have h3 := dat_len rsH; have h4 := dat_len rsW; rw [HDH.out] at h3; rw [HDW.out] at h4; omega
  go_wp2_with fail; ((with_reducible refine (eqFan_b sR aR _ _ nH cH cW rsH rsW _ (FH_18.same SH_19).reads (FW_4.same SW_19).reads (HDH.out.trans HDW.out.symm) (by omega) (fun r hr => Nat.le_trans (MH.out r hr) (by omega))).mono ?_); rintro e w20 ⟨rfl, hb20⟩)
  have z20 : (w18.alloc (.cells #[Value.string sR, .int .i64 aR, .slice AH nH cH] 26)).heap.size ≤ w20.heap.size := hb20.size
  have B20 : Below w.heap.size w w20 := B19.trans (hb20.mono B19.size)
  have cP0_0_20 : w20.cell? ⟨w.heap.size, 0, none⟩ = some (.string s0) := (hb20.cell (block_lt_of_cell cP0_0_19)).trans cP0_0_19
  have cP0_1_20 : w20.cell? ⟨w.heap.size, 1, none⟩ = some (.int .i64 a0) := (hb20.cell (block_lt_of_cell cP0_1_19)).trans cP0_1_19
  have cP0_2_20 : w20.cell? ⟨w.heap.size, 2, none⟩ = some (.slice A0 n0 c0) := (hb20.cell (block_lt_of_cell cP0_2_19)).trans cP0_2_19
  clear cP0_0_19 cP0_1_19 cP0_2_19
  have cW_0_20 : w20.cell? ⟨w4.heap.size, 0, none⟩ = some (Value.string sR) := (hb20.cell (block_lt_of_cell cW_0_19)).trans cW_0_19
  have cW_1_20 : w20.cell? ⟨w4.heap.size, 1, none⟩ = some (.int .i64 aR) := (hb20.cell (block_lt_of_cell cW_1_19)).trans cW_1_19
  have cW_2_20 : w20.cell? ⟨w4.heap.size, 2, none⟩ = some (.slice AW nH cW) := (hb20.cell (block_lt_of_cell cW_2_19)).trans cW_2_19
  clear cW_0_19 cW_1_19 cW_2_19
  have cX0_0_20 : w20.cell? ⟨w6.heap.size, 0, none⟩ = some (.string s0) := (hb20.cell (block_lt_of_cell cX0_0_19)).trans cX0_0_19
  have cX0_1_20 : w20.cell? ⟨w6.heap.size, 1, none⟩ = some (.int .i64 a0) := (hb20.cell (block_lt_of_cell cX0_1_19)).trans cX0_1_19
  have cX0_2_20 : w20.cell? ⟨w6.heap.size, 2, none⟩ = some (.slice AX0 n0 n0) := (hb20.cell (block_lt_of_cell cX0_2_19)).trans cX0_2_19
  clear cX0_0_19 cX0_1_19 cX0_2_19
  have cG_0_20 : w20.cell? ⟨w8.heap.size, 0, none⟩ = some (Value.string sR) := (hb20.cell (block_lt_of_cell cG_0_19)).trans cG_0_19
  have cG_1_20 : w20.cell? ⟨w8.heap.size, 1, none⟩ = some (.int .i64 aR) := (hb20.cell (block_lt_of_cell cG_1_19)).trans cG_1_19
  have cG_2_20 : w20.cell? ⟨w8.heap.size, 2, none⟩ = some (.slice AG nH cG) := (hb20.cell (block_lt_of_cell cG_2_19)).trans cG_2_19
  clear cG_0_19 cG_1_19 cG_2_19
  have cH_0_20 : w20.cell? ⟨w18.heap.size, 0, none⟩ = some (Value.string sR) := (hb20.cell (block_lt_of_cell cH_0_19)).trans cH_0_19
  have cH_1_20 : w20.cell? ⟨w18.heap.size, 1, none⟩ = some (.int .i64 aR) := (hb20.cell (block_lt_of_cell cH_1_19)).trans cH_1_19
  have cH_2_20 : w20.cell? ⟨w18.heap.size, 2, none⟩ = some (.slice AH nH cH) := (hb20.cell (block_lt_of_cell cH_2_19)).trans cH_2_19
  clear cH_0_19 cH_1_19 cH_2_19
  have SW_20 := SW_19.below hb20 (by omega)
  have SG_20 := SG_19.below hb20 (by omega)
  have SH_20 := SH_19.below hb20 (by omega)
  go_wp2_with fail; ((with_reducible refine (heldFan_any sR aR AG nH cG rsG 1 w20 (FG_15.same SG_20).reads (by omega) MG.out TG (by omega) (by omega)).mono ?_); rintro e w21 ⟨rfl, hb21⟩)
  have z21 : w20.heap.size ≤ w21.heap.size := hb21.size
  have B21 : Below w.heap.size w w21 := B20.trans (hb21.mono B20.size)
  have cP0_0_21 : w21.cell? ⟨w.heap.size, 0, none⟩ = some (.string s0) := (hb21.cell (block_lt_of_cell cP0_0_20)).trans cP0_0_20
  have cP0_1_21 : w21.cell? ⟨w.heap.size, 1, none⟩ = some (.int .i64 a0) := (hb21.cell (block_lt_of_cell cP0_1_20)).trans cP0_1_20
  have cP0_2_21 : w21.cell? ⟨w.heap.size, 2, none⟩ = some (.slice A0 n0 c0) := (hb21.cell (block_lt_of_cell cP0_2_20)).trans cP0_2_20
  clear cP0_0_20 cP0_1_20 cP0_2_20
  have cW_0_21 : w21.cell? ⟨w4.heap.size, 0, none⟩ = some (Value.string sR) := (hb21.cell (block_lt_of_cell cW_0_20)).trans cW_0_20
  have cW_1_21 : w21.cell? ⟨w4.heap.size, 1, none⟩ = some (.int .i64 aR) := (hb21.cell (block_lt_of_cell cW_1_20)).trans cW_1_20
  have cW_2_21 : w21.cell? ⟨w4.heap.size, 2, none⟩ = some (.slice AW nH cW) := (hb21.cell (block_lt_of_cell cW_2_20)).trans cW_2_20
  clear cW_0_20 cW_1_20 cW_2_20
  have cX0_0_21 : w21.cell? ⟨w6.heap.size, 0, none⟩ = some (.string s0) := (hb21.cell (block_lt_of_cell cX0_0_20)).trans cX0_0_20
  have cX0_1_21 : w21.cell? ⟨w6.heap.size, 1, none⟩ = some (.int .i64 a0) := (hb21.cell (block_lt_of_cell cX0_1_20)).trans cX0_1_20
  have cX0_2_21 : w21.cell? ⟨w6.heap.size, 2, none⟩ = some (.slice AX0 n0 n0) := (hb21.cell (block_lt_of_cell cX0_2_20)).trans cX0_2_20
  clear cX0_0_20 cX0_1_20 cX0_2_20
  have cG_0_21 : w21.cell? ⟨w8.heap.size, 0, none⟩ = some (Value.string sR) := (hb21.cell (block_lt_of_cell cG_0_20)).trans cG_0_20
  have cG_1_21 : w21.cell? ⟨w8.heap.size, 1, none⟩ = some (.int .i64 aR) := (hb21.cell (block_lt_of_cell cG_1_20)).trans cG_1_20
  have cG_2_21 : w21.cell? ⟨w8.heap.size, 2, none⟩ = some (.slice AG nH cG) := (hb21.cell (block_lt_of_cell cG_2_20)).trans cG_2_20
  clear cG_0_20 cG_1_20 cG_2_20
  have cH_0_21 : w21.cell? ⟨w18.heap.size, 0, none⟩ = some (Value.string sR) := (hb21.cell (block_lt_of_cell cH_0_20)).trans cH_0_20
  have cH_1_21 : w21.cell? ⟨w18.heap.size, 1, none⟩ = some (.int .i64 aR) := (hb21.cell (block_lt_of_cell cH_1_20)).trans cH_1_20
  have cH_2_21 : w21.cell? ⟨w18.heap.size, 2, none⟩ = some (.slice AH nH cH) := (hb21.cell (block_lt_of_cell cH_2_20)).trans cH_2_20
  clear cH_0_20 cH_1_20 cH_2_20
  have SW_21 := SW_20.below hb21 (by omega)
  have SG_21 := SG_20.below hb21 (by omega)
  have SH_21 := SH_20.below hb21 (by omega)
  go_wp2
  go_ret
  exact ⟨rfl, B21⟩

set_option maxRecDepth 100000 in
theorem lifted (os : Os) (started : os.Started) (H : Type) (enc : TypeId × Value → H) :
    ReturnsInHanded {} Try.checked os 3 .any (Rows.fnExactSpeedFanSpec.pre6 enc Try.prog Try.f3 Rows.fnExactSpeedFanRow.domain false) (Rows.fnExactSpeedFanSpec.post enc Try.prog Try.f3 false true false false) := by
  refine returnsInHanded_of_change (C := Try.checked) own_ started (by kernel_rfl) Try.func3
    (ChangeSpec.witness6 (enc := enc) (C := Try.checked) false ⟨#[], #[.agg #[.string ByteArray.empty, .int .i64 0, .slice none 0 0], .int .i64 0, .int .i64 0], []⟩ 12 (by kernel_rfl) (by kernel_rfl) (by kernel_rfl) (by kernel_rfl)) ?_
  intro W base args ds gs before hval0 hW hcnd _
  have hval : ∀ (j : Nat) t v, Try.f3.params[j]? = some t → args[j]? = some v → Value.okWide Try.prog W .any base t v := hval0
  have hW' := hW
  obtain ⟨p, q, hA0, hV, rfl, hfz, hnd⟩ := hW
  have hA : DataW.TrodAll enc Try.prog W 0 (fun _ => true) true Try.f3.params.toList args.toList ds p := hA0
  rw [Try.params3] at hA hval
  obtain ⟨v0, vs0, d0, ds0, p0, q0, hargs, rfl, rfl, h0, r0⟩ := trodAll_cons hA
  obtain ⟨v1, vs1, d1, ds1, p1, q1, rfl, rfl, rfl, h1, r1⟩ := trodAll_cons r0
  obtain ⟨v2, vs2, d2, ds2, p2, q2, rfl, rfl, rfl, h2, r2⟩ := trodAll_cons r1
  obtain ⟨rfl, rfl, rfl⟩ := trodAll_nil r2
  obtain rfl : args = #[v0, v1, v2] := by cases args; simp_all
  obtain ⟨rfl, rfl⟩ := trodVars_none hV
  obtain ⟨s0, a0, A0, n0, c0, xs0, rfl, ls0, lc0, gc0, hr0, hm0⟩ := op_fan Try.underlying24 (by kernel_rfl) (by kernel_rfl) Try.underlying9 Try.underlying2 Try.underlying22 Try.underlying53 Try.underlying2 (by kernel_rfl) (by kernel_rfl) (hval 0 24 v0 rfl rfl) h0
  obtain ⟨a1, rfl, la1, ga1⟩ := op_int Try.underlying2 (hval 1 2 v1 rfl rfl) h1
  obtain ⟨a2, rfl, la2, ga2⟩ := op_int Try.underlying2 (hval 2 2 v2 rfl rfl) h2
  clear hA0 hval0
  refine (walk s0 a0 A0 n0 c0 xs0 ls0 lc0 gc0 a1 la1 ga1 a2 la2 ga2 W hr0 hm0).mono fun e W' ⟨he, hb⟩ => ?_
  subst he
  exact ⟨_, rfl, law_post laidOut_ (by kernel_rfl) rfl rfl Try.underlying4 hW' rfl hb⟩

theorem over : Rows.fnExactSpeedFanRow.holds Try.pinned (OpenSpec.ofChange Rows.fnExactSpeedFanSpec) :=
  OpenClaim.holds_of_wide 3 Try.f3 rfl rfl rfl rfl rfl rfl rfl ⟨rfl, rfl, rfl, rfl, rfl⟩ rfl rfl rfl rfl rfl (by kernel_rfl) Try.func3 (by kernel_rfl)
    (of_decide_eq_true (by kernel_rfl)) (by unfold Func.isWrapper; first | (rw [if_pos (by decide +kernel)]; kernel_rfl) | (rw [if_neg (by decide +kernel)]; exact ⟨rfl, rfl⟩))
    (fun os started H enc _ => lifted os started H enc)

/-- The statement. -/
theorem proved : Rows.FnExactSpeedFanSaid := over
#print axioms proved
end Go.Proofs.Ytapophggndlhaaa.lSpeedFan
