/- The law FnExactPressureAt: for all arguments the program's PressureAt and the reference's return the same; no condition. -/
import Derived.Test.YtapophggndlhaaaFrame
import Derived.Test.YtapophggndlhaaaOwn
import Derived.Test.YtapophggndlhaaaFrN
import Derived.Test.YtapophggndlhaaaFanH
import Derived.Test.YtapophggndlhaaaPrsR
namespace Go.Proofs.Ytapophggndlhaaa.lPressureAt
set_option linter.unusedVariables false
set_option linter.unusedSimpArgs false
open Go.ChangeShapes Go.WideShapes Go.ChangeAt Go.RowKit
set_option maxHeartbeats 4000000 in
theorem walk (s0 : ByteArray) (a0 : Int) (A0 : Option Addr) (n0 c0 : Nat) (xs0 : List Row) (ls0 : s0.size ≤ maxLen) (lc0 : n0 ≤ c0) (gc0 : c0 ≤ maxLen) (a1 : Int) (la1 : -9223372036854775808 ≤ a1) (ga1 : a1 ≤ 9223372036854775807) (w : World) (hr0 : RSS w w.heap.size A0 n0 xs0) (hm0 : ∀ r ∈ xs0, r.n ≤ maxLen) :
    Calls Try.prog 4 #[.agg #[.string s0, .int .i64 a0, .slice A0 n0 c0], .int .i64 a1] w fun e w' => e = .returned (.bool true) ∧ Below w.heap.size w w' := by
  have HM0 := Lib.hid hm0
  clear hm0
  have t0 := tot_nonneg xs0
  by_cases hN0 : 1048576 < ((s0.size : Int) + ((n0 : Int) + tot xs0))
  ·  -- too large
    have HN0 := Lib.hid hN0
    have z1 : w.heap.size + 1 ≤ (w.alloc (.cells #[.string s0, .int .i64 a0, .slice A0 n0 c0] 24)).heap.size := by simp
    have B1 : Below w.heap.size w (w.alloc (.cells #[.string s0, .int .i64 a0, .slice A0 n0 c0] 24)) := (Below.refl _ _).alloc (Nat.le_refl _) _
    have cP0_0_1 : (w.alloc (.cells #[.string s0, .int .i64 a0, .slice A0 n0 c0] 24)).cell? ⟨w.heap.size, 0, none⟩ = some (.string s0) := ((Blk.new w 24 #[.string s0, .int .i64 a0, .slice A0 n0 c0]).cell 0).trans rfl
    have cP0_1_1 : (w.alloc (.cells #[.string s0, .int .i64 a0, .slice A0 n0 c0] 24)).cell? ⟨w.heap.size, 1, none⟩ = some (.int .i64 a0) := ((Blk.new w 24 #[.string s0, .int .i64 a0, .slice A0 n0 c0]).cell 1).trans rfl
    have cP0_2_1 : (w.alloc (.cells #[.string s0, .int .i64 a0, .slice A0 n0 c0] 24)).cell? ⟨w.heap.size, 2, none⟩ = some (.slice A0 n0 c0) := ((Blk.new w 24 #[.string s0, .int .i64 a0, .slice A0 n0 c0]).cell 2).trans rfl
    go_enter Try.func4, Try.ntmps4
    have sc0 := szFan_any s0 a0 A0 n0 c0 xs0 (1048576) (w.alloc (.cells #[.string s0, .int .i64 a0, .slice A0 n0 c0] 24)) ls0 ((hr0.below B1).more B1.size) (by omega) (by omega) (by omega) HM0.out
    rw [szI_n (l := 1048576) (s := ((s0.size : Int) + ((n0 : Int) + tot xs0))) (by omega)] at sc0
    go_wp2_with fail; ((with_reducible refine sc0.mono ?_); rintro e w2 ⟨rfl, hb2⟩)
    clear sc0
    have z2 : (w.alloc (.cells #[.string s0, .int .i64 a0, .slice A0 n0 c0] 24)).heap.size ≤ w2.heap.size := hb2.size
    have B2 : Below w.heap.size w w2 := B1.trans (hb2.mono B1.size)
    have cP0_0_2 : w2.cell? ⟨w.heap.size, 0, none⟩ = some (.string s0) := (hb2.cell (block_lt_of_cell cP0_0_1)).trans cP0_0_1
    have cP0_1_2 : w2.cell? ⟨w.heap.size, 1, none⟩ = some (.int .i64 a0) := (hb2.cell (block_lt_of_cell cP0_1_1)).trans cP0_1_1
    have cP0_2_2 : w2.cell? ⟨w.heap.size, 2, none⟩ = some (.slice A0 n0 c0) := (hb2.cell (block_lt_of_cell cP0_2_1)).trans cP0_2_1
    clear cP0_0_1 cP0_1_1 cP0_2_1
    go_wp2
    go_ret
    exact ⟨rfl, B2⟩
  have HY0 := Lib.hid hN0
  have hn0 : n0 ≤ 1048576 := by omega
  have hrn0 : Hid (∀ r ∈ xs0, r.n ≤ 1048576) := fun r hr => by have := tot_mem hr; omega
  have z1 : w.heap.size + 1 ≤ (w.alloc (.cells #[.string s0, .int .i64 a0, .slice A0 n0 c0] 24)).heap.size := by simp
  have B1 : Below w.heap.size w (w.alloc (.cells #[.string s0, .int .i64 a0, .slice A0 n0 c0] 24)) := (Below.refl _ _).alloc (Nat.le_refl _) _
  have cP0_0_1 : (w.alloc (.cells #[.string s0, .int .i64 a0, .slice A0 n0 c0] 24)).cell? ⟨w.heap.size, 0, none⟩ = some (.string s0) := ((Blk.new w 24 #[.string s0, .int .i64 a0, .slice A0 n0 c0]).cell 0).trans rfl
  have cP0_1_1 : (w.alloc (.cells #[.string s0, .int .i64 a0, .slice A0 n0 c0] 24)).cell? ⟨w.heap.size, 1, none⟩ = some (.int .i64 a0) := ((Blk.new w 24 #[.string s0, .int .i64 a0, .slice A0 n0 c0]).cell 1).trans rfl
  have cP0_2_1 : (w.alloc (.cells #[.string s0, .int .i64 a0, .slice A0 n0 c0] 24)).cell? ⟨w.heap.size, 2, none⟩ = some (.slice A0 n0 c0) := ((Blk.new w 24 #[.string s0, .int .i64 a0, .slice A0 n0 c0]).cell 2).trans rfl
  go_enter Try.func4, Try.ntmps4
  have sc0 := szFan_any s0 a0 A0 n0 c0 xs0 (1048576) (w.alloc (.cells #[.string s0, .int .i64 a0, .slice A0 n0 c0] 24)) ls0 ((hr0.below B1).more B1.size) (by omega) (by omega) (by omega) HM0.out
  rw [szI_y (l := 1048576) (s := ((s0.size : Int) + ((n0 : Int) + tot xs0))) (by omega)] at sc0
  go_wp2_with fail; ((with_reducible refine sc0.mono ?_); rintro e w2 ⟨rfl, hb2⟩)
  clear sc0
  have z2 : (w.alloc (.cells #[.string s0, .int .i64 a0, .slice A0 n0 c0] 24)).heap.size ≤ w2.heap.size := hb2.size
  have B2 : Below w.heap.size w w2 := B1.trans (hb2.mono B1.size)
  have cP0_0_2 : w2.cell? ⟨w.heap.size, 0, none⟩ = some (.string s0) := (hb2.cell (block_lt_of_cell cP0_0_1)).trans cP0_0_1
  have cP0_1_2 : w2.cell? ⟨w.heap.size, 1, none⟩ = some (.int .i64 a0) := (hb2.cell (block_lt_of_cell cP0_1_1)).trans cP0_1_1
  have cP0_2_2 : w2.cell? ⟨w.heap.size, 2, none⟩ = some (.slice A0 n0 c0) := (hb2.cell (block_lt_of_cell cP0_2_1)).trans cP0_2_1
  clear cP0_0_1 cP0_1_1 cP0_2_1
  go_wp2_with fail; ((with_reducible refine (toFan_any s0 a0 A0 n0 c0 xs0 _ ls0 ((hr0.below B2).more B2.size) hn0 hrn0.out).mono ?_); rintro e w3 ⟨AS0, rsS0, rfl, oS0, DS0, hb3⟩)
  have z3 : w2.heap.size ≤ w3.heap.size := hb3.size
  have B3 : Below w.heap.size w w3 := B2.trans (hb3.mono B2.size)
  have cP0_0_3 : w3.cell? ⟨w.heap.size, 0, none⟩ = some (.string s0) := (hb3.cell (block_lt_of_cell cP0_0_2)).trans cP0_0_2
  have cP0_1_3 : w3.cell? ⟨w.heap.size, 1, none⟩ = some (.int .i64 a0) := (hb3.cell (block_lt_of_cell cP0_1_2)).trans cP0_1_2
  have cP0_2_3 : w3.cell? ⟨w.heap.size, 2, none⟩ = some (.slice A0 n0 c0) := (hb3.cell (block_lt_of_cell cP0_2_2)).trans cP0_2_2
  clear cP0_0_2 cP0_1_2 cP0_2_2
  have FS0_3 := oss_mk oS0
  have MS0 := Lib.hid (bound_dat hr0 FS0_3.reads DS0 hrn0.out)
  have HDS0 := Lib.hid DS0
  clear DS0
  have SS0_3 := Same.refl w2.heap.size w3.heap.size w3
  have cc4 := specPressureAt_any s0 a0 AS0 n0 n0 rsS0 a1 w3 ls0 (FS0_3.same SS0_3).reads hn0 MS0.out
  rw [HDS0.out] at cc4
  go_wp2_with fail; ((with_reducible refine (cc4).mono ?_); rintro e w4 ⟨rfl, hb4⟩)
  have z4 : w3.heap.size ≤ w4.heap.size := hb4.size
  have B4 : Below w.heap.size w w4 := B3.trans (hb4.mono B3.size)
  have cP0_0_4 : w4.cell? ⟨w.heap.size, 0, none⟩ = some (.string s0) := (hb4.cell (block_lt_of_cell cP0_0_3)).trans cP0_0_3
  have cP0_1_4 : w4.cell? ⟨w.heap.size, 1, none⟩ = some (.int .i64 a0) := (hb4.cell (block_lt_of_cell cP0_1_3)).trans cP0_1_3
  have cP0_2_4 : w4.cell? ⟨w.heap.size, 2, none⟩ = some (.slice A0 n0 c0) := (hb4.cell (block_lt_of_cell cP0_2_3)).trans cP0_2_3
  clear cP0_0_3 cP0_1_3 cP0_2_3
  have SS0_4 := SS0_3.below hb4 (by omega)
  clear cc4
  go_wp2_with fail; ((with_reducible refine (toFan_any s0 a0 A0 n0 c0 xs0 _ ls0 ((hr0.below B4).more B4.size) hn0 hrn0.out).mono ?_); rintro e w5 ⟨AX0, rsX0, rfl, oX0, DX0, hb5⟩)
  have z5 : w4.heap.size ≤ w5.heap.size := hb5.size
  have B5 : Below w.heap.size w w5 := B4.trans (hb5.mono B4.size)
  have cP0_0_5 : w5.cell? ⟨w.heap.size, 0, none⟩ = some (.string s0) := (hb5.cell (block_lt_of_cell cP0_0_4)).trans cP0_0_4
  have cP0_1_5 : w5.cell? ⟨w.heap.size, 1, none⟩ = some (.int .i64 a0) := (hb5.cell (block_lt_of_cell cP0_1_4)).trans cP0_1_4
  have cP0_2_5 : w5.cell? ⟨w.heap.size, 2, none⟩ = some (.slice A0 n0 c0) := (hb5.cell (block_lt_of_cell cP0_2_4)).trans cP0_2_4
  clear cP0_0_4 cP0_1_4 cP0_2_4
  have FX0_5 := oss_mk oX0
  have MX0 := Lib.hid (bound_dat hr0 FX0_5.reads DX0 hrn0.out)
  have HDX0 := Lib.hid DX0
  clear DX0
  have SX0_5 := Same.refl w4.heap.size w5.heap.size w5
  -- its box
  have z6 : w5.heap.size + 1 ≤ (w5.alloc (.cells #[.string s0, .int .i64 a0, .slice AX0 n0 n0] 26)).heap.size := by simp
  have B6 : Below w.heap.size w (w5.alloc (.cells #[.string s0, .int .i64 a0, .slice AX0 n0 n0] 26)) := B5.alloc B5.size _
  have cP0_0_6 : (w5.alloc (.cells #[.string s0, .int .i64 a0, .slice AX0 n0 n0] 26)).cell? ⟨w.heap.size, 0, none⟩ = some (.string s0) := (World.cell?_alloc_lt _ _ _ (block_lt_of_cell cP0_0_5)).trans cP0_0_5
  have cP0_1_6 : (w5.alloc (.cells #[.string s0, .int .i64 a0, .slice AX0 n0 n0] 26)).cell? ⟨w.heap.size, 1, none⟩ = some (.int .i64 a0) := (World.cell?_alloc_lt _ _ _ (block_lt_of_cell cP0_1_5)).trans cP0_1_5
  have cP0_2_6 : (w5.alloc (.cells #[.string s0, .int .i64 a0, .slice AX0 n0 n0] 26)).cell? ⟨w.heap.size, 2, none⟩ = some (.slice A0 n0 c0) := (World.cell?_alloc_lt _ _ _ (block_lt_of_cell cP0_2_5)).trans cP0_2_5
  clear cP0_0_5 cP0_1_5 cP0_2_5
  have cX0_0_6 : (w5.alloc (.cells #[.string s0, .int .i64 a0, .slice AX0 n0 n0] 26)).cell? ⟨w5.heap.size, 0, none⟩ = some (.string s0) := ((Blk.new w5 26 #[.string s0, .int .i64 a0, .slice AX0 n0 n0]).cell 0).trans rfl
  have cX0_1_6 : (w5.alloc (.cells #[.string s0, .int .i64 a0, .slice AX0 n0 n0] 26)).cell? ⟨w5.heap.size, 1, none⟩ = some (.int .i64 a0) := ((Blk.new w5 26 #[.string s0, .int .i64 a0, .slice AX0 n0 n0]).cell 1).trans rfl
  have cX0_2_6 : (w5.alloc (.cells #[.string s0, .int .i64 a0, .slice AX0 n0 n0] 26)).cell? ⟨w5.heap.size, 2, none⟩ = some (.slice AX0 n0 n0) := ((Blk.new w5 26 #[.string s0, .int .i64 a0, .slice AX0 n0 n0]).cell 2).trans rfl
  have SX0_6 := SX0_5.below (show Below w5.heap.size w5 (w5.alloc (.cells #[.string s0, .int .i64 a0, .slice AX0 n0 n0] 26)) from (Below.refl _ _).alloc (Nat.le_refl _) _) (by omega)
  have cc7 := implPressureAt_any s0 a0 AX0 n0 n0 rsX0 a1 (w5.alloc (.cells #[.string s0, .int .i64 a0, .slice AX0 n0 n0] 26)) ls0 (FX0_5.same SX0_6).reads hn0 MX0.out
  rw [HDX0.out] at cc7
  go_wp2_with fail; ((with_reducible refine (cc7).mono ?_); rintro e w7 ⟨rfl, hb7⟩)
  have z7 : (w5.alloc (.cells #[.string s0, .int .i64 a0, .slice AX0 n0 n0] 26)).heap.size ≤ w7.heap.size := hb7.size
  have B7 : Below w.heap.size w w7 := B6.trans (hb7.mono B6.size)
  have cP0_0_7 : w7.cell? ⟨w.heap.size, 0, none⟩ = some (.string s0) := (hb7.cell (block_lt_of_cell cP0_0_6)).trans cP0_0_6
  have cP0_1_7 : w7.cell? ⟨w.heap.size, 1, none⟩ = some (.int .i64 a0) := (hb7.cell (block_lt_of_cell cP0_1_6)).trans cP0_1_6
  have cP0_2_7 : w7.cell? ⟨w.heap.size, 2, none⟩ = some (.slice A0 n0 c0) := (hb7.cell (block_lt_of_cell cP0_2_6)).trans cP0_2_6
  clear cP0_0_6 cP0_1_6 cP0_2_6
  have cX0_0_7 : w7.cell? ⟨w5.heap.size, 0, none⟩ = some (.string s0) := (hb7.cell (block_lt_of_cell cX0_0_6)).trans cX0_0_6
  have cX0_1_7 : w7.cell? ⟨w5.heap.size, 1, none⟩ = some (.int .i64 a0) := (hb7.cell (block_lt_of_cell cX0_1_6)).trans cX0_1_6
  have cX0_2_7 : w7.cell? ⟨w5.heap.size, 2, none⟩ = some (.slice AX0 n0 n0) := (hb7.cell (block_lt_of_cell cX0_2_6)).trans cX0_2_6
  clear cX0_0_6 cX0_1_6 cX0_2_6
  have SX0_7 := SX0_6.below hb7 (by omega)
  clear cc7
  have RDT0 := (hr0.below (below_drew B7)).more (below_drew B7).size
  have HZT0 : w5.heap.size ≤ w7.drew.heap.size := by show _ ≤ w7.heap.size; omega
  go_wp2_with fail
  go_region_held3 (fun w' => w'.cell? ⟨w.heap.size, 0, none⟩ = some (.string s0) ∧ w'.cell? ⟨w.heap.size, 1, none⟩ = some (.int .i64 a0) ∧ w'.cell? ⟨w.heap.size, 2, none⟩ = some (.slice A0 n0 c0) ∧ w'.cell? ⟨w5.heap.size, 0, none⟩ = some (.string s0) ∧ w'.cell? ⟨w5.heap.size, 1, none⟩ = some (.int .i64 a0) ∧ w'.cell? ⟨w5.heap.size, 2, none⟩ = some (.slice AX0 n0 n0))
    (first | go_keep | (exact ⟨(hb8.cell (block_lt_of_cell cP0_0_7)).trans cP0_0_7, (hb8.cell (block_lt_of_cell cP0_1_7)).trans cP0_1_7, (hb8.cell (block_lt_of_cell cP0_2_7)).trans cP0_2_7, (hb8.cell (block_lt_of_cell cX0_0_7)).trans cX0_0_7, (hb8.cell (block_lt_of_cell cX0_1_7)).trans cX0_1_7, (hb8.cell (block_lt_of_cell cX0_2_7)).trans cX0_2_7⟩) | (exact ⟨(hb9.cell (block_lt_of_cell ((hb8.cell (block_lt_of_cell cP0_0_7)).trans cP0_0_7))).trans ((hb8.cell (block_lt_of_cell cP0_0_7)).trans cP0_0_7), (hb9.cell (block_lt_of_cell ((hb8.cell (block_lt_of_cell cP0_1_7)).trans cP0_1_7))).trans ((hb8.cell (block_lt_of_cell cP0_1_7)).trans cP0_1_7), (hb9.cell (block_lt_of_cell ((hb8.cell (block_lt_of_cell cP0_2_7)).trans cP0_2_7))).trans ((hb8.cell (block_lt_of_cell cP0_2_7)).trans cP0_2_7), (hb9.cell (block_lt_of_cell ((hb8.cell (block_lt_of_cell cX0_0_7)).trans cX0_0_7))).trans ((hb8.cell (block_lt_of_cell cX0_0_7)).trans cX0_0_7), (hb9.cell (block_lt_of_cell ((hb8.cell (block_lt_of_cell cX0_1_7)).trans cX0_1_7))).trans ((hb8.cell (block_lt_of_cell cX0_1_7)).trans cX0_1_7), (hb9.cell (block_lt_of_cell ((hb8.cell (block_lt_of_cell cX0_2_7)).trans cX0_2_7))).trans ((hb8.cell (block_lt_of_cell cX0_2_7)).trans cX0_2_7)⟩))
    ((first | (go_at_call 15; (with_reducible refine (eqFan_b s0 a0 _ _ n0 n0 n0 rsX0 rsT0 _ (FX0_5.same ((SX0_7.drew).below hb8 HZT0)).reads (oss_mk oT0).reads (HDX0.out.trans DT0.symm) (by omega) (fun r hr => Nat.le_trans (MX0.out r hr) (by omega))).mono ?_); rintro e w9 ⟨rfl, hb9⟩) | (go_at_call 13; (with_reducible refine (toFan_any s0 a0 A0 n0 c0 xs0 _ ls0 RDT0 hn0 hrn0.out).mono ?_); rintro e w8 ⟨AT0, rsT0, rfl, oT0, DT0, hb8⟩)))
  replace hb8 : Below w7.heap.size w7 w8 := below_undrew hb8
  have z8 : w7.heap.size ≤ w8.heap.size := hb8.size
  have B8 : Below w.heap.size w w8 := B7.trans (hb8.mono B7.size)
  have cP0_0_8 : w8.cell? ⟨w.heap.size, 0, none⟩ = some (.string s0) := (hb8.cell (block_lt_of_cell cP0_0_7)).trans cP0_0_7
  have cP0_1_8 : w8.cell? ⟨w.heap.size, 1, none⟩ = some (.int .i64 a0) := (hb8.cell (block_lt_of_cell cP0_1_7)).trans cP0_1_7
  have cP0_2_8 : w8.cell? ⟨w.heap.size, 2, none⟩ = some (.slice A0 n0 c0) := (hb8.cell (block_lt_of_cell cP0_2_7)).trans cP0_2_7
  clear cP0_0_7 cP0_1_7 cP0_2_7
  have cX0_0_8 : w8.cell? ⟨w5.heap.size, 0, none⟩ = some (.string s0) := (hb8.cell (block_lt_of_cell cX0_0_7)).trans cX0_0_7
  have cX0_1_8 : w8.cell? ⟨w5.heap.size, 1, none⟩ = some (.int .i64 a0) := (hb8.cell (block_lt_of_cell cX0_1_7)).trans cX0_1_7
  have cX0_2_8 : w8.cell? ⟨w5.heap.size, 2, none⟩ = some (.slice AX0 n0 n0) := (hb8.cell (block_lt_of_cell cX0_2_7)).trans cX0_2_7
  clear cX0_0_7 cX0_1_7 cX0_2_7
  have SX0_8 := SX0_7.below hb8 (by omega)
  have z9 : w8.heap.size ≤ w9.heap.size := hb9.size
  have B9 : Below w.heap.size w w9 := B8.trans (hb9.mono B8.size)
  have cP0_0_9 : w9.cell? ⟨w.heap.size, 0, none⟩ = some (.string s0) := (hb9.cell (block_lt_of_cell cP0_0_8)).trans cP0_0_8
  have cP0_1_9 : w9.cell? ⟨w.heap.size, 1, none⟩ = some (.int .i64 a0) := (hb9.cell (block_lt_of_cell cP0_1_8)).trans cP0_1_8
  have cP0_2_9 : w9.cell? ⟨w.heap.size, 2, none⟩ = some (.slice A0 n0 c0) := (hb9.cell (block_lt_of_cell cP0_2_8)).trans cP0_2_8
  clear cP0_0_8 cP0_1_8 cP0_2_8
  have cX0_0_9 : w9.cell? ⟨w5.heap.size, 0, none⟩ = some (.string s0) := (hb9.cell (block_lt_of_cell cX0_0_8)).trans cX0_0_8
  have cX0_1_9 : w9.cell? ⟨w5.heap.size, 1, none⟩ = some (.int .i64 a0) := (hb9.cell (block_lt_of_cell cX0_1_8)).trans cX0_1_8
  have cX0_2_9 : w9.cell? ⟨w5.heap.size, 2, none⟩ = some (.slice AX0 n0 n0) := (hb9.cell (block_lt_of_cell cX0_2_8)).trans cX0_2_8
  clear cX0_0_8 cX0_1_8 cX0_2_8
  have SX0_9 := SX0_8.below hb9 (by omega)
  go_wp2
  go_ret
  exact ⟨rfl, B9⟩

set_option maxRecDepth 100000 in
theorem lifted (os : Os) (started : os.Started) (H : Type) (enc : TypeId × Value → H) :
    ReturnsInHanded {} Try.checked os 4 .any (Rows.fnExactPressureAtSpec.pre6 enc Try.prog Try.f4 Rows.fnExactPressureAtRow.domain false) (Rows.fnExactPressureAtSpec.post enc Try.prog Try.f4 false true false false) := by
  refine returnsInHanded_of_change (C := Try.checked) own_ started (by kernel_rfl) Try.func4
    (ChangeSpec.witness6 (enc := enc) (C := Try.checked) false ⟨#[], #[.agg #[.string ByteArray.empty, .int .i64 0, .slice none 0 0], .int .i64 0], []⟩ 12 (by kernel_rfl) (by kernel_rfl) (by kernel_rfl) (by kernel_rfl)) ?_
  intro W base args ds gs before hval0 hW hcnd _
  have hval : ∀ (j : Nat) t v, Try.f4.params[j]? = some t → args[j]? = some v → Value.okWide Try.prog W .any base t v := hval0
  have hW' := hW
  obtain ⟨p, q, hA0, hV, rfl, hfz, hnd⟩ := hW
  have hA : DataW.TrodAll enc Try.prog W 0 (fun _ => true) true Try.f4.params.toList args.toList ds p := hA0
  rw [Try.params4] at hA hval
  obtain ⟨v0, vs0, d0, ds0, p0, q0, hargs, rfl, rfl, h0, r0⟩ := trodAll_cons hA
  obtain ⟨v1, vs1, d1, ds1, p1, q1, rfl, rfl, rfl, h1, r1⟩ := trodAll_cons r0
  obtain ⟨rfl, rfl, rfl⟩ := trodAll_nil r1
  obtain rfl : args = #[v0, v1] := by cases args; simp_all
  obtain ⟨rfl, rfl⟩ := trodVars_none hV
  obtain ⟨s0, a0, A0, n0, c0, xs0, rfl, ls0, lc0, gc0, hr0, hm0⟩ := op_fan Try.underlying24 (by kernel_rfl) (by kernel_rfl) Try.underlying9 Try.underlying2 Try.underlying22 Try.underlying53 Try.underlying2 (by kernel_rfl) (by kernel_rfl) (hval 0 24 v0 rfl rfl) h0
  obtain ⟨a1, rfl, la1, ga1⟩ := op_int Try.underlying2 (hval 1 2 v1 rfl rfl) h1
  clear hA0 hval0
  refine (walk s0 a0 A0 n0 c0 xs0 ls0 lc0 gc0 a1 la1 ga1 W hr0 hm0).mono fun e W' ⟨he, hb⟩ => ?_
  subst he
  exact ⟨_, rfl, law_post laidOut_ (by kernel_rfl) rfl rfl Try.underlying4 hW' rfl hb⟩

theorem over : Rows.fnExactPressureAtRow.holds Try.pinned (OpenSpec.ofChange Rows.fnExactPressureAtSpec) :=
  OpenClaim.holds_of_wide 4 Try.f4 rfl rfl rfl rfl rfl rfl rfl ⟨rfl, rfl, rfl, rfl, rfl⟩ rfl rfl rfl rfl rfl (by kernel_rfl) Try.func4 (by kernel_rfl)
    (of_decide_eq_true (by kernel_rfl)) (by unfold Func.isWrapper; first | (rw [if_pos (by decide +kernel)]; kernel_rfl) | (rw [if_neg (by decide +kernel)]; exact ⟨rfl, rfl⟩))
    (fun os started H enc _ => lifted os started H enc)

/-- The statement. -/
theorem proved : Rows.FnExactPressureAtSaid := over
#print axioms proved
end Go.Proofs.Ytapophggndlhaaa.lPressureAt
