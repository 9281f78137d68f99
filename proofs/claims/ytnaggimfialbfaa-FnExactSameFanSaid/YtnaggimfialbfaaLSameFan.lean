/- The law FnExactSameFan: for all arguments the program's SameFan and the reference's return the same; no condition. -/
import Derived.Test.YtnaggimfialbfaaFrame
import Derived.Test.YtnaggimfialbfaaOwn
import Derived.Test.YtnaggimfialbfaaFrN
import Derived.Test.YtnaggimfialbfaaFanS
namespace Go.Proofs.Ytnaggimfialbfaa.lSameFan
set_option linter.unusedVariables false
set_option linter.unusedSimpArgs false
open Go.ChangeShapes Go.WideShapes Go.ChangeAt Go.RowKit
set_option maxHeartbeats 4000000 in
theorem walk (s0 : ByteArray) (a0 : Int) (A0 : Option Addr) (n0 c0 : Nat) (xs0 : List Row) (ls0 : s0.size ≤ maxLen) (lc0 : n0 ≤ c0) (gc0 : c0 ≤ maxLen) (s1 : ByteArray) (a1 : Int) (A1 : Option Addr) (n1 c1 : Nat) (xs1 : List Row) (ls1 : s1.size ≤ maxLen) (lc1 : n1 ≤ c1) (gc1 : c1 ≤ maxLen) (w : World) (hr0 : RSS w w.heap.size A0 n0 xs0) (hm0 : ∀ r ∈ xs0, r.n ≤ maxLen) (hr1 : RSS w w.heap.size A1 n1 xs1) (hm1 : ∀ r ∈ xs1, r.n ≤ maxLen) :
    Calls Try.prog 9 #[.agg #[.string s0, .int .i64 a0, .slice A0 n0 c0], .agg #[.string s1, .int .i64 a1, .slice A1 n1 c1]] w fun e w' => e = .returned (.bool true) ∧ Below w.heap.size w w' := by
  have HM0 := Lib.hid hm0
  clear hm0
  have HM1 := Lib.hid hm1
  clear hm1
  have t0 := tot_nonneg xs0
  by_cases hN0 : 1048576 < ((s0.size : Int) + ((n0 : Int) + tot xs0))
  ·  -- too large
    have HN0 := Lib.hid hN0
    have z1 : w.heap.size + 1 ≤ (w.alloc (.cells #[.string s0, .int .i64 a0, .slice A0 n0 c0] 50)).heap.size := by simp
    have B1 : Below w.heap.size w (w.alloc (.cells #[.string s0, .int .i64 a0, .slice A0 n0 c0] 50)) := (Below.refl _ _).alloc (Nat.le_refl _) _
    have cP0_0_1 : (w.alloc (.cells #[.string s0, .int .i64 a0, .slice A0 n0 c0] 50)).cell? ⟨w.heap.size, 0, none⟩ = some (.string s0) := ((Blk.new w 50 #[.string s0, .int .i64 a0, .slice A0 n0 c0]).cell 0).trans rfl
    have cP0_1_1 : (w.alloc (.cells #[.string s0, .int .i64 a0, .slice A0 n0 c0] 50)).cell? ⟨w.heap.size, 1, none⟩ = some (.int .i64 a0) := ((Blk.new w 50 #[.string s0, .int .i64 a0, .slice A0 n0 c0]).cell 1).trans rfl
    have cP0_2_1 : (w.alloc (.cells #[.string s0, .int .i64 a0, .slice A0 n0 c0] 50)).cell? ⟨w.heap.size, 2, none⟩ = some (.slice A0 n0 c0) := ((Blk.new w 50 #[.string s0, .int .i64 a0, .slice A0 n0 c0]).cell 2).trans rfl
    have z2 : (w.alloc (.cells #[.string s0, .int .i64 a0, .slice A0 n0 c0] 50)).heap.size + 1 ≤ ((w.alloc (.cells #[.string s0, .int .i64 a0, .slice A0 n0 c0] 50)).alloc (.cells #[.string s1, .int .i64 a1, .slice A1 n1 c1] 50)).heap.size := by simp
    have B2 : Below w.heap.size w ((w.alloc (.cells #[.string s0, .int .i64 a0, .slice A0 n0 c0] 50)).alloc (.cells #[.string s1, .int .i64 a1, .slice A1 n1 c1] 50)) := B1.alloc B1.size _
    have cP0_0_2 : ((w.alloc (.cells #[.string s0, .int .i64 a0, .slice A0 n0 c0] 50)).alloc (.cells #[.string s1, .int .i64 a1, .slice A1 n1 c1] 50)).cell? ⟨w.heap.size, 0, none⟩ = some (.string s0) := (World.cell?_alloc_lt _ _ _ (block_lt_of_cell cP0_0_1)).trans cP0_0_1
    have cP0_1_2 : ((w.alloc (.cells #[.string s0, .int .i64 a0, .slice A0 n0 c0] 50)).alloc (.cells #[.string s1, .int .i64 a1, .slice A1 n1 c1] 50)).cell? ⟨w.heap.size, 1, none⟩ = some (.int .i64 a0) := (World.cell?_alloc_lt _ _ _ (block_lt_of_cell cP0_1_1)).trans cP0_1_1
    have cP0_2_2 : ((w.alloc (.cells #[.string s0, .int .i64 a0, .slice A0 n0 c0] 50)).alloc (.cells #[.string s1, .int .i64 a1, .slice A1 n1 c1] 50)).cell? ⟨w.heap.size, 2, none⟩ = some (.slice A0 n0 c0) := (World.cell?_alloc_lt _ _ _ (block_lt_of_cell cP0_2_1)).trans cP0_2_1
    clear cP0_0_1 cP0_1_1 cP0_2_1
    have cP1_0_2 : ((w.alloc (.cells #[.string s0, .int .i64 a0, .slice A0 n0 c0] 50)).alloc (.cells #[.string s1, .int .i64 a1, .slice A1 n1 c1] 50)).cell? ⟨w.heap.size + 1, 0, none⟩ = some (.string s1) := by simp
    have cP1_1_2 : ((w.alloc (.cells #[.string s0, .int .i64 a0, .slice A0 n0 c0] 50)).alloc (.cells #[.string s1, .int .i64 a1, .slice A1 n1 c1] 50)).cell? ⟨w.heap.size + 1, 1, none⟩ = some (.int .i64 a1) := by simp
    have cP1_2_2 : ((w.alloc (.cells #[.string s0, .int .i64 a0, .slice A0 n0 c0] 50)).alloc (.cells #[.string s1, .int .i64 a1, .slice A1 n1 c1] 50)).cell? ⟨w.heap.size + 1, 2, none⟩ = some (.slice A1 n1 c1) := by simp
    go_enter Try.func9, Try.ntmps9
    have sc0 := szFan_any s0 a0 A0 n0 c0 xs0 (1048576) ((w.alloc (.cells #[.string s0, .int .i64 a0, .slice A0 n0 c0] 50)).alloc (.cells #[.string s1, .int .i64 a1, .slice A1 n1 c1] 50)) ls0 ((hr0.below B2).more B2.size) (by omega) (by omega) (by omega) HM0.out
    rw [szI_n (l := 1048576) (s := ((s0.size : Int) + ((n0 : Int) + tot xs0))) (by omega)] at sc0
    go_wp2_with fail; ((with_reducible refine sc0.mono ?_); rintro e w3 ⟨rfl, hb3⟩)
    clear sc0
    have z3 : ((w.alloc (.cells #[.string s0, .int .i64 a0, .slice A0 n0 c0] 50)).alloc (.cells #[.string s1, .int .i64 a1, .slice A1 n1 c1] 50)).heap.size ≤ w3.heap.size := hb3.size
    have B3 : Below w.heap.size w w3 := B2.trans (hb3.mono B2.size)
    have cP0_0_3 : w3.cell? ⟨w.heap.size, 0, none⟩ = some (.string s0) := (hb3.cell (block_lt_of_cell cP0_0_2)).trans cP0_0_2
    have cP0_1_3 : w3.cell? ⟨w.heap.size, 1, none⟩ = some (.int .i64 a0) := (hb3.cell (block_lt_of_cell cP0_1_2)).trans cP0_1_2
    have cP0_2_3 : w3.cell? ⟨w.heap.size, 2, none⟩ = some (.slice A0 n0 c0) := (hb3.cell (block_lt_of_cell cP0_2_2)).trans cP0_2_2
    clear cP0_0_2 cP0_1_2 cP0_2_2
    have cP1_0_3 : w3.cell? ⟨w.heap.size + 1, 0, none⟩ = some (.string s1) := (hb3.cell (block_lt_of_cell cP1_0_2)).trans cP1_0_2
    have cP1_1_3 : w3.cell? ⟨w.heap.size + 1, 1, none⟩ = some (.int .i64 a1) := (hb3.cell (block_lt_of_cell cP1_1_2)).trans cP1_1_2
    have cP1_2_3 : w3.cell? ⟨w.heap.size + 1, 2, none⟩ = some (.slice A1 n1 c1) := (hb3.cell (block_lt_of_cell cP1_2_2)).trans cP1_2_2
    clear cP1_0_2 cP1_1_2 cP1_2_2
    go_wp2
    go_ret
    exact ⟨rfl, B3⟩
  have HY0 := Lib.hid hN0
  have t1 := tot_nonneg xs1
  by_cases hN1 : 1048576 - ((s0.size : Int) + ((n0 : Int) + tot xs0)) < ((s1.size : Int) + ((n1 : Int) + tot xs1))
  ·  -- too large
    have HN1 := Lib.hid hN1
    have z1 : w.heap.size + 1 ≤ (w.alloc (.cells #[.string s0, .int .i64 a0, .slice A0 n0 c0] 50)).heap.size := by simp
    have B1 : Below w.heap.size w (w.alloc (.cells #[.string s0, .int .i64 a0, .slice A0 n0 c0] 50)) := (Below.refl _ _).alloc (Nat.le_refl _) _
    have cP0_0_1 : (w.alloc (.cells #[.string s0, .int .i64 a0, .slice A0 n0 c0] 50)).cell? ⟨w.heap.size, 0, none⟩ = some (.string s0) := ((Blk.new w 50 #[.string s0, .int .i64 a0, .slice A0 n0 c0]).cell 0).trans rfl
    have cP0_1_1 : (w.alloc (.cells #[.string s0, .int .i64 a0, .slice A0 n0 c0] 50)).cell? ⟨w.heap.size, 1, none⟩ = some (.int .i64 a0) := ((Blk.new w 50 #[.string s0, .int .i64 a0, .slice A0 n0 c0]).cell 1).trans rfl
    have cP0_2_1 : (w.alloc (.cells #[.string s0, .int .i64 a0, .slice A0 n0 c0] 50)).cell? ⟨w.heap.size, 2, none⟩ = some (.slice A0 n0 c0) := ((Blk.new w 50 #[.string s0, .int .i64 a0, .slice A0 n0 c0]).cell 2).trans rfl
    have z2 : (w.alloc (.cells #[.string s0, .int .i64 a0, .slice A0 n0 c0] 50)).heap.size + 1 ≤ ((w.alloc (.cells #[.string s0, .int .i64 a0, .slice A0 n0 c0] 50)).alloc (.cells #[.string s1, .int .i64 a1, .slice A1 n1 c1] 50)).heap.size := by simp
    have B2 : Below w.heap.size w ((w.alloc (.cells #[.string s0, .int .i64 a0, .slice A0 n0 c0] 50)).alloc (.cells #[.string s1, .int .i64 a1, .slice A1 n1 c1] 50)) := B1.alloc B1.size _
    have cP0_0_2 : ((w.alloc (.cells #[.string s0, .int .i64 a0, .slice A0 n0 c0] 50)).alloc (.cells #[.string s1, .int .i64 a1, .slice A1 n1 c1] 50)).cell? ⟨w.heap.size, 0, none⟩ = some (.string s0) := (World.cell?_alloc_lt _ _ _ (block_lt_of_cell cP0_0_1)).trans cP0_0_1
    have cP0_1_2 : ((w.alloc (.cells #[.string s0, .int .i64 a0, .slice A0 n0 c0] 50)).alloc (.cells #[.string s1, .int .i64 a1, .slice A1 n1 c1] 50)).cell? ⟨w.heap.size, 1, none⟩ = some (.int .i64 a0) := (World.cell?_alloc_lt _ _ _ (block_lt_of_cell cP0_1_1)).trans cP0_1_1
    have cP0_2_2 : ((w.alloc (.cells #[.string s0, .int .i64 a0, .slice A0 n0 c0] 50)).alloc (.cells #[.string s1, .int .i64 a1, .slice A1 n1 c1] 50)).cell? ⟨w.heap.size, 2, none⟩ = some (.slice A0 n0 c0) := (World.cell?_alloc_lt _ _ _ (block_lt_of_cell cP0_2_1)).trans cP0_2_1
    clear cP0_0_1 cP0_1_1 cP0_2_1
    have cP1_0_2 : ((w.alloc (.cells #[.string s0, .int .i64 a0, .slice A0 n0 c0] 50)).alloc (.cells #[.string s1, .int .i64 a1, .slice A1 n1 c1] 50)).cell? ⟨w.heap.size + 1, 0, none⟩ = some (.string s1) := by simp
    have cP1_1_2 : ((w.alloc (.cells #[.string s0, .int .i64 a0, .slice A0 n0 c0] 50)).alloc (.cells #[.string s1, .int .i64 a1, .slice A1 n1 c1] 50)).cell? ⟨w.heap.size + 1, 1, none⟩ = some (.int .i64 a1) := by simp
    have cP1_2_2 : ((w.alloc (.cells #[.string s0, .int .i64 a0, .slice A0 n0 c0] 50)).alloc (.cells #[.string s1, .int .i64 a1, .slice A1 n1 c1] 50)).cell? ⟨w.heap.size + 1, 2, none⟩ = some (.slice A1 n1 c1) := by simp
    go_enter Try.func9, Try.ntmps9
    have sc0 := szFan_any s0 a0 A0 n0 c0 xs0 (1048576) ((w.alloc (.cells #[.string s0, .int .i64 a0, .slice A0 n0 c0] 50)).alloc (.cells #[.string s1, .int .i64 a1, .slice A1 n1 c1] 50)) ls0 ((hr0.below B2).more B2.size) (by omega) (by omega) (by omega) HM0.out
    rw [szI_y (l := 1048576) (s := ((s0.size : Int) + ((n0 : Int) + tot xs0))) (by omega)] at sc0
    go_wp2_with fail; ((with_reducible refine sc0.mono ?_); rintro e w3 ⟨rfl, hb3⟩)
    clear sc0
    have z3 : ((w.alloc (.cells #[.string s0, .int .i64 a0, .slice A0 n0 c0] 50)).alloc (.cells #[.string s1, .int .i64 a1, .slice A1 n1 c1] 50)).heap.size ≤ w3.heap.size := hb3.size
    have B3 : Below w.heap.size w w3 := B2.trans (hb3.mono B2.size)
    have cP0_0_3 : w3.cell? ⟨w.heap.size, 0, none⟩ = some (.string s0) := (hb3.cell (block_lt_of_cell cP0_0_2)).trans cP0_0_2
    have cP0_1_3 : w3.cell? ⟨w.heap.size, 1, none⟩ = some (.int .i64 a0) := (hb3.cell (block_lt_of_cell cP0_1_2)).trans cP0_1_2
    have cP0_2_3 : w3.cell? ⟨w.heap.size, 2, none⟩ = some (.slice A0 n0 c0) := (hb3.cell (block_lt_of_cell cP0_2_2)).trans cP0_2_2
    clear cP0_0_2 cP0_1_2 cP0_2_2
    have cP1_0_3 : w3.cell? ⟨w.heap.size + 1, 0, none⟩ = some (.string s1) := (hb3.cell (block_lt_of_cell cP1_0_2)).trans cP1_0_2
    have cP1_1_3 : w3.cell? ⟨w.heap.size + 1, 1, none⟩ = some (.int .i64 a1) := (hb3.cell (block_lt_of_cell cP1_1_2)).trans cP1_1_2
    have cP1_2_3 : w3.cell? ⟨w.heap.size + 1, 2, none⟩ = some (.slice A1 n1 c1) := (hb3.cell (block_lt_of_cell cP1_2_2)).trans cP1_2_2
    clear cP1_0_2 cP1_1_2 cP1_2_2
    have sc1 := szFan_any s1 a1 A1 n1 c1 xs1 (1048576 - ((s0.size : Int) + ((n0 : Int) + tot xs0))) w3 ls1 ((hr1.below B3).more B3.size) (by omega) (by omega) (by omega) HM1.out
    rw [szI_n (l := 1048576 - ((s0.size : Int) + ((n0 : Int) + tot xs0))) (s := ((s1.size : Int) + ((n1 : Int) + tot xs1))) (by omega)] at sc1
    go_wp2_with fail; ((with_reducible refine sc1.mono ?_); rintro e w4 ⟨rfl, hb4⟩)
    clear sc1
    have z4 : w3.heap.size ≤ w4.heap.size := hb4.size
    have B4 : Below w.heap.size w w4 := B3.trans (hb4.mono B3.size)
    have cP0_0_4 : w4.cell? ⟨w.heap.size, 0, none⟩ = some (.string s0) := (hb4.cell (block_lt_of_cell cP0_0_3)).trans cP0_0_3
    have cP0_1_4 : w4.cell? ⟨w.heap.size, 1, none⟩ = some (.int .i64 a0) := (hb4.cell (block_lt_of_cell cP0_1_3)).trans cP0_1_3
    have cP0_2_4 : w4.cell? ⟨w.heap.size, 2, none⟩ = some (.slice A0 n0 c0) := (hb4.cell (block_lt_of_cell cP0_2_3)).trans cP0_2_3
    clear cP0_0_3 cP0_1_3 cP0_2_3
    have cP1_0_4 : w4.cell? ⟨w.heap.size + 1, 0, none⟩ = some (.string s1) := (hb4.cell (block_lt_of_cell cP1_0_3)).trans cP1_0_3
    have cP1_1_4 : w4.cell? ⟨w.heap.size + 1, 1, none⟩ = some (.int .i64 a1) := (hb4.cell (block_lt_of_cell cP1_1_3)).trans cP1_1_3
    have cP1_2_4 : w4.cell? ⟨w.heap.size + 1, 2, none⟩ = some (.slice A1 n1 c1) := (hb4.cell (block_lt_of_cell cP1_2_3)).trans cP1_2_3
    clear cP1_0_3 cP1_1_3 cP1_2_3
    go_wp2
    go_ret
    exact ⟨rfl, B4⟩
  have HY1 := Lib.hid hN1
  have hn0 : n0 ≤ 1048576 := by omega
  have hrn0 : Hid (∀ r ∈ xs0, r.n ≤ 1048576) := fun r hr => by have := tot_mem hr; omega
  have hn1 : n1 ≤ 1048576 := by omega
  have hrn1 : Hid (∀ r ∈ xs1, r.n ≤ 1048576) := fun r hr => by have := tot_mem hr; omega
  have z1 : w.heap.size + 1 ≤ (w.alloc (.cells #[.string s0, .int .i64 a0, .slice A0 n0 c0] 50)).heap.size := by simp
  have B1 : Below w.heap.size w (w.alloc (.cells #[.string s0, .int .i64 a0, .slice A0 n0 c0] 50)) := (Below.refl _ _).alloc (Nat.le_refl _) _
  have cP0_0_1 : (w.alloc (.cells #[.string s0, .int .i64 a0, .slice A0 n0 c0] 50)).cell? ⟨w.heap.size, 0, none⟩ = some (.string s0) := ((Blk.new w 50 #[.string s0, .int .i64 a0, .slice A0 n0 c0]).cell 0).trans rfl
  have cP0_1_1 : (w.alloc (.cells #[.string s0, .int .i64 a0, .slice A0 n0 c0] 50)).cell? ⟨w.heap.size, 1, none⟩ = some (.int .i64 a0) := ((Blk.new w 50 #[.string s0, .int .i64 a0, .slice A0 n0 c0]).cell 1).trans rfl
  have cP0_2_1 : (w.alloc (.cells #[.string s0, .int .i64 a0, .slice A0 n0 c0] 50)).cell? ⟨w.heap.size, 2, none⟩ = some (.slice A0 n0 c0) := ((Blk.new w 50 #[.string s0, .int .i64 a0, .slice A0 n0 c0]).cell 2).trans rfl
  have z2 : (w.alloc (.cells #[.string s0, .int .i64 a0, .slice A0 n0 c0] 50)).heap.size + 1 ≤ ((w.alloc (.cells #[.string s0, .int .i64 a0, .slice A0 n0 c0] 50)).alloc (.cells #[.string s1, .int .i64 a1, .slice A1 n1 c1] 50)).heap.size := by simp
  have B2 : Below w.heap.size w ((w.alloc (.cells #[.string s0, .int .i64 a0, .slice A0 n0 c0] 50)).alloc (.cells #[.string s1, .int .i64 a1, .slice A1 n1 c1] 50)) := B1.alloc B1.size _
  have cP0_0_2 : ((w.alloc (.cells #[.string s0, .int .i64 a0, .slice A0 n0 c0] 50)).alloc (.cells #[.string s1, .int .i64 a1, .slice A1 n1 c1] 50)).cell? ⟨w.heap.size, 0, none⟩ = some (.string s0) := (World.cell?_alloc_lt _ _ _ (block_lt_of_cell cP0_0_1)).trans cP0_0_1
  have cP0_1_2 : ((w.alloc (.cells #[.string s0, .int .i64 a0, .slice A0 n0 c0] 50)).alloc (.cells #[.string s1, .int .i64 a1, .slice A1 n1 c1] 50)).cell? ⟨w.heap.size, 1, none⟩ = some (.int .i64 a0) := (World.cell?_alloc_lt _ _ _ (block_lt_of_cell cP0_1_1)).trans cP0_1_1
  have cP0_2_2 : ((w.alloc (.cells #[.string s0, .int .i64 a0, .slice A0 n0 c0] 50)).alloc (.cells #[.string s1, .int .i64 a1, .slice A1 n1 c1] 50)).cell? ⟨w.heap.size, 2, none⟩ = some (.slice A0 n0 c0) := (World.cell?_alloc_lt _ _ _ (block_lt_of_cell cP0_2_1)).trans cP0_2_1
  clear cP0_0_1 cP0_1_1 cP0_2_1
  have cP1_0_2 : ((w.alloc (.cells #[.string s0, .int .i64 a0, .slice A0 n0 c0] 50)).alloc (.cells #[.string s1, .int .i64 a1, .slice A1 n1 c1] 50)).cell? ⟨w.heap.size + 1, 0, none⟩ = some (.string s1) := by simp
  have cP1_1_2 : ((w.alloc (.cells #[.string s0, .int .i64 a0, .slice A0 n0 c0] 50)).alloc (.cells #[.string s1, .int .i64 a1, .slice A1 n1 c1] 50)).cell? ⟨w.heap.size + 1, 1, none⟩ = some (.int .i64 a1) := by simp
  have cP1_2_2 : ((w.alloc (.cells #[.string s0, .int .i64 a0, .slice A0 n0 c0] 50)).alloc (.cells #[.string s1, .int .i64 a1, .slice A1 n1 c1] 50)).cell? ⟨w.heap.size + 1, 2, none⟩ = some (.slice A1 n1 c1) := by simp
  go_enter Try.func9, Try.ntmps9
  have sc0 := szFan_any s0 a0 A0 n0 c0 xs0 (1048576) ((w.alloc (.cells #[.string s0, .int .i64 a0, .slice A0 n0 c0] 50)).alloc (.cells #[.string s1, .int .i64 a1, .slice A1 n1 c1] 50)) ls0 ((hr0.below B2).more B2.size) (by omega) (by omega) (by omega) HM0.out
  rw [szI_y (l := 1048576) (s := ((s0.size : Int) + ((n0 : Int) + tot xs0))) (by omega)] at sc0
  go_wp2_with fail; ((with_reducible refine sc0.mono ?_); rintro e w3 ⟨rfl, hb3⟩)
  clear sc0
  have z3 : ((w.alloc (.cells #[.string s0, .int .i64 a0, .slice A0 n0 c0] 50)).alloc (.cells #[.string s1, .int .i64 a1, .slice A1 n1 c1] 50)).heap.size ≤ w3.heap.size := hb3.size
  have B3 : Below w.heap.size w w3 := B2.trans (hb3.mono B2.size)
  have cP0_0_3 : w3.cell? ⟨w.heap.size, 0, none⟩ = some (.string s0) := (hb3.cell (block_lt_of_cell cP0_0_2)).trans cP0_0_2
  have cP0_1_3 : w3.cell? ⟨w.heap.size, 1, none⟩ = some (.int .i64 a0) := (hb3.cell (block_lt_of_cell cP0_1_2)).trans cP0_1_2
  have cP0_2_3 : w3.cell? ⟨w.heap.size, 2, none⟩ = some (.slice A0 n0 c0) := (hb3.cell (block_lt_of_cell cP0_2_2)).trans cP0_2_2
  clear cP0_0_2 cP0_1_2 cP0_2_2
  have cP1_0_3 : w3.cell? ⟨w.heap.size + 1, 0, none⟩ = some (.string s1) := (hb3.cell (block_lt_of_cell cP1_0_2)).trans cP1_0_2
  have cP1_1_3 : w3.cell? ⟨w.heap.size + 1, 1, none⟩ = some (.int .i64 a1) := (hb3.cell (block_lt_of_cell cP1_1_2)).trans cP1_1_2
  have cP1_2_3 : w3.cell? ⟨w.heap.size + 1, 2, none⟩ = some (.slice A1 n1 c1) := (hb3.cell (block_lt_of_cell cP1_2_2)).trans cP1_2_2
  clear cP1_0_2 cP1_1_2 cP1_2_2
  have sc1 := szFan_any s1 a1 A1 n1 c1 xs1 (1048576 - ((s0.size : Int) + ((n0 : Int) + tot xs0))) w3 ls1 ((hr1.below B3).more B3.size) (by omega) (by omega) (by omega) HM1.out
  rw [szI_y (l := 1048576 - ((s0.size : Int) + ((n0 : Int) + tot xs0))) (s := ((s1.size : Int) + ((n1 : Int) + tot xs1))) (by omega)] at sc1
  go_wp2_with fail; ((with_reducible refine sc1.mono ?_); rintro e w4 ⟨rfl, hb4⟩)
  clear sc1
  have z4 : w3.heap.size ≤ w4.heap.size := hb4.size
  have B4 : Below w.heap.size w w4 := B3.trans (hb4.mono B3.size)
  have cP0_0_4 : w4.cell? ⟨w.heap.size, 0, none⟩ = some (.string s0) := (hb4.cell (block_lt_of_cell cP0_0_3)).trans cP0_0_3
  have cP0_1_4 : w4.cell? ⟨w.heap.size, 1, none⟩ = some (.int .i64 a0) := (hb4.cell (block_lt_of_cell cP0_1_3)).trans cP0_1_3
  have cP0_2_4 : w4.cell? ⟨w.heap.size, 2, none⟩ = some (.slice A0 n0 c0) := (hb4.cell (block_lt_of_cell cP0_2_3)).trans cP0_2_3
  clear cP0_0_3 cP0_1_3 cP0_2_3
  have cP1_0_4 : w4.cell? ⟨w.heap.size + 1, 0, none⟩ = some (.string s1) := (hb4.cell (block_lt_of_cell cP1_0_3)).trans cP1_0_3
  have cP1_1_4 : w4.cell? ⟨w.heap.size + 1, 1, none⟩ = some (.int .i64 a1) := (hb4.cell (block_lt_of_cell cP1_1_3)).trans cP1_1_3
  have cP1_2_4 : w4.cell? ⟨w.heap.size + 1, 2, none⟩ = some (.slice A1 n1 c1) := (hb4.cell (block_lt_of_cell cP1_2_3)).trans cP1_2_3
  clear cP1_0_3 cP1_1_3 cP1_2_3
  go_wp2_with fail
  go_region_held3 (fun w' => w'.cell? ⟨w.heap.size, 0, none⟩ = some (.string s0) ∧ w'.cell? ⟨w.heap.size, 1, none⟩ = some (.int .i64 a0) ∧ w'.cell? ⟨w.heap.size, 2, none⟩ = some (.slice A0 n0 c0) ∧ w'.cell? ⟨w.heap.size + 1, 0, none⟩ = some (.string s1) ∧ w'.cell? ⟨w.heap.size + 1, 1, none⟩ = some (.int .i64 a1) ∧ w'.cell? ⟨w.heap.size + 1, 2, none⟩ = some (.slice A1 n1 c1))
    (first | go_keep | (exact ⟨((hb5.cell (block_lt_of_cell cP0_0_4)).trans cP0_0_4), ((hb5.cell (block_lt_of_cell cP0_1_4)).trans cP0_1_4), ((hb5.cell (block_lt_of_cell cP0_2_4)).trans cP0_2_4), ((hb5.cell (block_lt_of_cell cP1_0_4)).trans cP1_0_4), ((hb5.cell (block_lt_of_cell cP1_1_4)).trans cP1_1_4), ((hb5.cell (block_lt_of_cell cP1_2_4)).trans cP1_2_4)⟩) | (exact ⟨((hb6.cell (block_lt_of_cell ((hb5.cell (block_lt_of_cell cP0_0_4)).trans cP0_0_4))).trans ((hb5.cell (block_lt_of_cell cP0_0_4)).trans cP0_0_4)), ((hb6.cell (block_lt_of_cell ((hb5.cell (block_lt_of_cell cP0_1_4)).trans cP0_1_4))).trans ((hb5.cell (block_lt_of_cell cP0_1_4)).trans cP0_1_4)), ((hb6.cell (block_lt_of_cell ((hb5.cell (block_lt_of_cell cP0_2_4)).trans cP0_2_4))).trans ((hb5.cell (block_lt_of_cell cP0_2_4)).trans cP0_2_4)), ((hb6.cell (block_lt_of_cell ((hb5.cell (block_lt_of_cell cP1_0_4)).trans cP1_0_4))).trans ((hb5.cell (block_lt_of_cell cP1_0_4)).trans cP1_0_4)), ((hb6.cell (block_lt_of_cell ((hb5.cell (block_lt_of_cell cP1_1_4)).trans cP1_1_4))).trans ((hb5.cell (block_lt_of_cell cP1_1_4)).trans cP1_1_4)), ((hb6.cell (block_lt_of_cell ((hb5.cell (block_lt_of_cell cP1_2_4)).trans cP1_2_4))).trans ((hb5.cell (block_lt_of_cell cP1_2_4)).trans cP1_2_4))⟩) | (exact ⟨((hb7.cell (block_lt_of_cell ((hb6.cell (block_lt_of_cell ((hb5.cell (block_lt_of_cell cP0_0_4)).trans cP0_0_4))).trans ((hb5.cell (block_lt_of_cell cP0_0_4)).trans cP0_0_4)))).trans ((hb6.cell (block_lt_of_cell ((hb5.cell (block_lt_of_cell cP0_0_4)).trans cP0_0_4))).trans ((hb5.cell (block_lt_of_cell cP0_0_4)).trans cP0_0_4))), ((hb7.cell (block_lt_of_cell ((hb6.cell (block_lt_of_cell ((hb5.cell (block_lt_of_cell cP0_1_4)).trans cP0_1_4))).trans ((hb5.cell (block_lt_of_cell cP0_1_4)).trans cP0_1_4)))).trans ((hb6.cell (block_lt_of_cell ((hb5.cell (block_lt_of_cell cP0_1_4)).trans cP0_1_4))).trans ((hb5.cell (block_lt_of_cell cP0_1_4)).trans cP0_1_4))), ((hb7.cell (block_lt_of_cell ((hb6.cell (block_lt_of_cell ((hb5.cell (block_lt_of_cell cP0_2_4)).trans cP0_2_4))).trans ((hb5.cell (block_lt_of_cell cP0_2_4)).trans cP0_2_4)))).trans ((hb6.cell (block_lt_of_cell ((hb5.cell (block_lt_of_cell cP0_2_4)).trans cP0_2_4))).trans ((hb5.cell (block_lt_of_cell cP0_2_4)).trans cP0_2_4))), ((hb7.cell (block_lt_of_cell ((hb6.cell (block_lt_of_cell ((hb5.cell (block_lt_of_cell cP1_0_4)).trans cP1_0_4))).trans ((hb5.cell (block_lt_of_cell cP1_0_4)).trans cP1_0_4)))).trans ((hb6.cell (block_lt_of_cell ((hb5.cell (block_lt_of_cell cP1_0_4)).trans cP1_0_4))).trans ((hb5.cell (block_lt_of_cell cP1_0_4)).trans cP1_0_4))), ((hb7.cell (block_lt_of_cell ((hb6.cell (block_lt_of_cell ((hb5.cell (block_lt_of_cell cP1_1_4)).trans cP1_1_4))).trans ((hb5.cell (block_lt_of_cell cP1_1_4)).trans cP1_1_4)))).trans ((hb6.cell (block_lt_of_cell ((hb5.cell (block_lt_of_cell cP1_1_4)).trans cP1_1_4))).trans ((hb5.cell (block_lt_of_cell cP1_1_4)).trans cP1_1_4))), ((hb7.cell (block_lt_of_cell ((hb6.cell (block_lt_of_cell ((hb5.cell (block_lt_of_cell cP1_2_4)).trans cP1_2_4))).trans ((hb5.cell (block_lt_of_cell cP1_2_4)).trans cP1_2_4)))).trans ((hb6.cell (block_lt_of_cell ((hb5.cell (block_lt_of_cell cP1_2_4)).trans cP1_2_4))).trans ((hb5.cell (block_lt_of_cell cP1_2_4)).trans cP1_2_4)))⟩))
    ((first | (go_at_call 37; have cc := specSameFan_any s0 a0 _ n0 n0 rsS0 s1 a1 _ n1 n1 rsS1 _ ls0 (oss_mk (oS0.below hb6)).reads hn0 (bound_dat hr0 oS0.reads DS0 hrn0.out) ls1 (oss_mk oS1).reads hn1 (bound_dat hr1 oS1.reads DS1 hrn1.out); rw [DS0, DS1] at cc; (with_reducible refine cc.mono ?_); clear cc; rintro e w7 ⟨rfl, hb7⟩) | (go_at_call_of 38 (Value.string s0); (with_reducible refine (toFan_any s0 a0 A0 n0 c0 xs0 _ ls0 ((hr0.below (below_drew B4)).more (below_drew B4).size) hn0 hrn0.out).mono ?_); rintro e w5 ⟨AS0, rsS0, rfl, oS0, DS0, hb5⟩) | (go_at_call_of 38 (Value.string s1); (with_reducible refine (toFan_any s1 a1 A1 n1 c1 xs1 _ ls1 ((hr1.below ((below_drew B4).trans (hb5.mono (below_drew B4).size))).more ((below_drew B4).trans (hb5.mono (below_drew B4).size)).size) hn1 hrn1.out).mono ?_); rintro e w6 ⟨AS1, rsS1, rfl, oS1, DS1, hb6⟩)))
  replace hb5 : Below w4.heap.size w4 w5 := below_undrew hb5
  have z5 : w4.heap.size ≤ w5.heap.size := hb5.size
  have B5 : Below w.heap.size w w5 := B4.trans (hb5.mono B4.size)
  have cP0_0_5 : w5.cell? ⟨w.heap.size, 0, none⟩ = some (.string s0) := (hb5.cell (block_lt_of_cell cP0_0_4)).trans cP0_0_4
  have cP0_1_5 : w5.cell? ⟨w.heap.size, 1, none⟩ = some (.int .i64 a0) := (hb5.cell (block_lt_of_cell cP0_1_4)).trans cP0_1_4
  have cP0_2_5 : w5.cell? ⟨w.heap.size, 2, none⟩ = some (.slice A0 n0 c0) := (hb5.cell (block_lt_of_cell cP0_2_4)).trans cP0_2_4
  clear cP0_0_4 cP0_1_4 cP0_2_4
  have cP1_0_5 : w5.cell? ⟨w.heap.size + 1, 0, none⟩ = some (.string s1) := (hb5.cell (block_lt_of_cell cP1_0_4)).trans cP1_0_4
  have cP1_1_5 : w5.cell? ⟨w.heap.size + 1, 1, none⟩ = some (.int .i64 a1) := (hb5.cell (block_lt_of_cell cP1_1_4)).trans cP1_1_4
  have cP1_2_5 : w5.cell? ⟨w.heap.size + 1, 2, none⟩ = some (.slice A1 n1 c1) := (hb5.cell (block_lt_of_cell cP1_2_4)).trans cP1_2_4
  clear cP1_0_4 cP1_1_4 cP1_2_4
  have z6 : w5.heap.size ≤ w6.heap.size := hb6.size
  have B6 : Below w.heap.size w w6 := B5.trans (hb6.mono B5.size)
  have cP0_0_6 : w6.cell? ⟨w.heap.size, 0, none⟩ = some (.string s0) := (hb6.cell (block_lt_of_cell cP0_0_5)).trans cP0_0_5
  have cP0_1_6 : w6.cell? ⟨w.heap.size, 1, none⟩ = some (.int .i64 a0) := (hb6.cell (block_lt_of_cell cP0_1_5)).trans cP0_1_5
  have cP0_2_6 : w6.cell? ⟨w.heap.size, 2, none⟩ = some (.slice A0 n0 c0) := (hb6.cell (block_lt_of_cell cP0_2_5)).trans cP0_2_5
  clear cP0_0_5 cP0_1_5 cP0_2_5
  have cP1_0_6 : w6.cell? ⟨w.heap.size + 1, 0, none⟩ = some (.string s1) := (hb6.cell (block_lt_of_cell cP1_0_5)).trans cP1_0_5
  have cP1_1_6 : w6.cell? ⟨w.heap.size + 1, 1, none⟩ = some (.int .i64 a1) := (hb6.cell (block_lt_of_cell cP1_1_5)).trans cP1_1_5
  have cP1_2_6 : w6.cell? ⟨w.heap.size + 1, 2, none⟩ = some (.slice A1 n1 c1) := (hb6.cell (block_lt_of_cell cP1_2_5)).trans cP1_2_5
  clear cP1_0_5 cP1_1_5 cP1_2_5
  have z7 : w6.heap.size ≤ w7.heap.size := hb7.size
  have B7 : Below w.heap.size w w7 := B6.trans (hb7.mono B6.size)
  have cP0_0_7 : w7.cell? ⟨w.heap.size, 0, none⟩ = some (.string s0) := (hb7.cell (block_lt_of_cell cP0_0_6)).trans cP0_0_6
  have cP0_1_7 : w7.cell? ⟨w.heap.size, 1, none⟩ = some (.int .i64 a0) := (hb7.cell (block_lt_of_cell cP0_1_6)).trans cP0_1_6
  have cP0_2_7 : w7.cell? ⟨w.heap.size, 2, none⟩ = some (.slice A0 n0 c0) := (hb7.cell (block_lt_of_cell cP0_2_6)).trans cP0_2_6
  clear cP0_0_6 cP0_1_6 cP0_2_6
  have cP1_0_7 : w7.cell? ⟨w.heap.size + 1, 0, none⟩ = some (.string s1) := (hb7.cell (block_lt_of_cell cP1_0_6)).trans cP1_0_6
  have cP1_1_7 : w7.cell? ⟨w.heap.size + 1, 1, none⟩ = some (.int .i64 a1) := (hb7.cell (block_lt_of_cell cP1_1_6)).trans cP1_1_6
  have cP1_2_7 : w7.cell? ⟨w.heap.size + 1, 2, none⟩ = some (.slice A1 n1 c1) := (hb7.cell (block_lt_of_cell cP1_2_6)).trans cP1_2_6
  clear cP1_0_6 cP1_1_6 cP1_2_6
  go_wp2_with fail; ((with_reducible refine (toFan_any s0 a0 A0 n0 c0 xs0 _ ls0 ((hr0.below B7).more B7.size) hn0 hrn0.out).mono ?_); rintro e w8 ⟨AX0, rsX0, rfl, oX0, DX0, hb8⟩)
  have z8 : w7.heap.size ≤ w8.heap.size := hb8.size
  have B8 : Below w.heap.size w w8 := B7.trans (hb8.mono B7.size)
  have cP0_0_8 : w8.cell? ⟨w.heap.size, 0, none⟩ = some (.string s0) := (hb8.cell (block_lt_of_cell cP0_0_7)).trans cP0_0_7
  have cP0_1_8 : w8.cell? ⟨w.heap.size, 1, none⟩ = some (.int .i64 a0) := (hb8.cell (block_lt_of_cell cP0_1_7)).trans cP0_1_7
  have cP0_2_8 : w8.cell? ⟨w.heap.size, 2, none⟩ = some (.slice A0 n0 c0) := (hb8.cell (block_lt_of_cell cP0_2_7)).trans cP0_2_7
  clear cP0_0_7 cP0_1_7 cP0_2_7
  have cP1_0_8 : w8.cell? ⟨w.heap.size + 1, 0, none⟩ = some (.string s1) := (hb8.cell (block_lt_of_cell cP1_0_7)).trans cP1_0_7
  have cP1_1_8 : w8.cell? ⟨w.heap.size + 1, 1, none⟩ = some (.int .i64 a1) := (hb8.cell (block_lt_of_cell cP1_1_7)).trans cP1_1_7
  have cP1_2_8 : w8.cell? ⟨w.heap.size + 1, 2, none⟩ = some (.slice A1 n1 c1) := (hb8.cell (block_lt_of_cell cP1_2_7)).trans cP1_2_7
  clear cP1_0_7 cP1_1_7 cP1_2_7
  have FX0_8 := oss_mk oX0
  have MX0 := Lib.hid (bound_dat hr0 FX0_8.reads DX0 hrn0.out)
  have HDX0 := Lib.hid DX0
  clear DX0
  have SX0_8 := Same.refl w7.heap.size w8.heap.size w8
  -- its box
  have z9 : w8.heap.size + 1 ≤ (w8.alloc (.cells #[.string s0, .int .i64 a0, .slice AX0 n0 n0] 53)).heap.size := by simp
  have B9 : Below w.heap.size w (w8.alloc (.cells #[.string s0, .int .i64 a0, .slice AX0 n0 n0] 53)) := B8.alloc B8.size _
  have cP0_0_9 : (w8.alloc (.cells #[.string s0, .int .i64 a0, .slice AX0 n0 n0] 53)).cell? ⟨w.heap.size, 0, none⟩ = some (.string s0) := (World.cell?_alloc_lt _ _ _ (block_lt_of_cell cP0_0_8)).trans cP0_0_8
  have cP0_1_9 : (w8.alloc (.cells #[.string s0, .int .i64 a0, .slice AX0 n0 n0] 53)).cell? ⟨w.heap.size, 1, none⟩ = some (.int .i64 a0) := (World.cell?_alloc_lt _ _ _ (block_lt_of_cell cP0_1_8)).trans cP0_1_8
  have cP0_2_9 : (w8.alloc (.cells #[.string s0, .int .i64 a0, .slice AX0 n0 n0] 53)).cell? ⟨w.heap.size, 2, none⟩ = some (.slice A0 n0 c0) := (World.cell?_alloc_lt _ _ _ (block_lt_of_cell cP0_2_8)).trans cP0_2_8
  clear cP0_0_8 cP0_1_8 cP0_2_8
  have cP1_0_9 : (w8.alloc (.cells #[.string s0, .int .i64 a0, .slice AX0 n0 n0] 53)).cell? ⟨w.heap.size + 1, 0, none⟩ = some (.string s1) := (World.cell?_alloc_lt _ _ _ (block_lt_of_cell cP1_0_8)).trans cP1_0_8
  have cP1_1_9 : (w8.alloc (.cells #[.string s0, .int .i64 a0, .slice AX0 n0 n0] 53)).cell? ⟨w.heap.size + 1, 1, none⟩ = some (.int .i64 a1) := (World.cell?_alloc_lt _ _ _ (block_lt_of_cell cP1_1_8)).trans cP1_1_8
  have cP1_2_9 : (w8.alloc (.cells #[.string s0, .int .i64 a0, .slice AX0 n0 n0] 53)).cell? ⟨w.heap.size + 1, 2, none⟩ = some (.slice A1 n1 c1) := (World.cell?_alloc_lt _ _ _ (block_lt_of_cell cP1_2_8)).trans cP1_2_8
  clear cP1_0_8 cP1_1_8 cP1_2_8
  have cX0_0_9 : (w8.alloc (.cells #[.string s0, .int .i64 a0, .slice AX0 n0 n0] 53)).cell? ⟨w8.heap.size, 0, none⟩ = some (.string s0) := ((Blk.new w8 53 #[.string s0, .int .i64 a0, .slice AX0 n0 n0]).cell 0).trans rfl
  have cX0_1_9 : (w8.alloc (.cells #[.string s0, .int .i64 a0, .slice AX0 n0 n0] 53)).cell? ⟨w8.heap.size, 1, none⟩ = some (.int .i64 a0) := ((Blk.new w8 53 #[.string s0, .int .i64 a0, .slice AX0 n0 n0]).cell 1).trans rfl
  have cX0_2_9 : (w8.alloc (.cells #[.string s0, .int .i64 a0, .slice AX0 n0 n0] 53)).cell? ⟨w8.heap.size, 2, none⟩ = some (.slice AX0 n0 n0) := ((Blk.new w8 53 #[.string s0, .int .i64 a0, .slice AX0 n0 n0]).cell 2).trans rfl
  have SX0_9 := SX0_8.below (show Below w8.heap.size w8 (w8.alloc (.cells #[.string s0, .int .i64 a0, .slice AX0 n0 n0] 53)) from (Below.refl _ _).alloc (Nat.le_refl _) _) (by omega)
  go_wp2_with fail; ((with_reducible refine (toFan_any s1 a1 A1 n1 c1 xs1 _ ls1 ((hr1.below B9).more B9.size) hn1 hrn1.out).mono ?_); rintro e w10 ⟨AX1, rsX1, rfl, oX1, DX1, hb10⟩)
  have z10 : (w8.alloc (.cells #[.string s0, .int .i64 a0, .slice AX0 n0 n0] 53)).heap.size ≤ w10.heap.size := hb10.size
  have B10 : Below w.heap.size w w10 := B9.trans (hb10.mono B9.size)
  have cP0_0_10 : w10.cell? ⟨w.heap.size, 0, none⟩ = some (.string s0) := (hb10.cell (block_lt_of_cell cP0_0_9)).trans cP0_0_9
  have cP0_1_10 : w10.cell? ⟨w.heap.size, 1, none⟩ = some (.int .i64 a0) := (hb10.cell (block_lt_of_cell cP0_1_9)).trans cP0_1_9
  have cP0_2_10 : w10.cell? ⟨w.heap.size, 2, none⟩ = some (.slice A0 n0 c0) := (hb10.cell (block_lt_of_cell cP0_2_9)).trans cP0_2_9
  clear cP0_0_9 cP0_1_9 cP0_2_9
  have cP1_0_10 : w10.cell? ⟨w.heap.size + 1, 0, none⟩ = some (.string s1) := (hb10.cell (block_lt_of_cell cP1_0_9)).trans cP1_0_9
  have cP1_1_10 : w10.cell? ⟨w.heap.size + 1, 1, none⟩ = some (.int .i64 a1) := (hb10.cell (block_lt_of_cell cP1_1_9)).trans cP1_1_9
  have cP1_2_10 : w10.cell? ⟨w.heap.size + 1, 2, none⟩ = some (.slice A1 n1 c1) := (hb10.cell (block_lt_of_cell cP1_2_9)).trans cP1_2_9
  clear cP1_0_9 cP1_1_9 cP1_2_9
  have cX0_0_10 : w10.cell? ⟨w8.heap.size, 0, none⟩ = some (.string s0) := (hb10.cell (block_lt_of_cell cX0_0_9)).trans cX0_0_9
  have cX0_1_10 : w10.cell? ⟨w8.heap.size, 1, none⟩ = some (.int .i64 a0) := (hb10.cell (block_lt_of_cell cX0_1_9)).trans cX0_1_9
  have cX0_2_10 : w10.cell? ⟨w8.heap.size, 2, none⟩ = some (.slice AX0 n0 n0) := (hb10.cell (block_lt_of_cell cX0_2_9)).trans cX0_2_9
  clear cX0_0_9 cX0_1_9 cX0_2_9
  have SX0_10 := SX0_9.below hb10 (by omega)
  have FX1_10 := oss_mk oX1
  have MX1 := Lib.hid (bound_dat hr1 FX1_10.reads DX1 hrn1.out)
  have HDX1 := Lib.hid DX1
  clear DX1
  have SX1_10 := Same.refl (w8.alloc (.cells #[.string s0, .int .i64 a0, .slice AX0 n0 n0] 53)).heap.size w10.heap.size w10
  -- its box
  have z11 : w10.heap.size + 1 ≤ (w10.alloc (.cells #[.string s1, .int .i64 a1, .slice AX1 n1 n1] 53)).heap.size := by simp
  have B11 : Below w.heap.size w (w10.alloc (.cells #[.string s1, .int .i64 a1, .slice AX1 n1 n1] 53)) := B10.alloc B10.size _
  have cP0_0_11 : (w10.alloc (.cells #[.string s1, .int .i64 a1, .slice AX1 n1 n1] 53)).cell? ⟨w.heap.size, 0, none⟩ = some (.string s0) := (World.cell?_alloc_lt _ _ _ (block_lt_of_cell cP0_0_10)).trans cP0_0_10
  have cP0_1_11 : (w10.alloc (.cells #[.string s1, .int .i64 a1, .slice AX1 n1 n1] 53)).cell? ⟨w.heap.size, 1, none⟩ = some (.int .i64 a0) := (World.cell?_alloc_lt _ _ _ (block_lt_of_cell cP0_1_10)).trans cP0_1_10
  have cP0_2_11 : (w10.alloc (.cells #[.string s1, .int .i64 a1, .slice AX1 n1 n1] 53)).cell? ⟨w.heap.size, 2, none⟩ = some (.slice A0 n0 c0) := (World.cell?_alloc_lt _ _ _ (block_lt_of_cell cP0_2_10)).trans cP0_2_10
  clear cP0_0_10 cP0_1_10 cP0_2_10
  have cP1_0_11 : (w10.alloc (.cells #[.string s1, .int .i64 a1, .slice AX1 n1 n1] 53)).cell? ⟨w.heap.size + 1, 0, none⟩ = some (.string s1) := (World.cell?_alloc_lt _ _ _ (block_lt_of_cell cP1_0_10)).trans cP1_0_10
  have cP1_1_11 : (w10.alloc (.cells #[.string s1, .int .i64 a1, .slice AX1 n1 n1] 53)).cell? ⟨w.heap.size + 1, 1, none⟩ = some (.int .i64 a1) := (World.cell?_alloc_lt _ _ _ (block_lt_of_cell cP1_1_10)).trans cP1_1_10
  have cP1_2_11 : (w10.alloc (.cells #[.string s1, .int .i64 a1, .slice AX1 n1 n1] 53)).cell? ⟨w.heap.size + 1, 2, none⟩ = some (.slice A1 n1 c1) := (World.cell?_alloc_lt _ _ _ (block_lt_of_cell cP1_2_10)).trans cP1_2_10
  clear cP1_0_10 cP1_1_10 cP1_2_10
  have cX0_0_11 : (w10.alloc (.cells #[.string s1, .int .i64 a1, .slice AX1 n1 n1] 53)).cell? ⟨w8.heap.size, 0, none⟩ = some (.string s0) := (World.cell?_alloc_lt _ _ _ (block_lt_of_cell cX0_0_10)).trans cX0_0_10
  have cX0_1_11 : (w10.alloc (.cells #[.string s1, .int .i64 a1, .slice AX1 n1 n1] 53)).cell? ⟨w8.heap.size, 1, none⟩ = some (.int .i64 a0) := (World.cell?_alloc_lt _ _ _ (block_lt_of_cell cX0_1_10)).trans cX0_1_10
  have cX0_2_11 : (w10.alloc (.cells #[.string s1, .int .i64 a1, .slice AX1 n1 n1] 53)).cell? ⟨w8.heap.size, 2, none⟩ = some (.slice AX0 n0 n0) := (World.cell?_alloc_lt _ _ _ (block_lt_of_cell cX0_2_10)).trans cX0_2_10
  clear cX0_0_10 cX0_1_10 cX0_2_10
  have cX1_0_11 : (w10.alloc (.cells #[.string s1, .int .i64 a1, .slice AX1 n1 n1] 53)).cell? ⟨w10.heap.size, 0, none⟩ = some (.string s1) := ((Blk.new w10 53 #[.string s1, .int .i64 a1, .slice AX1 n1 n1]).cell 0).trans rfl
  have cX1_1_11 : (w10.alloc (.cells #[.string s1, .int .i64 a1, .slice AX1 n1 n1] 53)).cell? ⟨w10.heap.size, 1, none⟩ = some (.int .i64 a1) := ((Blk.new w10 53 #[.string s1, .int .i64 a1, .slice AX1 n1 n1]).cell 1).trans rfl
  have cX1_2_11 : (w10.alloc (.cells #[.string s1, .int .i64 a1, .slice AX1 n1 n1] 53)).cell? ⟨w10.heap.size, 2, none⟩ = some (.slice AX1 n1 n1) := ((Blk.new w10 53 #[.string s1, .int .i64 a1, .slice AX1 n1 n1]).cell 2).trans rfl
  have SX0_11 := SX0_10.below (show Below w10.heap.size w10 (w10.alloc (.cells #[.string s1, .int .i64 a1, .slice AX1 n1 n1] 53)) from (Below.refl _ _).alloc (Nat.le_refl _) _) (by omega)
  have SX1_11 := SX1_10.below (show Below w10.heap.size w10 (w10.alloc (.cells #[.string s1, .int .i64 a1, .slice AX1 n1 n1] 53)) from (Below.refl _ _).alloc (Nat.le_refl _) _) (by omega)
  have cc12 := implSameFan_any s0 a0 AX0 n0 n0 rsX0 s1 a1 AX1 n1 n1 rsX1 (w10.alloc (.cells #[.string s1, .int .i64 a1, .slice AX1 n1 n1] 53)) ls0 (FX0_8.same SX0_11).reads hn0 MX0.out ls1 (FX1_10.same SX1_11).reads hn1 MX1.out
  rw [HDX0.out, HDX1.out] at cc12
  go_wp2_with fail; ((with_reducible refine (cc12).mono ?_); rintro e w12 ⟨rfl, hb12⟩)
  have z12 : (w10.alloc (.cells #[.string s1, .int .i64 a1, .slice AX1 n1 n1] 53)).heap.size ≤ w12.heap.size := hb12.size
  have B12 : Below w.heap.size w w12 := B11.trans (hb12.mono B11.size)
  have cP0_0_12 : w12.cell? ⟨w.heap.size, 0, none⟩ = some (.string s0) := (hb12.cell (block_lt_of_cell cP0_0_11)).trans cP0_0_11
  have cP0_1_12 : w12.cell? ⟨w.heap.size, 1, none⟩ = some (.int .i64 a0) := (hb12.cell (block_lt_of_cell cP0_1_11)).trans cP0_1_11
  have cP0_2_12 : w12.cell? ⟨w.heap.size, 2, none⟩ = some (.slice A0 n0 c0) := (hb12.cell (block_lt_of_cell cP0_2_11)).trans cP0_2_11
  clear cP0_0_11 cP0_1_11 cP0_2_11
  have cP1_0_12 : w12.cell? ⟨w.heap.size + 1, 0, none⟩ = some (.string s1) := (hb12.cell (block_lt_of_cell cP1_0_11)).trans cP1_0_11
  have cP1_1_12 : w12.cell? ⟨w.heap.size + 1, 1, none⟩ = some (.int .i64 a1) := (hb12.cell (block_lt_of_cell cP1_1_11)).trans cP1_1_11
  have cP1_2_12 : w12.cell? ⟨w.heap.size + 1, 2, none⟩ = some (.slice A1 n1 c1) := (hb12.cell (block_lt_of_cell cP1_2_11)).trans cP1_2_11
  clear cP1_0_11 cP1_1_11 cP1_2_11
  have cX0_0_12 : w12.cell? ⟨w8.heap.size, 0, none⟩ = some (.string s0) := (hb12.cell (block_lt_of_cell cX0_0_11)).trans cX0_0_11
  have cX0_1_12 : w12.cell? ⟨w8.heap.size, 1, none⟩ = some (.int .i64 a0) := (hb12.cell (block_lt_of_cell cX0_1_11)).trans cX0_1_11
  have cX0_2_12 : w12.cell? ⟨w8.heap.size, 2, none⟩ = some (.slice AX0 n0 n0) := (hb12.cell (block_lt_of_cell cX0_2_11)).trans cX0_2_11
  clear cX0_0_11 cX0_1_11 cX0_2_11
  have cX1_0_12 : w12.cell? ⟨w10.heap.size, 0, none⟩ = some (.string s1) := (hb12.cell (block_lt_of_cell cX1_0_11)).trans cX1_0_11
  have cX1_1_12 : w12.cell? ⟨w10.heap.size, 1, none⟩ = some (.int .i64 a1) := (hb12.cell (block_lt_of_cell cX1_1_11)).trans cX1_1_11
  have cX1_2_12 : w12.cell? ⟨w10.heap.size, 2, none⟩ = some (.slice AX1 n1 n1) := (hb12.cell (block_lt_of_cell cX1_2_11)).trans cX1_2_11
  clear cX1_0_11 cX1_1_11 cX1_2_11
  have SX0_12 := SX0_11.below hb12 (by omega)
  have SX1_12 := SX1_11.below hb12 (by omega)
  clear cc12
  have RDT0 := (hr0.below (below_drew B12)).more (below_drew B12).size
  have HZT0 : w8.heap.size ≤ w12.drew.heap.size := by show _ ≤ w12.heap.size; omega
  go_wp2_with fail
  go_region_held3 (fun w' => w'.cell? ⟨w.heap.size, 0, none⟩ = some (.string s0) ∧ w'.cell? ⟨w.heap.size, 1, none⟩ = some (.int .i64 a0) ∧ w'.cell? ⟨w.heap.size, 2, none⟩ = some (.slice A0 n0 c0) ∧ w'.cell? ⟨w8.heap.size, 0, none⟩ = some (.string s0) ∧ w'.cell? ⟨w8.heap.size, 1, none⟩ = some (.int .i64 a0) ∧ w'.cell? ⟨w8.heap.size, 2, none⟩ = some (.slice AX0 n0 n0))
    (first | go_keep | (exact ⟨(hb13.cell (block_lt_of_cell cP0_0_12)).trans cP0_0_12, (hb13.cell (block_lt_of_cell cP0_1_12)).trans cP0_1_12, (hb13.cell (block_lt_of_cell cP0_2_12)).trans cP0_2_12, (hb13.cell (block_lt_of_cell cX0_0_12)).trans cX0_0_12, (hb13.cell (block_lt_of_cell cX0_1_12)).trans cX0_1_12, (hb13.cell (block_lt_of_cell cX0_2_12)).trans cX0_2_12⟩) | (exact ⟨(hb14.cell (block_lt_of_cell ((hb13.cell (block_lt_of_cell cP0_0_12)).trans cP0_0_12))).trans ((hb13.cell (block_lt_of_cell cP0_0_12)).trans cP0_0_12), (hb14.cell (block_lt_of_cell ((hb13.cell (block_lt_of_cell cP0_1_12)).trans cP0_1_12))).trans ((hb13.cell (block_lt_of_cell cP0_1_12)).trans cP0_1_12), (hb14.cell (block_lt_of_cell ((hb13.cell (block_lt_of_cell cP0_2_12)).trans cP0_2_12))).trans ((hb13.cell (block_lt_of_cell cP0_2_12)).trans cP0_2_12), (hb14.cell (block_lt_of_cell ((hb13.cell (block_lt_of_cell cX0_0_12)).trans cX0_0_12))).trans ((hb13.cell (block_lt_of_cell cX0_0_12)).trans cX0_0_12), (hb14.cell (block_lt_of_cell ((hb13.cell (block_lt_of_cell cX0_1_12)).trans cX0_1_12))).trans ((hb13.cell (block_lt_of_cell cX0_1_12)).trans cX0_1_12), (hb14.cell (block_lt_of_cell ((hb13.cell (block_lt_of_cell cX0_2_12)).trans cX0_2_12))).trans ((hb13.cell (block_lt_of_cell cX0_2_12)).trans cX0_2_12)⟩))
    ((first | (go_at_call 40; (with_reducible refine (eqFan_b s0 a0 _ _ n0 n0 n0 rsX0 rsT0 _ (FX0_8.same ((SX0_12.drew).below hb13 HZT0)).reads (oss_mk oT0).reads (HDX0.out.trans DT0.symm) (by omega) (fun r hr => Nat.le_trans (MX0.out r hr) (by omega))).mono ?_); rintro e w14 ⟨rfl, hb14⟩) | (go_at_call 38; (with_reducible refine (toFan_any s0 a0 A0 n0 c0 xs0 _ ls0 RDT0 hn0 hrn0.out).mono ?_); rintro e w13 ⟨AT0, rsT0, rfl, oT0, DT0, hb13⟩)))
  replace hb13 : Below w12.heap.size w12 w13 := below_undrew hb13
  have z13 : w12.heap.size ≤ w13.heap.size := hb13.size
  have B13 : Below w.heap.size w w13 := B12.trans (hb13.mono B12.size)
  have cP0_0_13 : w13.cell? ⟨w.heap.size, 0, none⟩ = some (.string s0) := (hb13.cell (block_lt_of_cell cP0_0_12)).trans cP0_0_12
  have cP0_1_13 : w13.cell? ⟨w.heap.size, 1, none⟩ = some (.int .i64 a0) := (hb13.cell (block_lt_of_cell cP0_1_12)).trans cP0_1_12
  have cP0_2_13 : w13.cell? ⟨w.heap.size, 2, none⟩ = some (.slice A0 n0 c0) := (hb13.cell (block_lt_of_cell cP0_2_12)).trans cP0_2_12
  clear cP0_0_12 cP0_1_12 cP0_2_12
  have cP1_0_13 : w13.cell? ⟨w.heap.size + 1, 0, none⟩ = some (.string s1) := (hb13.cell (block_lt_of_cell cP1_0_12)).trans cP1_0_12
  have cP1_1_13 : w13.cell? ⟨w.heap.size + 1, 1, none⟩ = some (.int .i64 a1) := (hb13.cell (block_lt_of_cell cP1_1_12)).trans cP1_1_12
  have cP1_2_13 : w13.cell? ⟨w.heap.size + 1, 2, none⟩ = some (.slice A1 n1 c1) := (hb13.cell (block_lt_of_cell cP1_2_12)).trans cP1_2_12
  clear cP1_0_12 cP1_1_12 cP1_2_12
  have cX0_0_13 : w13.cell? ⟨w8.heap.size, 0, none⟩ = some (.string s0) := (hb13.cell (block_lt_of_cell cX0_0_12)).trans cX0_0_12
  have cX0_1_13 : w13.cell? ⟨w8.heap.size, 1, none⟩ = some (.int .i64 a0) := (hb13.cell (block_lt_of_cell cX0_1_12)).trans cX0_1_12
  have cX0_2_13 : w13.cell? ⟨w8.heap.size, 2, none⟩ = some (.slice AX0 n0 n0) := (hb13.cell (block_lt_of_cell cX0_2_12)).trans cX0_2_12
  clear cX0_0_12 cX0_1_12 cX0_2_12
  have cX1_0_13 : w13.cell? ⟨w10.heap.size, 0, none⟩ = some (.string s1) := (hb13.cell (block_lt_of_cell cX1_0_12)).trans cX1_0_12
  have cX1_1_13 : w13.cell? ⟨w10.heap.size, 1, none⟩ = some (.int .i64 a1) := (hb13.cell (block_lt_of_cell cX1_1_12)).trans cX1_1_12
  have cX1_2_13 : w13.cell? ⟨w10.heap.size, 2, none⟩ = some (.slice AX1 n1 n1) := (hb13.cell (block_lt_of_cell cX1_2_12)).trans cX1_2_12
  clear cX1_0_12 cX1_1_12 cX1_2_12
  have SX0_13 := SX0_12.below hb13 (by omega)
  have SX1_13 := SX1_12.below hb13 (by omega)
  have z14 : w13.heap.size ≤ w14.heap.size := hb14.size
  have B14 : Below w.heap.size w w14 := B13.trans (hb14.mono B13.size)
  have cP0_0_14 : w14.cell? ⟨w.heap.size, 0, none⟩ = some (.string s0) := (hb14.cell (block_lt_of_cell cP0_0_13)).trans cP0_0_13
  have cP0_1_14 : w14.cell? ⟨w.heap.size, 1, none⟩ = some (.int .i64 a0) := (hb14.cell (block_lt_of_cell cP0_1_13)).trans cP0_1_13
  have cP0_2_14 : w14.cell? ⟨w.heap.size, 2, none⟩ = some (.slice A0 n0 c0) := (hb14.cell (block_lt_of_cell cP0_2_13)).trans cP0_2_13
  clear cP0_0_13 cP0_1_13 cP0_2_13
  have cP1_0_14 : w14.cell? ⟨w.heap.size + 1, 0, none⟩ = some (.string s1) := (hb14.cell (block_lt_of_cell cP1_0_13)).trans cP1_0_13
  have cP1_1_14 : w14.cell? ⟨w.heap.size + 1, 1, none⟩ = some (.int .i64 a1) := (hb14.cell (block_lt_of_cell cP1_1_13)).trans cP1_1_13
  have cP1_2_14 : w14.cell? ⟨w.heap.size + 1, 2, none⟩ = some (.slice A1 n1 c1) := (hb14.cell (block_lt_of_cell cP1_2_13)).trans cP1_2_13
  clear cP1_0_13 cP1_1_13 cP1_2_13
  have cX0_0_14 : w14.cell? ⟨w8.heap.size, 0, none⟩ = some (.string s0) := (hb14.cell (block_lt_of_cell cX0_0_13)).trans cX0_0_13
  have cX0_1_14 : w14.cell? ⟨w8.heap.size, 1, none⟩ = some (.int .i64 a0) := (hb14.cell (block_lt_of_cell cX0_1_13)).trans cX0_1_13
  have cX0_2_14 : w14.cell? ⟨w8.heap.size, 2, none⟩ = some (.slice AX0 n0 n0) := (hb14.cell (block_lt_of_cell cX0_2_13)).trans cX0_2_13
  clear cX0_0_13 cX0_1_13 cX0_2_13
  have cX1_0_14 : w14.cell? ⟨w10.heap.size, 0, none⟩ = some (.string s1) := (hb14.cell (block_lt_of_cell cX1_0_13)).trans cX1_0_13
  have cX1_1_14 : w14.cell? ⟨w10.heap.size, 1, none⟩ = some (.int .i64 a1) := (hb14.cell (block_lt_of_cell cX1_1_13)).trans cX1_1_13
  have cX1_2_14 : w14.cell? ⟨w10.heap.size, 2, none⟩ = some (.slice AX1 n1 n1) := (hb14.cell (block_lt_of_cell cX1_2_13)).trans cX1_2_13
  clear cX1_0_13 cX1_1_13 cX1_2_13
  have SX0_14 := SX0_13.below hb14 (by omega)
  have SX1_14 := SX1_13.below hb14 (by omega)
  have RDT1 := (hr1.below (below_drew B14)).more (below_drew B14).size
  have HZT1 : w10.heap.size ≤ w14.drew.heap.size := by show _ ≤ w14.heap.size; omega
  go_wp2_with fail
  go_region_held3 (fun w' => w'.cell? ⟨w.heap.size + 1, 0, none⟩ = some (.string s1) ∧ w'.cell? ⟨w.heap.size + 1, 1, none⟩ = some (.int .i64 a1) ∧ w'.cell? ⟨w.heap.size + 1, 2, none⟩ = some (.slice A1 n1 c1) ∧ w'.cell? ⟨w10.heap.size, 0, none⟩ = some (.string s1) ∧ w'.cell? ⟨w10.heap.size, 1, none⟩ = some (.int .i64 a1) ∧ w'.cell? ⟨w10.heap.size, 2, none⟩ = some (.slice AX1 n1 n1))
    (first | go_keep | (exact ⟨(hb15.cell (block_lt_of_cell cP1_0_14)).trans cP1_0_14, (hb15.cell (block_lt_of_cell cP1_1_14)).trans cP1_1_14, (hb15.cell (block_lt_of_cell cP1_2_14)).trans cP1_2_14, (hb15.cell (block_lt_of_cell cX1_0_14)).trans cX1_0_14, (hb15.cell (block_lt_of_cell cX1_1_14)).trans cX1_1_14, (hb15.cell (block_lt_of_cell cX1_2_14)).trans cX1_2_14⟩) | (exact ⟨(hb16.cell (block_lt_of_cell ((hb15.cell (block_lt_of_cell cP1_0_14)).trans cP1_0_14))).trans ((hb15.cell (block_lt_of_cell cP1_0_14)).trans cP1_0_14), (hb16.cell (block_lt_of_cell ((hb15.cell (block_lt_of_cell cP1_1_14)).trans cP1_1_14))).trans ((hb15.cell (block_lt_of_cell cP1_1_14)).trans cP1_1_14), (hb16.cell (block_lt_of_cell ((hb15.cell (block_lt_of_cell cP1_2_14)).trans cP1_2_14))).trans ((hb15.cell (block_lt_of_cell cP1_2_14)).trans cP1_2_14), (hb16.cell (block_lt_of_cell ((hb15.cell (block_lt_of_cell cX1_0_14)).trans cX1_0_14))).trans ((hb15.cell (block_lt_of_cell cX1_0_14)).trans cX1_0_14), (hb16.cell (block_lt_of_cell ((hb15.cell (block_lt_of_cell cX1_1_14)).trans cX1_1_14))).trans ((hb15.cell (block_lt_of_cell cX1_1_14)).trans cX1_1_14), (hb16.cell (block_lt_of_cell ((hb15.cell (block_lt_of_cell cX1_2_14)).trans cX1_2_14))).trans ((hb15.cell (block_lt_of_cell cX1_2_14)).trans cX1_2_14)⟩))
    ((first | (go_at_call 40; (with_reducible refine (eqFan_b s1 a1 _ _ n1 n1 n1 rsX1 rsT1 _ (FX1_10.same ((SX1_14.drew).below hb15 HZT1)).reads (oss_mk oT1).reads (HDX1.out.trans DT1.symm) (by omega) (fun r hr => Nat.le_trans (MX1.out r hr) (by omega))).mono ?_); rintro e w16 ⟨rfl, hb16⟩) | (go_at_call 38; (with_reducible refine (toFan_any s1 a1 A1 n1 c1 xs1 _ ls1 RDT1 hn1 hrn1.out).mono ?_); rintro e w15 ⟨AT1, rsT1, rfl, oT1, DT1, hb15⟩)))
  replace hb15 : Below w14.heap.size w14 w15 := below_undrew hb15
  have z15 : w14.heap.size ≤ w15.heap.size := hb15.size
  have B15 : Below w.heap.size w w15 := B14.trans (hb15.mono B14.size)
  have cP0_0_15 : w15.cell? ⟨w.heap.size, 0, none⟩ = some (.string s0) := (hb15.cell (block_lt_of_cell cP0_0_14)).trans cP0_0_14
  have cP0_1_15 : w15.cell? ⟨w.heap.size, 1, none⟩ = some (.int .i64 a0) := (hb15.cell (block_lt_of_cell cP0_1_14)).trans cP0_1_14
  have cP0_2_15 : w15.cell? ⟨w.heap.size, 2, none⟩ = some (.slice A0 n0 c0) := (hb15.cell (block_lt_of_cell cP0_2_14)).trans cP0_2_14
  clear cP0_0_14 cP0_1_14 cP0_2_14
  have cP1_0_15 : w15.cell? ⟨w.heap.size + 1, 0, none⟩ = some (.string s1) := (hb15.cell (block_lt_of_cell cP1_0_14)).trans cP1_0_14
  have cP1_1_15 : w15.cell? ⟨w.heap.size + 1, 1, none⟩ = some (.int .i64 a1) := (hb15.cell (block_lt_of_cell cP1_1_14)).trans cP1_1_14
  have cP1_2_15 : w15.cell? ⟨w.heap.size + 1, 2, none⟩ = some (.slice A1 n1 c1) := (hb15.cell (block_lt_of_cell cP1_2_14)).trans cP1_2_14
  clear cP1_0_14 cP1_1_14 cP1_2_14
  have cX0_0_15 : w15.cell? ⟨w8.heap.size, 0, none⟩ = some (.string s0) := (hb15.cell (block_lt_of_cell cX0_0_14)).trans cX0_0_14
  have cX0_1_15 : w15.cell? ⟨w8.heap.size, 1, none⟩ = some (.int .i64 a0) := (hb15.cell (block_lt_of_cell cX0_1_14)).trans cX0_1_14
  have cX0_2_15 : w15.cell? ⟨w8.heap.size, 2, none⟩ = some (.slice AX0 n0 n0) := (hb15.cell (block_lt_of_cell cX0_2_14)).trans cX0_2_14
  clear cX0_0_14 cX0_1_14 cX0_2_14
  have cX1_0_15 : w15.cell? ⟨w10.heap.size, 0, none⟩ = some (.string s1) := (hb15.cell (block_lt_of_cell cX1_0_14)).trans cX1_0_14
  have cX1_1_15 : w15.cell? ⟨w10.heap.size, 1, none⟩ = some (.int .i64 a1) := (hb15.cell (block_lt_of_cell cX1_1_14)).trans cX1_1_14
  have cX1_2_15 : w15.cell? ⟨w10.heap.size, 2, none⟩ = some (.slice AX1 n1 n1) := (hb15.cell (block_lt_of_cell cX1_2_14)).trans cX1_2_14
  clear cX1_0_14 cX1_1_14 cX1_2_14
  have SX1_15 := SX1_14.below hb15 (by omega)
  have z16 : w15.heap.size ≤ w16.heap.size := hb16.size
  have B16 : Below w.heap.size w w16 := B15.trans (hb16.mono B15.size)
  have cP0_0_16 : w16.cell? ⟨w.heap.size, 0, none⟩ = some (.string s0) := (hb16.cell (block_lt_of_cell cP0_0_15)).trans cP0_0_15
  have cP0_1_16 : w16.cell? ⟨w.heap.size, 1, none⟩ = some (.int .i64 a0) := (hb16.cell (block_lt_of_cell cP0_1_15)).trans cP0_1_15
  have cP0_2_16 : w16.cell? ⟨w.heap.size, 2, none⟩ = some (.slice A0 n0 c0) := (hb16.cell (block_lt_of_cell cP0_2_15)).trans cP0_2_15
  clear cP0_0_15 cP0_1_15 cP0_2_15
  have cP1_0_16 : w16.cell? ⟨w.heap.size + 1, 0, none⟩ = some (.string s1) := (hb16.cell (block_lt_of_cell cP1_0_15)).trans cP1_0_15
  have cP1_1_16 : w16.cell? ⟨w.heap.size + 1, 1, none⟩ = some (.int .i64 a1) := (hb16.cell (block_lt_of_cell cP1_1_15)).trans cP1_1_15
  have cP1_2_16 : w16.cell? ⟨w.heap.size + 1, 2, none⟩ = some (.slice A1 n1 c1) := (hb16.cell (block_lt_of_cell cP1_2_15)).trans cP1_2_15
  clear cP1_0_15 cP1_1_15 cP1_2_15
  have cX0_0_16 : w16.cell? ⟨w8.heap.size, 0, none⟩ = some (.string s0) := (hb16.cell (block_lt_of_cell cX0_0_15)).trans cX0_0_15
  have cX0_1_16 : w16.cell? ⟨w8.heap.size, 1, none⟩ = some (.int .i64 a0) := (hb16.cell (block_lt_of_cell cX0_1_15)).trans cX0_1_15
  have cX0_2_16 : w16.cell? ⟨w8.heap.size, 2, none⟩ = some (.slice AX0 n0 n0) := (hb16.cell (block_lt_of_cell cX0_2_15)).trans cX0_2_15
  clear cX0_0_15 cX0_1_15 cX0_2_15
  have cX1_0_16 : w16.cell? ⟨w10.heap.size, 0, none⟩ = some (.string s1) := (hb16.cell (block_lt_of_cell cX1_0_15)).trans cX1_0_15
  have cX1_1_16 : w16.cell? ⟨w10.heap.size, 1, none⟩ = some (.int .i64 a1) := (hb16.cell (block_lt_of_cell cX1_1_15)).trans cX1_1_15
  have cX1_2_16 : w16.cell? ⟨w10.heap.size, 2, none⟩ = some (.slice AX1 n1 n1) := (hb16.cell (block_lt_of_cell cX1_2_15)).trans cX1_2_15
  clear cX1_0_15 cX1_1_15 cX1_2_15
  have SX1_16 := SX1_15.below hb16 (by omega)
  go_wp2
  go_ret
  exact ⟨rfl, B16⟩

set_option maxRecDepth 100000 in
theorem lifted (os : Os) (started : os.Started) (H : Type) (enc : TypeId × Value → H) :
    ReturnsInHanded {} Try.checked os 9 .any (Rows.fnExactSameFanSpec.pre6 enc Try.prog Try.f9 Rows.fnExactSameFanRow.domain false) (Rows.fnExactSameFanSpec.post enc Try.prog Try.f9 false true false false) := by
  refine returnsInHanded_of_change (C := Try.checked) own_ started (by kernel_rfl) Try.func9
    (ChangeSpec.witness6 (enc := enc) (C := Try.checked) false ⟨#[], #[.agg #[.string ByteArray.empty, .int .i64 0, .slice none 0 0], .agg #[.string ByteArray.empty, .int .i64 0, .slice none 0 0]], []⟩ 12 (by kernel_rfl) (by kernel_rfl) (by kernel_rfl) (by kernel_rfl)) ?_
  intro W base args ds gs before hval0 hW hcnd _
  have hval : ∀ (j : Nat) t v, Try.f9.params[j]? = some t → args[j]? = some v → Value.okWide Try.prog W .any base t v := hval0
  have hW' := hW
  obtain ⟨p, q, hA0, hV, rfl, hfz, hnd⟩ := hW
  have hA : DataW.TrodAll enc Try.prog W 0 (fun _ => true) true Try.f9.params.toList args.toList ds p := hA0
  rw [Try.params9] at hA hval
  obtain ⟨v0, vs0, d0, ds0, p0, q0, hargs, rfl, rfl, h0, r0⟩ := trodAll_cons hA
  obtain ⟨v1, vs1, d1, ds1, p1, q1, rfl, rfl, rfl, h1, r1⟩ := trodAll_cons r0
  obtain ⟨rfl, rfl, rfl⟩ := trodAll_nil r1
  obtain rfl : args = #[v0, v1] := by cases args; simp_all
  obtain ⟨rfl, rfl⟩ := trodVars_none hV
  obtain ⟨s0, a0, A0, n0, c0, xs0, rfl, ls0, lc0, gc0, hr0, hm0⟩ := op_fan Try.underlying50 (by kernel_rfl) (by kernel_rfl) Try.underlying9 Try.underlying2 Try.underlying22 Try.underlying41 Try.underlying2 (by kernel_rfl) (by kernel_rfl) (hval 0 50 v0 rfl rfl) h0
  obtain ⟨s1, a1, A1, n1, c1, xs1, rfl, ls1, lc1, gc1, hr1, hm1⟩ := op_fan Try.underlying50 (by kernel_rfl) (by kernel_rfl) Try.underlying9 Try.underlying2 Try.underlying22 Try.underlying41 Try.underlying2 (by kernel_rfl) (by kernel_rfl) (hval 1 50 v1 rfl rfl) h1
  clear hA0 hval0
  refine (walk s0 a0 A0 n0 c0 xs0 ls0 lc0 gc0 s1 a1 A1 n1 c1 xs1 ls1 lc1 gc1 W hr0 hm0 hr1 hm1).mono fun e W' ⟨he, hb⟩ => ?_
  subst he
  exact ⟨_, rfl, law_post laidOut_ (by kernel_rfl) rfl rfl Try.underlying4 hW' rfl hb⟩

theorem over : Rows.fnExactSameFanRow.holds Try.pinned (OpenSpec.ofChange Rows.fnExactSameFanSpec) :=
  OpenClaim.holds_of_wide 9 Try.f9 rfl rfl rfl rfl rfl rfl rfl ⟨rfl, rfl, rfl, rfl, rfl⟩ rfl rfl rfl rfl rfl (by kernel_rfl) Try.func9 (by kernel_rfl)
    (of_decide_eq_true (by kernel_rfl)) (by unfold Func.isWrapper; first | (rw [if_pos (by decide +kernel)]; kernel_rfl) | (rw [if_neg (by decide +kernel)]; exact ⟨rfl, rfl⟩))
    (fun os started H enc _ => lifted os started H enc)

/-- The statement. -/
theorem proved : Rows.FnExactSameFanSaid := over
#print axioms proved
end Go.Proofs.Ytnaggimfialbfaa.lSameFan
