/- The law FnExactFansInParallel: for all arguments the program's FansInParallel and the reference's return the same, and the result shares no memory with an argument or with the result of another call; no condition. -/
import Derived.Test.YtapophggndlhaaaFrame
import Derived.Test.YtapophggndlhaaaOwn
import Derived.Test.YtapophggndlhaaaFrN
import Derived.Test.YtapophggndlhaaaFanH
import Derived.Test.YtapophggndlhaaaMkR
import Derived.Test.YtapophggndlhaaaParS
import Derived.Test.YtapophggndlhaaaParI
import Derived.Test.YtapophggndlhaaaFct
import Derived.Deep.RegionHeld3
import Derived.Deep.DeepCutAuto
namespace Go.Proofs.Ytapophggndlhaaa.lFansInParallel
set_option linter.unusedVariables false
set_option linter.unusedSimpArgs false
open Go.ChangeShapes Go.WideShapes Go.ChangeAt Go.RowKit
set_option maxHeartbeats 4000000 in
set_option maxRecDepth 100000 in
theorem walk (s0 : ByteArray) (a0 : Int) (A0 : Option Addr) (n0 c0 : Nat) (xs0 : List Row) (ls0 : s0.size ≤ maxLen) (lc0 : n0 ≤ c0) (gc0 : c0 ≤ maxLen) (s1 : ByteArray) (a1 : Int) (A1 : Option Addr) (n1 c1 : Nat) (xs1 : List Row) (ls1 : s1.size ≤ maxLen) (lc1 : n1 ≤ c1) (gc1 : c1 ≤ maxLen) (w : World) (hr0 : RSS w w.heap.size A0 n0 xs0) (hm0 : ∀ r ∈ xs0, r.n ≤ maxLen) (hr1 : RSS w w.heap.size A1 n1 xs1) (hm1 : ∀ r ∈ xs1, r.n ≤ maxLen) :
    Calls Try.prog 10 #[.agg #[.string s0, .int .i64 a0, .slice A0 n0 c0], .agg #[.string s1, .int .i64 a1, .slice A1 n1 c1]] w fun e w' => e = .returned (.bool true) ∧ Below w.heap.size w w' := by
  have HM0 := Lib.hid hm0
  clear hm0
  have HM1 := Lib.hid hm1
  clear hm1
  have t0 := tot_nonneg xs0
  by_cases hN0 : 1048576 < ((s0.size : Int) + ((n0 : Int) + tot xs0))
  ·  -- too large
    have HN0 := Lib.hid hN0
    have z1 : w.heap.size + 1 ≤ (w.alloc (.cells #[.string s0, .int .i64 a0, .slice A0 n0 c0] 24)).heap.size := by simp
    have B1 : Below w.heap.size w (w.alloc (.cells #[.string s0, .int .i64 a0, .slice A0 n0 c0] 24)) := (Below.refl _ _).alloc (Nat.le_refl _) _
    have cP0_0_1 : (w.alloc (.cells #[.string s0, .int .i64 a0, .slice A0 n0 c0] 24)).cell? ⟨w.heap.size, 0, none⟩ = some (.string s0) := ((Blk.new w 24 #[.string s0, .int .i64 a0, .slice A0 n0 c0]).cell 0).trans rfl
    have cP0_1_1 : (w.alloc (.cells #[.string s0, .int .i64 a0, .slice A0 n0 c0] 24)).cell? ⟨w.heap.size, 1, none⟩ = some (.int .i64 a0) := ((Blk.new w 24 #[.string s0, .int .i64 a0, .slice A0 n0 c0]).cell 1).trans rfl
    have cP0_2_1 : (w.alloc (.cells #[.string s0, .int .i64 a0, .slice A0 n0 c0] 24)).cell? ⟨w.heap.size, 2, none⟩ = some (.slice A0 n0 c0) := ((Blk.new w 24 #[.string s0, .int .i64 a0, .slice A0 n0 c0]).cell 2).trans rfl
    have z2 : (w.alloc (.cells #[.string s0, .int .i64 a0, .slice A0 n0 c0] 24)).heap.size + 1 ≤ ((w.alloc (.cells #[.string s0, .int .i64 a0, .slice A0 n0 c0] 24)).alloc (.cells #[.string s1, .int .i64 a1, .slice A1 n1 c1] 24)).heap.size := by simp
    have B2 : Below w.heap.size w ((w.alloc (.cells #[.string s0, .int .i64 a0, .slice A0 n0 c0] 24)).alloc (.cells #[.string s1, .int .i64 a1, .slice A1 n1 c1] 24)) := B1.alloc B1.size _
    have cP0_0_2 : ((w.alloc (.cells #[.string s0, .int .i64 a0, .slice A0 n0 c0] 24)).alloc (.cells #[.string s1, .int .i64 a1, .slice A1 n1 c1] 24)).cell? ⟨w.heap.size, 0, none⟩ = some (.string s0) := (World.cell?_alloc_lt _ _ _ (block_lt_of_cell cP0_0_1)).trans cP0_0_1
    have cP0_1_2 : ((w.alloc (.cells #[.string s0, .int .i64 a0, .slice A0 n0 c0] 24)).alloc (.cells #[.string s1, .int .i64 a1, .slice A1 n1 c1] 24)).cell? ⟨w.heap.size, 1, none⟩ = some (.int .i64 a0) := (World.cell?_alloc_lt _ _ _ (block_lt_of_cell cP0_1_1)).trans cP0_1_1
    have cP0_2_2 : ((w.alloc (.cells #[.string s0, .int .i64 a0, .slice A0 n0 c0] 24)).alloc (.cells #[.string s1, .int .i64 a1, .slice A1 n1 c1] 24)).cell? ⟨w.heap.size, 2, none⟩ = some (.slice A0 n0 c0) := (World.cell?_alloc_lt _ _ _ (block_lt_of_cell cP0_2_1)).trans cP0_2_1
    clear cP0_0_1 cP0_1_1 cP0_2_1
    have cP1_0_2 : ((w.alloc (.cells #[.string s0, .int .i64 a0, .slice A0 n0 c0] 24)).alloc (.cells #[.string s1, .int .i64 a1, .slice A1 n1 c1] 24)).cell? ⟨w.heap.size + 1, 0, none⟩ = some (.string s1) := by simp
    have cP1_1_2 : ((w.alloc (.cells #[.string s0, .int .i64 a0, .slice A0 n0 c0] 24)).alloc (.cells #[.string s1, .int .i64 a1, .slice A1 n1 c1] 24)).cell? ⟨w.heap.size + 1, 1, none⟩ = some (.int .i64 a1) := by simp
    have cP1_2_2 : ((w.alloc (.cells #[.string s0, .int .i64 a0, .slice A0 n0 c0] 24)).alloc (.cells #[.string s1, .int .i64 a1, .slice A1 n1 c1] 24)).cell? ⟨w.heap.size + 1, 2, none⟩ = some (.slice A1 n1 c1) := by simp
    go_enter Try.func10, Try.ntmps10
    have sc0 := szFan_any s0 a0 A0 n0 c0 xs0 (1048576) ((w.alloc (.cells #[.string s0, .int .i64 a0, .slice A0 n0 c0] 24)).alloc (.cells #[.string s1, .int .i64 a1, .slice A1 n1 c1] 24)) ls0 ((hr0.below B2).more B2.size) (by omega) (by omega) (by omega) HM0.out
    rw [szI_n (l := 1048576) (s := ((s0.size : Int) + ((n0 : Int) + tot xs0))) (by omega)] at sc0
    go_wp2_with fail; ((with_reducible refine sc0.mono ?_); rintro e w3 ⟨rfl, hb3⟩)
    clear sc0
    have z3 : ((w.alloc (.cells #[.string s0, .int .i64 a0, .slice A0 n0 c0] 24)).alloc (.cells #[.string s1, .int .i64 a1, .slice A1 n1 c1] 24)).heap.size ≤ w3.heap.size := hb3.size
    have B3 : Below w.heap.size w w3 := B2.trans (hb3.mono B2.size)
    have cP0_0_3 : w3.cell? ⟨w.heap.size, 0, none⟩ = some (.string s0) := (hb3.cell (block_lt_of_cell cP0_0_2)).trans cP0_0_2
    have cP0_1_3 : w3.cell? ⟨w.heap.size, 1, none⟩ = some (.int .i64 a0) := (hb3.cell (block_lt_of_cell cP0_1_2)).trans cP0_1_2
    have cP0_2_3 : w3.cell? ⟨w.heap.size, 2, none⟩ = some (.slice A0 n0 c0) := (hb3.cell (block_lt_of_cell cP0_2_2)).trans cP0_2_2
    clear cP0_0_2 cP0_1_2 cP0_2_2
    have cP1_0_3 : w3.cell? ⟨w.heap.size + 1, 0, none⟩ = some (.string s1) := (hb3.cell (block_lt_of_cell cP1_0_2)).trans cP1_0_2
    have cP1_1_3 : w3.cell? ⟨w.heap.size + 1, 1, none⟩ = some (.int .i64 a1) := (hb3.cell (block_lt_of_cell cP1_1_2)).trans cP1_1_2
    have cP1_2_3 : w3.cell? ⟨w.heap.size + 1, 2, none⟩ = some (.slice A1 n1 c1) := (hb3.cell (block_lt_of_cell cP1_2_2)).trans cP1_2_2
    clear cP1_0_2 cP1_1_2 cP1_2_2
    go_wp2
    go_ret
    exact ⟨rfl, B3⟩
  have HY0 := Lib.hid hN0
  have t1 := tot_nonneg xs1
  by_cases hN1 : 1048576 - ((s0.size : Int) + ((n0 : Int) + tot xs0)) < ((s1.size : Int) + ((n1 : Int) + tot xs1))
  ·  -- too large
    have HN1 := Lib.hid hN1
    have z1 : w.heap.size + 1 ≤ (w.alloc (.cells #[.string s0, .int .i64 a0, .slice A0 n0 c0] 24)).heap.size := by simp
    have B1 : Below w.heap.size w (w.alloc (.cells #[.string s0, .int .i64 a0, .slice A0 n0 c0] 24)) := (Below.refl _ _).alloc (Nat.le_refl _) _
    have cP0_0_1 : (w.alloc (.cells #[.string s0, .int .i64 a0, .slice A0 n0 c0] 24)).cell? ⟨w.heap.size, 0, none⟩ = some (.string s0) := ((Blk.new w 24 #[.string s0, .int .i64 a0, .slice A0 n0 c0]).cell 0).trans rfl
    have cP0_1_1 : (w.alloc (.cells #[.string s0, .int .i64 a0, .slice A0 n0 c0] 24)).cell? ⟨w.heap.size, 1, none⟩ = some (.int .i64 a0) := ((Blk.new w 24 #[.string s0, .int .i64 a0, .slice A0 n0 c0]).cell 1).trans rfl
    have cP0_2_1 : (w.alloc (.cells #[.string s0, .int .i64 a0, .slice A0 n0 c0] 24)).cell? ⟨w.heap.size, 2, none⟩ = some (.slice A0 n0 c0) := ((Blk.new w 24 #[.string s0, .int .i64 a0, .slice A0 n0 c0]).cell 2).trans rfl
    have z2 : (w.alloc (.cells #[.string s0, .int .i64 a0, .slice A0 n0 c0] 24)).heap.size + 1 ≤ ((w.alloc (.cells #[.string s0, .int .i64 a0, .slice A0 n0 c0] 24)).alloc (.cells #[.string s1, .int .i64 a1, .slice A1 n1 c1] 24)).heap.size := by simp
    have B2 : Below w.heap.size w ((w.alloc (.cells #[.string s0, .int .i64 a0, .slice A0 n0 c0] 24)).alloc (.cells #[.string s1, .int .i64 a1, .slice A1 n1 c1] 24)) := B1.alloc B1.size _
    have cP0_0_2 : ((w.alloc (.cells #[.string s0, .int .i64 a0, .slice A0 n0 c0] 24)).alloc (.cells #[.string s1, .int .i64 a1, .slice A1 n1 c1] 24)).cell? ⟨w.heap.size, 0, none⟩ = some (.string s0) := (World.cell?_alloc_lt _ _ _ (block_lt_of_cell cP0_0_1)).trans cP0_0_1
    have cP0_1_2 : ((w.alloc (.cells #[.string s0, .int .i64 a0, .slice A0 n0 c0] 24)).alloc (.cells #[.string s1, .int .i64 a1, .slice A1 n1 c1] 24)).cell? ⟨w.heap.size, 1, none⟩ = some (.int .i64 a0) := (World.cell?_alloc_lt _ _ _ (block_lt_of_cell cP0_1_1)).trans cP0_1_1
    have cP0_2_2 : ((w.alloc (.cells #[.string s0, .int .i64 a0, .slice A0 n0 c0] 24)).alloc (.cells #[.string s1, .int .i64 a1, .slice A1 n1 c1] 24)).cell? ⟨w.heap.size, 2, none⟩ = some (.slice A0 n0 c0) := (World.cell?_alloc_lt _ _ _ (block_lt_of_cell cP0_2_1)).trans cP0_2_1
    clear cP0_0_1 cP0_1_1 cP0_2_1
    have cP1_0_2 : ((w.alloc (.cells #[.string s0, .int .i64 a0, .slice A0 n0 c0] 24)).alloc (.cells #[.string s1, .int .i64 a1, .slice A1 n1 c1] 24)).cell? ⟨w.heap.size + 1, 0, none⟩ = some (.string s1) := by simp
    have cP1_1_2 : ((w.alloc (.cells #[.string s0, .int .i64 a0, .slice A0 n0 c0] 24)).alloc (.cells #[.string s1, .int .i64 a1, .slice A1 n1 c1] 24)).cell? ⟨w.heap.size + 1, 1, none⟩ = some (.int .i64 a1) := by simp
    have cP1_2_2 : ((w.alloc (.cells #[.string s0, .int .i64 a0, .slice A0 n0 c0] 24)).alloc (.cells #[.string s1, .int .i64 a1, .slice A1 n1 c1] 24)).cell? ⟨w.heap.size + 1, 2, none⟩ = some (.slice A1 n1 c1) := by simp
    go_enter Try.func10, Try.ntmps10
    have sc0 := szFan_any s0 a0 A0 n0 c0 xs0 (1048576) ((w.alloc (.cells #[.string s0, .int .i64 a0, .slice A0 n0 c0] 24)).alloc (.cells #[.string s1, .int .i64 a1, .slice A1 n1 c1] 24)) ls0 ((hr0.below B2).more B2.size) (by omega) (by omega) (by omega) HM0.out
    rw [szI_y (l := 1048576) (s := ((s0.size : Int) + ((n0 : Int) + tot xs0))) (by omega)] at sc0
    go_wp2_with fail; ((with_reducible refine sc0.mono ?_); rintro e w3 ⟨rfl, hb3⟩)
    clear sc0
    have z3 : ((w.alloc (.cells #[.string s0, .int .i64 a0, .slice A0 n0 c0] 24)).alloc (.cells #[.string s1, .int .i64 a1, .slice A1 n1 c1] 24)).heap.size ≤ w3.heap.size := hb3.size
    have B3 : Below w.heap.size w w3 := B2.trans (hb3.mono B2.size)
    have cP0_0_3 : w3.cell? ⟨w.heap.size, 0, none⟩ = some (.string s0) := (hb3.cell (block_lt_of_cell cP0_0_2)).trans cP0_0_2
    have cP0_1_3 : w3.cell? ⟨w.heap.size, 1, none⟩ = some (.int .i64 a0) := (hb3.cell (block_lt_of_cell cP0_1_2)).trans cP0_1_2
    have cP0_2_3 : w3.cell? ⟨w.heap.size, 2, none⟩ = some (.slice A0 n0 c0) := (hb3.cell (block_lt_of_cell cP0_2_2)).trans cP0_2_2
    clear cP0_0_2 cP0_1_2 cP0_2_2
    have cP1_0_3 : w3.cell? ⟨w.heap.size + 1, 0, none⟩ = some (.string s1) := (hb3.cell (block_lt_of_cell cP1_0_2)).trans cP1_0_2
    have cP1_1_3 : w3.cell? ⟨w.heap.size + 1, 1, none⟩ = some (.int .i64 a1) := (hb3.cell (block_lt_of_cell cP1_1_2)).trans cP1_1_2
    have cP1_2_3 : w3.cell? ⟨w.heap.size + 1, 2, none⟩ = some (.slice A1 n1 c1) := (hb3.cell (block_lt_of_cell cP1_2_2)).trans cP1_2_2
    clear cP1_0_2 cP1_1_2 cP1_2_2
    have sc1 := szFan_any s1 a1 A1 n1 c1 xs1 (1048576 - ((s0.size : Int) + ((n0 : Int) + tot xs0))) w3 ls1 ((hr1.below B3).more B3.size) (by omega) (by omega) (by omega) HM1.out
    rw [szI_n (l := 1048576 - ((s0.size : Int) + ((n0 : Int) + tot xs0))) (s := ((s1.size : Int) + ((n1 : Int) + tot xs1))) (by omega)] at sc1
    go_wp2_with fail; ((with_reducible refine sc1.mono ?_); rintro e w4 ⟨rfl, hb4⟩)
    clear sc1
    have z4 : w3.heap.size ≤ w4.heap.size := hb4.size
    have B4 : Below w.heap.size w w4 := B3.trans (hb4.mono B3.size)
    have cP0_0_4 : w4.cell? ⟨w.heap.size, 0, none⟩ = some (.string s0) := (hb4.cell (block_lt_of_cell cP0_0_3)).trans cP0_0_3
    have cP0_1_4 : w4.cell? ⟨w.heap.size, 1, none⟩ = some (.int .i64 a0) := (hb4.cell (block_lt_of_cell cP0_1_3)).trans cP0_1_3
    have cP0_2_4 : w4.cell? ⟨w.heap.size, 2, none⟩ = some (.slice A0 n0 c0) := (hb4.cell (block_lt_of_cell cP0_2_3)).trans cP0_2_3
    clear cP0_0_3 cP0_1_3 cP0_2_3
    have cP1_0_4 : w4.cell? ⟨w.heap.size + 1, 0, none⟩ = some (.string s1) := (hb4.cell (block_lt_of_cell cP1_0_3)).trans cP1_0_3
    have cP1_1_4 : w4.cell? ⟨w.heap.size + 1, 1, none⟩ = some (.int .i64 a1) := (hb4.cell (block_lt_of_cell cP1_1_3)).trans cP1_1_3
    have cP1_2_4 : w4.cell? ⟨w.heap.size + 1, 2, none⟩ = some (.slice A1 n1 c1) := (hb4.cell (block_lt_of_cell cP1_2_3)).trans cP1_2_3
    clear cP1_0_3 cP1_1_3 cP1_2_3
    go_wp2
    go_ret
    exact ⟨rfl, B4⟩
  have HY1 := Lib.hid hN1
  have hn0 : n0 ≤ 1048576 := by omega
  have hrn0 : Hid (∀ r ∈ xs0, r.n ≤ 1048576) := fun r hr => by have := tot_mem hr; omega
  have hn1 : n1 ≤ 1048576 := by omega
  have hrn1 : Hid (∀ r ∈ xs1, r.n ≤ 1048576) := fun r hr => by have := tot_mem hr; omega
  have z1 : w.heap.size + 1 ≤ (w.alloc (.cells #[.string s0, .int .i64 a0, .slice A0 n0 c0] 24)).heap.size := by simp
  have B1 : Below w.heap.size w (w.alloc (.cells #[.string s0, .int .i64 a0, .slice A0 n0 c0] 24)) := (Below.refl _ _).alloc (Nat.le_refl _) _
  have cP0_0_1 : (w.alloc (.cells #[.string s0, .int .i64 a0, .slice A0 n0 c0] 24)).cell? ⟨w.heap.size, 0, none⟩ = some (.string s0) := ((Blk.new w 24 #[.string s0, .int .i64 a0, .slice A0 n0 c0]).cell 0).trans rfl
  have cP0_1_1 : (w.alloc (.cells #[.string s0, .int .i64 a0, .slice A0 n0 c0] 24)).cell? ⟨w.heap.size, 1, none⟩ = some (.int .i64 a0) := ((Blk.new w 24 #[.string s0, .int .i64 a0, .slice A0 n0 c0]).cell 1).trans rfl
  have cP0_2_1 : (w.alloc (.cells #[.string s0, .int .i64 a0, .slice A0 n0 c0] 24)).cell? ⟨w.heap.size, 2, none⟩ = some (.slice A0 n0 c0) := ((Blk.new w 24 #[.string s0, .int .i64 a0, .slice A0 n0 c0]).cell 2).trans rfl
  have z2 : (w.alloc (.cells #[.string s0, .int .i64 a0, .slice A0 n0 c0] 24)).heap.size + 1 ≤ ((w.alloc (.cells #[.string s0, .int .i64 a0, .slice A0 n0 c0] 24)).alloc (.cells #[.string s1, .int .i64 a1, .slice A1 n1 c1] 24)).heap.size := by simp
  have B2 : Below w.heap.size w ((w.alloc (.cells #[.string s0, .int .i64 a0, .slice A0 n0 c0] 24)).alloc (.cells #[.string s1, .int .i64 a1, .slice A1 n1 c1] 24)) := B1.alloc B1.size _
  have cP0_0_2 : ((w.alloc (.cells #[.string s0, .int .i64 a0, .slice A0 n0 c0] 24)).alloc (.cells #[.string s1, .int .i64 a1, .slice A1 n1 c1] 24)).cell? ⟨w.heap.size, 0, none⟩ = some (.string s0) := (World.cell?_alloc_lt _ _ _ (block_lt_of_cell cP0_0_1)).trans cP0_0_1
  have cP0_1_2 : ((w.alloc (.cells #[.string s0, .int .i64 a0, .slice A0 n0 c0] 24)).alloc (.cells #[.string s1, .int .i64 a1, .slice A1 n1 c1] 24)).cell? ⟨w.heap.size, 1, none⟩ = some (.int .i64 a0) := (World.cell?_alloc_lt _ _ _ (block_lt_of_cell cP0_1_1)).trans cP0_1_1
  have cP0_2_2 : ((w.alloc (.cells #[.string s0, .int .i64 a0, .slice A0 n0 c0] 24)).alloc (.cells #[.string s1, .int .i64 a1, .slice A1 n1 c1] 24)).cell? ⟨w.heap.size, 2, none⟩ = some (.slice A0 n0 c0) := (World.cell?_alloc_lt _ _ _ (block_lt_of_cell cP0_2_1)).trans cP0_2_1
  clear cP0_0_1 cP0_1_1 cP0_2_1
  have cP1_0_2 : ((w.alloc (.cells #[.string s0, .int .i64 a0, .slice A0 n0 c0] 24)).alloc (.cells #[.string s1, .int .i64 a1, .slice A1 n1 c1] 24)).cell? ⟨w.heap.size + 1, 0, none⟩ = some (.string s1) := by simp
  have cP1_1_2 : ((w.alloc (.cells #[.string s0, .int .i64 a0, .slice A0 n0 c0] 24)).alloc (.cells #[.string s1, .int .i64 a1, .slice A1 n1 c1] 24)).cell? ⟨w.heap.size + 1, 1, none⟩ = some (.int .i64 a1) := by simp
  have cP1_2_2 : ((w.alloc (.cells #[.string s0, .int .i64 a0, .slice A0 n0 c0] 24)).alloc (.cells #[.string s1, .int .i64 a1, .slice A1 n1 c1] 24)).cell? ⟨w.heap.size + 1, 2, none⟩ = some (.slice A1 n1 c1) := by simp
  go_enter Try.func10, Try.ntmps10
  have sc0 := szFan_any s0 a0 A0 n0 c0 xs0 (1048576) ((w.alloc (.cells #[.string s0, .int .i64 a0, .slice A0 n0 c0] 24)).alloc (.cells #[.string s1, .int .i64 a1, .slice A1 n1 c1] 24)) ls0 ((hr0.below B2).more B2.size) (by omega) (by omega) (by omega) HM0.out
  rw [szI_y (l := 1048576) (s := ((s0.size : Int) + ((n0 : Int) + tot xs0))) (by omega)] at sc0
  go_wp2_with fail; ((with_reducible refine sc0.mono ?_); rintro e w3 ⟨rfl, hb3⟩)
  clear sc0
  have z3 : ((w.alloc (.cells #[.string s0, .int .i64 a0, .slice A0 n0 c0] 24)).alloc (.cells #[.string s1, .int .i64 a1, .slice A1 n1 c1] 24)).heap.size ≤ w3.heap.size := hb3.size
  have B3 : Below w.heap.size w w3 := B2.trans (hb3.mono B2.size)
  have cP0_0_3 : w3.cell? ⟨w.heap.size, 0, none⟩ = some (.string s0) := (hb3.cell (block_lt_of_cell cP0_0_2)).trans cP0_0_2
  have cP0_1_3 : w3.cell? ⟨w.heap.size, 1, none⟩ = some (.int .i64 a0) := (hb3.cell (block_lt_of_cell cP0_1_2)).trans cP0_1_2
  have cP0_2_3 : w3.cell? ⟨w.heap.size, 2, none⟩ = some (.slice A0 n0 c0) := (hb3.cell (block_lt_of_cell cP0_2_2)).trans cP0_2_2
  clear cP0_0_2 cP0_1_2 cP0_2_2
  have cP1_0_3 : w3.cell? ⟨w.heap.size + 1, 0, none⟩ = some (.string s1) := (hb3.cell (block_lt_of_cell cP1_0_2)).trans cP1_0_2
  have cP1_1_3 : w3.cell? ⟨w.heap.size + 1, 1, none⟩ = some (.int .i64 a1) := (hb3.cell (block_lt_of_cell cP1_1_2)).trans cP1_1_2
  have cP1_2_3 : w3.cell? ⟨w.heap.size + 1, 2, none⟩ = some (.slice A1 n1 c1) := (hb3.cell (block_lt_of_cell cP1_2_2)).trans cP1_2_2
  clear cP1_0_2 cP1_1_2 cP1_2_2
  have sc1 := szFan_any s1 a1 A1 n1 c1 xs1 (1048576 - ((s0.size : Int) + ((n0 : Int) + tot xs0))) w3 ls1 ((hr1.below B3).more B3.size) (by omega) (by omega) (by omega) HM1.out
  rw [szI_y (l := 1048576 - ((s0.size : Int) + ((n0 : Int) + tot xs0))) (s := ((s1.size : Int) + ((n1 : Int) + tot xs1))) (by omega)] at sc1
  go_wp2_with fail; ((with_reducible refine sc1.mono ?_); rintro e w4 ⟨rfl, hb4⟩)
  clear sc1
  have z4 : w3.heap.size ≤ w4.heap.size := hb4.size
  have B4 : Below w.heap.size w w4 := B3.trans (hb4.mono B3.size)
  have cP0_0_4 : w4.cell? ⟨w.heap.size, 0, none⟩ = some (.string s0) := (hb4.cell (block_lt_of_cell cP0_0_3)).trans cP0_0_3
  have cP0_1_4 : w4.cell? ⟨w.heap.size, 1, none⟩ = some (.int .i64 a0) := (hb4.cell (block_lt_of_cell cP0_1_3)).trans cP0_1_3
  have cP0_2_4 : w4.cell? ⟨w.heap.size, 2, none⟩ = some (.slice A0 n0 c0) := (hb4.cell (block_lt_of_cell cP0_2_3)).trans cP0_2_3
  clear cP0_0_3 cP0_1_3 cP0_2_3
  have cP1_0_4 : w4.cell? ⟨w.heap.size + 1, 0, none⟩ = some (.string s1) := (hb4.cell (block_lt_of_cell cP1_0_3)).trans cP1_0_3
  have cP1_1_4 : w4.cell? ⟨w.heap.size + 1, 1, none⟩ = some (.int .i64 a1) := (hb4.cell (block_lt_of_cell cP1_1_3)).trans cP1_1_3
  have cP1_2_4 : w4.cell? ⟨w.heap.size + 1, 2, none⟩ = some (.slice A1 n1 c1) := (hb4.cell (block_lt_of_cell cP1_2_3)).trans cP1_2_3
  clear cP1_0_3 cP1_1_3 cP1_2_3
  obtain ⟨kR, HkR⟩ : ∃ k : Int, Hid (parCode s0 a0 (dat xs0) s1 a1 (dat xs1) = k) := ⟨_, rfl⟩
  obtain ⟨sR, HsR⟩ : ∃ s : ByteArray, Hid (okS kR s0 = s) := ⟨_, rfl⟩
  obtain ⟨aR, HaR⟩ : ∃ a : Int, Hid (okA kR a0 = a) := ⟨_, rfl⟩
  obtain ⟨cR, HcR⟩ : ∃ c, Hid (okC kR (parC (dat xs0) (dat xs1)) = c) := ⟨_, rfl⟩
  go_upto_region 8 with (fail)
  have HTW0 : Hid (∀ W, Below w4.heap.size w4 W → Calls Try.prog 13 #[.agg #[.string s0, .int .i64 a0, .slice A0 n0 c0]] W fun e w' => ∃ A' rs', e = .returned (.agg #[.string s0, .int .i64 a0, .slice A' n0 n0]) ∧ RSS w' w'.heap.size A' n0 rs' ∧ Hid (dat rs' = dat xs0) ∧ Hid (∀ r ∈ rs', r.n ≤ 1048576) ∧ Below W.heap.size W w') := fun W hW =>
    (toFan_any s0 a0 A0 n0 c0 xs0 W ls0 ((hr0.below (B4.trans (hW.mono B4.size))).more (B4.trans (hW.mono B4.size)).size) hn0 hrn0.out).mono (by rintro e w' ⟨A', rs', he, ho, hD, hb⟩; exact ⟨A', rs', he, ho.reads, hD, bound_dat hr0 ho.reads hD hrn0.out, hb⟩)
  have HTW1 : Hid (∀ W, Below w4.heap.size w4 W → Calls Try.prog 13 #[.agg #[.string s1, .int .i64 a1, .slice A1 n1 c1]] W fun e w' => ∃ A' rs', e = .returned (.agg #[.string s1, .int .i64 a1, .slice A' n1 n1]) ∧ RSS w' w'.heap.size A' n1 rs' ∧ Hid (dat rs' = dat xs1) ∧ Hid (∀ r ∈ rs', r.n ≤ 1048576) ∧ Below W.heap.size W w') := fun W hW =>
    (toFan_any s1 a1 A1 n1 c1 xs1 W ls1 ((hr1.below (B4.trans (hW.mono B4.size))).more (B4.trans (hW.mono B4.size)).size) hn1 hrn1.out).mono (by rintro e w' ⟨A', rs', he, ho, hD, hb⟩; exact ⟨A', rs', he, ho.reads, hD, bound_dat hr1 ho.reads hD hrn1.out, hb⟩)
  have HSPW : Hid (∀ (W : World) (X0 : Option Addr) (rs0 : List Row) (X1 : Option Addr) (rs1 : List Row), RSS W W.heap.size X0 n0 rs0 → dat rs0 = dat xs0 → (∀ r ∈ rs0, r.n ≤ 1048576) → RSS W W.heap.size X1 n1 rs1 → dat rs1 = dat xs1 → (∀ r ∈ rs1, r.n ≤ 1048576) → Calls Try.prog 33 #[.agg #[.string s0, .int .i64 a0, .slice X0 n0 n0], .agg #[.string s1, .int .i64 a1, .slice X1 n1 n1]] W (fanRet W sR aR cR kR)) := fun W X0 rs0 X1 rs1 h0 d0 b0 h1 d1 b1 => by
    have cc := specFansInParallel_any s0 a0 X0 n0 n0 rs0 s1 a1 X1 n1 n1 rs1 W ls0 h0 hn0 b0 ls1 h1 hn1 b1
    rw [d0, d1, HkR.out, HsR.out, HaR.out, HcR.out] at cc
    exact cc
  have HSW : Hid (∀ W, Below w4.heap.size w4 W → W.cell? ⟨w.heap.size, 0, none⟩ = some (.string s0) ∧ W.cell? ⟨w.heap.size, 1, none⟩ = some (.int .i64 a0) ∧ W.cell? ⟨w.heap.size, 2, none⟩ = some (.slice A0 n0 c0) ∧ W.cell? ⟨w.heap.size + 1, 0, none⟩ = some (.string s1) ∧ W.cell? ⟨w.heap.size + 1, 1, none⟩ = some (.int .i64 a1) ∧ W.cell? ⟨w.heap.size + 1, 2, none⟩ = some (.slice A1 n1 c1)) := fun W hW => ⟨(hW.cell (block_lt_of_cell cP0_0_4)).trans cP0_0_4, (hW.cell (block_lt_of_cell cP0_1_4)).trans cP0_1_4, (hW.cell (block_lt_of_cell cP0_2_4)).trans cP0_2_4, (hW.cell (block_lt_of_cell cP1_0_4)).trans cP1_0_4, (hW.cell (block_lt_of_cell cP1_1_4)).trans cP1_1_4, (hW.cell (block_lt_of_cell cP1_2_4)).trans cP1_2_4⟩
  go_cut [6, 7] (fun s6 s7 wx => FanCut w4 sR aR cR kR s6 s7 wx)
  case first =>
    go_region_held3 (fun w' => w'.cell? ⟨w.heap.size, 0, none⟩ = some (.string s0) ∧ w'.cell? ⟨w.heap.size, 1, none⟩ = some (.int .i64 a0) ∧ w'.cell? ⟨w.heap.size, 2, none⟩ = some (.slice A0 n0 c0) ∧ w'.cell? ⟨w.heap.size + 1, 0, none⟩ = some (.string s1) ∧ w'.cell? ⟨w.heap.size + 1, 1, none⟩ = some (.int .i64 a1) ∧ w'.cell? ⟨w.heap.size + 1, 2, none⟩ = some (.slice A1 n1 c1))
      (first | go_keep | (with_reducible exact HSW.out _ B70) | (with_reducible exact HSW.out _ B60) | (with_reducible exact HSW.out _ B50) | (with_reducible exact HSW.out _ (B70.alloc B70.size _)) | (with_reducible exact HSW.out _ (B60.alloc B60.size _)) | (with_reducible exact HSW.out _ (B50.alloc B50.size _)) | (with_reducible exact HSW.out _ (((B70.setCell (p := ⟨w60.heap.size, 0, none⟩) (by first | exact Nat.le_refl _ | (simp; done) | (simp; omega) | omega) _).setCell (p := ⟨w60.heap.size, 1, none⟩) (by first | exact Nat.le_refl _ | (simp; done) | (simp; omega) | omega) _).setCell (p := ⟨w60.heap.size, 2, none⟩) (by first | exact Nat.le_refl _ | (simp; done) | (simp; omega) | omega) _)) | (with_reducible exact HSW.out _ (((B70.setCell (p := ⟨w50.heap.size, 0, none⟩) (by first | exact Nat.le_refl _ | (simp; done) | (simp; omega) | omega) _).setCell (p := ⟨w50.heap.size, 1, none⟩) (by first | exact Nat.le_refl _ | (simp; done) | (simp; omega) | omega) _).setCell (p := ⟨w50.heap.size, 2, none⟩) (by first | exact Nat.le_refl _ | (simp; done) | (simp; omega) | omega) _)) | (with_reducible exact HSW.out _ (((B70.setCell (p := ⟨w4.heap.size, 0, none⟩) (by first | exact Nat.le_refl _ | (simp; done) | (simp; omega) | omega) _).setCell (p := ⟨w4.heap.size, 1, none⟩) (by first | exact Nat.le_refl _ | (simp; done) | (simp; omega) | omega) _).setCell (p := ⟨w4.heap.size, 2, none⟩) (by first | exact Nat.le_refl _ | (simp; done) | (simp; omega) | omega) _)))
      ((first | (go_at_call_of 13 (Value.string s0); (with_reducible refine (HTW0.out _ (by repeat (first | exact Below.refl _ _ | assumption | (refine Below.drew ?_) | (refine below_drewN ?_ _) | (refine Below.alloc ?_ (by first | exact Nat.le_refl _ | (simp; done) | (simp; omega) | omega) _)))).mono ?_); rintro e w50 ⟨A50, rs50, rfl, R50, D50, M50, hb50⟩; have B50 : Below w4.heap.size w4 w50 := Below.trans (by repeat (first | exact Below.refl _ _ | assumption | (refine Below.drew ?_) | (refine below_drewN ?_ _) | (refine Below.alloc ?_ (by first | exact Nat.le_refl _ | (simp; done) | (simp; omega) | omega) _))) (hb50.mono (by first | exact Nat.le_refl _ | (simp; done) | (simp; omega) | omega)); have y50 := hb50.size; (try simp at y50)) | (go_at_call_of 13 (Value.string s1); (with_reducible refine (HTW1.out _ (by repeat (first | exact Below.refl _ _ | assumption | (refine Below.drew ?_) | (refine below_drewN ?_ _) | (refine Below.alloc ?_ (by first | exact Nat.le_refl _ | (simp; done) | (simp; omega) | omega) _)))).mono ?_); rintro e w60 ⟨A60, rs60, rfl, R60, D60, M60, hb60⟩; have B60 : Below w4.heap.size w4 w60 := Below.trans (by repeat (first | exact Below.refl _ _ | assumption | (refine Below.drew ?_) | (refine below_drewN ?_ _) | (refine Below.alloc ?_ (by first | exact Nat.le_refl _ | (simp; done) | (simp; omega) | omega) _))) (hb60.mono (by first | exact Nat.le_refl _ | (simp; done) | (simp; omega) | omega)); have y60 := hb60.size; (try simp at y60); have R56 : RSS w60 w60.heap.size A50 n0 rs50 := R50.to (Below.trans (by repeat (first | exact Below.refl _ _ | (refine Below.drew ?_) | (refine below_drewN ?_ _) | (refine Below.alloc ?_ (by first | exact Nat.le_refl _ | (simp; done) | (simp; omega) | omega) _))) (hb60.mono (by first | exact Nat.le_refl _ | (simp; done) | (simp; omega) | omega)))) | (go_at_call 33; (with_reducible refine (HSPW.out _ _ rs50 _ rs60 (R56.to (by repeat (first | exact Below.refl _ _ | (refine Below.drew ?_) | (refine below_drewN ?_ _) | (refine Below.alloc ?_ (by first | exact Nat.le_refl _ | (simp; done) | (simp; omega) | omega) _)))) D50.out M50.out (R60.to (by repeat (first | exact Below.refl _ _ | (refine Below.drew ?_) | (refine below_drewN ?_ _) | (refine Below.alloc ?_ (by first | exact Nat.le_refl _ | (simp; done) | (simp; omega) | omega) _)))) D60.out M60.out).mono ?_); rintro e w70 ⟨A70, n70, c70, rs70, rfl, o70, D70, hn70, M70, T70, hb70⟩; have B70 : Below w4.heap.size w4 w70 := Below.trans (by repeat (first | exact Below.refl _ _ | assumption | (refine Below.drew ?_) | (refine below_drewN ?_ _) | (refine Below.alloc ?_ (by first | exact Nat.le_refl _ | (simp; done) | (simp; omega) | omega) _))) (hb70.mono (by first | exact Nat.le_refl _ | (simp; done) | (simp; omega) | omega)); have y70 := hb70.size; (try simp at y70); have D70 := Lib.hid D70; have M70 := Lib.hid M70; (first | (have Kb : Blk w70 w60.heap.size 26 #[_, _, _] := ((Blk.new _ _ _).below hb70 (by first | exact Nat.le_refl _ | (simp; done) | (simp; omega) | omega)); have q0 := Kb.cell 0; have q1 := Kb.cell 1; have q2 := Kb.cell 2; have f0 := Kb.frozen 0; have f1 := Kb.frozen 1; have f2 := Kb.frozen 2; have Kb := Lib.hid Kb) | (have Kb : Blk w70 w50.heap.size 26 #[_, _, _] := (((Blk.new _ _ _).below hb60 (by first | exact Nat.le_refl _ | (simp; done) | (simp; omega) | omega)).below hb70 (by first | exact Nat.le_refl _ | (simp; done) | (simp; omega) | omega)); have q0 := Kb.cell 0; have q1 := Kb.cell 1; have q2 := Kb.cell 2; have f0 := Kb.frozen 0; have f1 := Kb.frozen 1; have f2 := Kb.frozen 2; have Kb := Lib.hid Kb) | (have Kb : Blk w70 w4.heap.size 26 #[_, _, _] := ((((Blk.new _ _ _).below hb50 (by first | exact Nat.le_refl _ | (simp; done) | (simp; omega) | omega)).below hb60 (by first | exact Nat.le_refl _ | (simp; done) | (simp; omega) | omega)).below hb70 (by first | exact Nat.le_refl _ | (simp; done) | (simp; omega) | omega)); have q0 := Kb.cell 0; have q1 := Kb.cell 1; have q2 := Kb.cell 2; have f0 := Kb.frozen 0; have f1 := Kb.frozen 1; have f2 := Kb.frozen 2; have Kb := Lib.hid Kb) | (have Kb : Blk w70 w4.heap.size 26 #[_, _, _] := ((((Blk.new _ _ _).drew.below hb50 (by first | exact Nat.le_refl _ | (simp; done) | (simp; omega) | omega)).below hb60 (by first | exact Nat.le_refl _ | (simp; done) | (simp; omega) | omega)).below hb70 (by first | exact Nat.le_refl _ | (simp; done) | (simp; omega) | omega)); have q0 := Kb.cell 0; have q1 := Kb.cell 1; have q2 := Kb.cell 2; have f0 := Kb.frozen 0; have f1 := Kb.frozen 1; have f2 := Kb.frozen 2; have Kb := Lib.hid Kb) | skip))))
    all_goals (go_wp2_with fail; go_meet; first | exact fanCut_new o70 (by first | exact Nat.le_refl _ | (simp; done) | (simp; omega) | omega) D70.out hn70 M70.out T70 B70 | exact fanCut_set Kb.out (by first | exact Nat.le_refl _ | (simp; done) | (simp; omega) | omega) (by first | exact Nat.le_refl _ | (simp; done) | (simp; omega) | omega) o70 D70.out hn70 M70.out T70 B70)
  obtain ⟨gW, AW, nW, cW, rsW, rfl, rfl, hgW, cW_0_5, cW_1_5, cW_2_5, oW, DW, hnW, MW', TW, hb5⟩ := hcut
  obtain ⟨w5, rfl⟩ : ∃ q : World, q = wc := ⟨_, rfl⟩
  clear HTW0 HTW1 HSPW HSW
  have z5 : w4.heap.size ≤ w5.heap.size := hb5.size
  have B5 : Below w.heap.size w w5 := B4.trans (hb5.mono B4.size)
  have cP0_0_5 : w5.cell? ⟨w.heap.size, 0, none⟩ = some (.string s0) := (hb5.cell (block_lt_of_cell cP0_0_4)).trans cP0_0_4
  have cP0_1_5 : w5.cell? ⟨w.heap.size, 1, none⟩ = some (.int .i64 a0) := (hb5.cell (block_lt_of_cell cP0_1_4)).trans cP0_1_4
  have cP0_2_5 : w5.cell? ⟨w.heap.size, 2, none⟩ = some (.slice A0 n0 c0) := (hb5.cell (block_lt_of_cell cP0_2_4)).trans cP0_2_4
  clear cP0_0_4 cP0_1_4 cP0_2_4
  have cP1_0_5 : w5.cell? ⟨w.heap.size + 1, 0, none⟩ = some (.string s1) := (hb5.cell (block_lt_of_cell cP1_0_4)).trans cP1_0_4
  have cP1_1_5 : w5.cell? ⟨w.heap.size + 1, 1, none⟩ = some (.int .i64 a1) := (hb5.cell (block_lt_of_cell cP1_1_4)).trans cP1_1_4
  have cP1_2_5 : w5.cell? ⟨w.heap.size + 1, 2, none⟩ = some (.slice A1 n1 c1) := (hb5.cell (block_lt_of_cell cP1_2_4)).trans cP1_2_4
  clear cP1_0_4 cP1_1_4 cP1_2_4
  have FW_5 := oss_mk oW
  have MW := Lib.hid MW'
  clear MW'
  have TNW := tot_nonneg rsW
  have HDW := Lib.hid DW
  clear DW
  have SW_5 := Same.refl w4.heap.size w5.heap.size w5
  go_wp2_with fail; ((with_reducible refine (toFan_any s0 a0 A0 n0 c0 xs0 _ ls0 ((hr0.below B5).more B5.size) hn0 hrn0.out).mono ?_); rintro e w6 ⟨AX0, rsX0, rfl, oX0, DX0, hb6⟩)
  have z6 : w5.heap.size ≤ w6.heap.size := hb6.size
  have B6 : Below w.heap.size w w6 := B5.trans (hb6.mono B5.size)
  have cP0_0_6 : w6.cell? ⟨w.heap.size, 0, none⟩ = some (.string s0) := (hb6.cell (block_lt_of_cell cP0_0_5)).trans cP0_0_5
  have cP0_1_6 : w6.cell? ⟨w.heap.size, 1, none⟩ = some (.int .i64 a0) := (hb6.cell (block_lt_of_cell cP0_1_5)).trans cP0_1_5
  have cP0_2_6 : w6.cell? ⟨w.heap.size, 2, none⟩ = some (.slice A0 n0 c0) := (hb6.cell (block_lt_of_cell cP0_2_5)).trans cP0_2_5
  clear cP0_0_5 cP0_1_5 cP0_2_5
  have cP1_0_6 : w6.cell? ⟨w.heap.size + 1, 0, none⟩ = some (.string s1) := (hb6.cell (block_lt_of_cell cP1_0_5)).trans cP1_0_5
  have cP1_1_6 : w6.cell? ⟨w.heap.size + 1, 1, none⟩ = some (.int .i64 a1) := (hb6.cell (block_lt_of_cell cP1_1_5)).trans cP1_1_5
  have cP1_2_6 : w6.cell? ⟨w.heap.size + 1, 2, none⟩ = some (.slice A1 n1 c1) := (hb6.cell (block_lt_of_cell cP1_2_5)).trans cP1_2_5
  clear cP1_0_5 cP1_1_5 cP1_2_5
  have cW_0_6 : w6.cell? ⟨gW, 0, none⟩ = some (Value.string sR) := (hb6.cell (block_lt_of_cell cW_0_5)).trans cW_0_5
  have cW_1_6 : w6.cell? ⟨gW, 1, none⟩ = some (.int .i64 aR) := (hb6.cell (block_lt_of_cell cW_1_5)).trans cW_1_5
  have cW_2_6 : w6.cell? ⟨gW, 2, none⟩ = some (.slice AW nW cW) := (hb6.cell (block_lt_of_cell cW_2_5)).trans cW_2_5
  clear cW_0_5 cW_1_5 cW_2_5
  have SW_6 := SW_5.below hb6 (by omega)
  have FX0_6 := oss_mk oX0
  have MX0 := Lib.hid (bound_dat hr0 FX0_6.reads DX0 hrn0.out)
  have TX0 : tot rsX0 ≤ 1048576 := by rw [tot_eq hr0 FX0_6.reads DX0]; omega
  have TNX0 := tot_nonneg rsX0
  have HDX0 := Lib.hid DX0
  clear DX0
  have SX0_6 := Same.refl w5.heap.size w6.heap.size w6
  -- its box
  have z7 : w6.heap.size + 1 ≤ (w6.alloc (.cells #[.string s0, .int .i64 a0, .slice AX0 n0 n0] 26)).heap.size := by simp
  have B7 : Below w.heap.size w (w6.alloc (.cells #[.string s0, .int .i64 a0, .slice AX0 n0 n0] 26)) := B6.alloc B6.size _
  have cP0_0_7 : (w6.alloc (.cells #[.string s0, .int .i64 a0, .slice AX0 n0 n0] 26)).cell? ⟨w.heap.size, 0, none⟩ = some (.string s0) := (World.cell?_alloc_lt _ _ _ (block_lt_of_cell cP0_0_6)).trans cP0_0_6
  have cP0_1_7 : (w6.alloc (.cells #[.string s0, .int .i64 a0, .slice AX0 n0 n0] 26)).cell? ⟨w.heap.size, 1, none⟩ = some (.int .i64 a0) := (World.cell?_alloc_lt _ _ _ (block_lt_of_cell cP0_1_6)).trans cP0_1_6
  have cP0_2_7 : (w6.alloc (.cells #[.string s0, .int .i64 a0, .slice AX0 n0 n0] 26)).cell? ⟨w.heap.size, 2, none⟩ = some (.slice A0 n0 c0) := (World.cell?_alloc_lt _ _ _ (block_lt_of_cell cP0_2_6)).trans cP0_2_6
  clear cP0_0_6 cP0_1_6 cP0_2_6
  have cP1_0_7 : (w6.alloc (.cells #[.string s0, .int .i64 a0, .slice AX0 n0 n0] 26)).cell? ⟨w.heap.size + 1, 0, none⟩ = some (.string s1) := (World.cell?_alloc_lt _ _ _ (block_lt_of_cell cP1_0_6)).trans cP1_0_6
  have cP1_1_7 : (w6.alloc (.cells #[.string s0, .int .i64 a0, .slice AX0 n0 n0] 26)).cell? ⟨w.heap.size + 1, 1, none⟩ = some (.int .i64 a1) := (World.cell?_alloc_lt _ _ _ (block_lt_of_cell cP1_1_6)).trans cP1_1_6
  have cP1_2_7 : (w6.alloc (.cells #[.string s0, .int .i64 a0, .slice AX0 n0 n0] 26)).cell? ⟨w.heap.size + 1, 2, none⟩ = some (.slice A1 n1 c1) := (World.cell?_alloc_lt _ _ _ (block_lt_of_cell cP1_2_6)).trans cP1_2_6
  clear cP1_0_6 cP1_1_6 cP1_2_6
  have cW_0_7 : (w6.alloc (.cells #[.string s0, .int .i64 a0, .slice AX0 n0 n0] 26)).cell? ⟨gW, 0, none⟩ = some (Value.string sR) := (World.cell?_alloc_lt _ _ _ (block_lt_of_cell cW_0_6)).trans cW_0_6
  have cW_1_7 : (w6.alloc (.cells #[.string s0, .int .i64 a0, .slice AX0 n0 n0] 26)).cell? ⟨gW, 1, none⟩ = some (.int .i64 aR) := (World.cell?_alloc_lt _ _ _ (block_lt_of_cell cW_1_6)).trans cW_1_6
  have cW_2_7 : (w6.alloc (.cells #[.string s0, .int .i64 a0, .slice AX0 n0 n0] 26)).cell? ⟨gW, 2, none⟩ = some (.slice AW nW cW) := (World.cell?_alloc_lt _ _ _ (block_lt_of_cell cW_2_6)).trans cW_2_6
  clear cW_0_6 cW_1_6 cW_2_6
  have cX0_0_7 : (w6.alloc (.cells #[.string s0, .int .i64 a0, .slice AX0 n0 n0] 26)).cell? ⟨w6.heap.size, 0, none⟩ = some (.string s0) := ((Blk.new w6 26 #[.string s0, .int .i64 a0, .slice AX0 n0 n0]).cell 0).trans rfl
  have cX0_1_7 : (w6.alloc (.cells #[.string s0, .int .i64 a0, .slice AX0 n0 n0] 26)).cell? ⟨w6.heap.size, 1, none⟩ = some (.int .i64 a0) := ((Blk.new w6 26 #[.string s0, .int .i64 a0, .slice AX0 n0 n0]).cell 1).trans rfl
  have cX0_2_7 : (w6.alloc (.cells #[.string s0, .int .i64 a0, .slice AX0 n0 n0] 26)).cell? ⟨w6.heap.size, 2, none⟩ = some (.slice AX0 n0 n0) := ((Blk.new w6 26 #[.string s0, .int .i64 a0, .slice AX0 n0 n0]).cell 2).trans rfl
  have SW_7 := SW_6.below (show Below w6.heap.size w6 (w6.alloc (.cells #[.string s0, .int .i64 a0, .slice AX0 n0 n0] 26)) from (Below.refl _ _).alloc (Nat.le_refl _) _) (by omega)
  have SX0_7 := SX0_6.below (show Below w6.heap.size w6 (w6.alloc (.cells #[.string s0, .int .i64 a0, .slice AX0 n0 n0] 26)) from (Below.refl _ _).alloc (Nat.le_refl _) _) (by omega)
  go_wp2_with fail; ((with_reducible refine (toFan_any s1 a1 A1 n1 c1 xs1 _ ls1 ((hr1.below B7).more B7.size) hn1 hrn1.out).mono ?_); rintro e w8 ⟨AX1, rsX1, rfl, oX1, DX1, hb8⟩)
  have z8 : (w6.alloc (.cells #[.string s0, .int .i64 a0, .slice AX0 n0 n0] 26)).heap.size ≤ w8.heap.size := hb8.size
  have B8 : Below w.heap.size w w8 := B7.trans (hb8.mono B7.size)
  have cP0_0_8 : w8.cell? ⟨w.heap.size, 0, none⟩ = some (.string s0) := (hb8.cell (block_lt_of_cell cP0_0_7)).trans cP0_0_7
  have cP0_1_8 : w8.cell? ⟨w.heap.size, 1, none⟩ = some (.int .i64 a0) := (hb8.cell (block_lt_of_cell cP0_1_7)).trans cP0_1_7
  have cP0_2_8 : w8.cell? ⟨w.heap.size, 2, none⟩ = some (.slice A0 n0 c0) := (hb8.cell (block_lt_of_cell cP0_2_7)).trans cP0_2_7
  clear cP0_0_7 cP0_1_7 cP0_2_7
  have cP1_0_8 : w8.cell? ⟨w.heap.size + 1, 0, none⟩ = some (.string s1) := (hb8.cell (block_lt_of_cell cP1_0_7)).trans cP1_0_7
  have cP1_1_8 : w8.cell? ⟨w.heap.size + 1, 1, none⟩ = some (.int .i64 a1) := (hb8.cell (block_lt_of_cell cP1_1_7)).trans cP1_1_7
  have cP1_2_8 : w8.cell? ⟨w.heap.size + 1, 2, none⟩ = some (.slice A1 n1 c1) := (hb8.cell (block_lt_of_cell cP1_2_7)).trans cP1_2_7
  clear cP1_0_7 cP1_1_7 cP1_2_7
  have cW_0_8 : w8.cell? ⟨gW, 0, none⟩ = some (Value.string sR) := (hb8.cell (block_lt_of_cell cW_0_7)).trans cW_0_7
  have cW_1_8 : w8.cell? ⟨gW, 1, none⟩ = some (.int .i64 aR) := (hb8.cell (block_lt_of_cell cW_1_7)).trans cW_1_7
  have cW_2_8 : w8.cell? ⟨gW, 2, none⟩ = some (.slice AW nW cW) := (hb8.cell (block_lt_of_cell cW_2_7)).trans cW_2_7
  clear cW_0_7 cW_1_7 cW_2_7
  have cX0_0_8 : w8.cell? ⟨w6.heap.size, 0, none⟩ = some (.string s0) := (hb8.cell (block_lt_of_cell cX0_0_7)).trans cX0_0_7
  have cX0_1_8 : w8.cell? ⟨w6.heap.size, 1, none⟩ = some (.int .i64 a0) := (hb8.cell (block_lt_of_cell cX0_1_7)).trans cX0_1_7
  have cX0_2_8 : w8.cell? ⟨w6.heap.size, 2, none⟩ = some (.slice AX0 n0 n0) := (hb8.cell (block_lt_of_cell cX0_2_7)).trans cX0_2_7
  clear cX0_0_7 cX0_1_7 cX0_2_7
  have SW_8 := SW_7.below hb8 (by omega)
  have SX0_8 := SX0_7.below hb8 (by omega)
  rw [show (w6.alloc (.cells #[.string s0, .int .i64 a0, .slice AX0 n0 n0] 26)).heap.size = (w6.heap.size + 1) by simp] at oX1
  have FX1_8 := oss_mk oX1
  have MX1 := Lib.hid (bound_dat hr1 FX1_8.reads DX1 hrn1.out)
  have TX1 : tot rsX1 ≤ 1048576 := by rw [tot_eq hr1 FX1_8.reads DX1]; omega
  have TNX1 := tot_nonneg rsX1
  have HDX1 := Lib.hid DX1
  clear DX1
  have SX1_8 := Same.refl (w6.heap.size + 1) w8.heap.size w8
  -- its box
  have z9 : w8.heap.size + 1 ≤ (w8.alloc (.cells #[.string s1, .int .i64 a1, .slice AX1 n1 n1] 26)).heap.size := by simp
  have B9 : Below w.heap.size w (w8.alloc (.cells #[.string s1, .int .i64 a1, .slice AX1 n1 n1] 26)) := B8.alloc B8.size _
  have cP0_0_9 : (w8.alloc (.cells #[.string s1, .int .i64 a1, .slice AX1 n1 n1] 26)).cell? ⟨w.heap.size, 0, none⟩ = some (.string s0) := (World.cell?_alloc_lt _ _ _ (block_lt_of_cell cP0_0_8)).trans cP0_0_8
  have cP0_1_9 : (w8.alloc (.cells #[.string s1, .int .i64 a1, .slice AX1 n1 n1] 26)).cell? ⟨w.heap.size, 1, none⟩ = some (.int .i64 a0) := (World.cell?_alloc_lt _ _ _ (block_lt_of_cell cP0_1_8)).trans cP0_1_8
  have cP0_2_9 : (w8.alloc (.cells #[.string s1, .int .i64 a1, .slice AX1 n1 n1] 26)).cell? ⟨w.heap.size, 2, none⟩ = some (.slice A0 n0 c0) := (World.cell?_alloc_lt _ _ _ (block_lt_of_cell cP0_2_8)).trans cP0_2_8
  clear cP0_0_8 cP0_1_8 cP0_2_8
  have cP1_0_9 : (w8.alloc (.cells #[.string s1, .int .i64 a1, .slice AX1 n1 n1] 26)).cell? ⟨w.heap.size + 1, 0, none⟩ = some (.string s1) := (World.cell?_alloc_lt _ _ _ (block_lt_of_cell cP1_0_8)).trans cP1_0_8
  have cP1_1_9 : (w8.alloc (.cells #[.string s1, .int .i64 a1, .slice AX1 n1 n1] 26)).cell? ⟨w.heap.size + 1, 1, none⟩ = some (.int .i64 a1) := (World.cell?_alloc_lt _ _ _ (block_lt_of_cell cP1_1_8)).trans cP1_1_8
  have cP1_2_9 : (w8.alloc (.cells #[.string s1, .int .i64 a1, .slice AX1 n1 n1] 26)).cell? ⟨w.heap.size + 1, 2, none⟩ = some (.slice A1 n1 c1) := (World.cell?_alloc_lt _ _ _ (block_lt_of_cell cP1_2_8)).trans cP1_2_8
  clear cP1_0_8 cP1_1_8 cP1_2_8
  have cW_0_9 : (w8.alloc (.cells #[.string s1, .int .i64 a1, .slice AX1 n1 n1] 26)).cell? ⟨gW, 0, none⟩ = some (Value.string sR) := (World.cell?_alloc_lt _ _ _ (block_lt_of_cell cW_0_8)).trans cW_0_8
  have cW_1_9 : (w8.alloc (.cells #[.string s1, .int .i64 a1, .slice AX1 n1 n1] 26)).cell? ⟨gW, 1, none⟩ = some (.int .i64 aR) := (World.cell?_alloc_lt _ _ _ (block_lt_of_cell cW_1_8)).trans cW_1_8
  have cW_2_9 : (w8.alloc (.cells #[.string s1, .int .i64 a1, .slice AX1 n1 n1] 26)).cell? ⟨gW, 2, none⟩ = some (.slice AW nW cW) := (World.cell?_alloc_lt _ _ _ (block_lt_of_cell cW_2_8)).trans cW_2_8
  clear cW_0_8 cW_1_8 cW_2_8
  have cX0_0_9 : (w8.alloc (.cells #[.string s1, .int .i64 a1, .slice AX1 n1 n1] 26)).cell? ⟨w6.heap.size, 0, none⟩ = some (.string s0) := (World.cell?_alloc_lt _ _ _ (block_lt_of_cell cX0_0_8)).trans cX0_0_8
  have cX0_1_9 : (w8.alloc (.cells #[.string s1, .int .i64 a1, .slice AX1 n1 n1] 26)).cell? ⟨w6.heap.size, 1, none⟩ = some (.int .i64 a0) := (World.cell?_alloc_lt _ _ _ (block_lt_of_cell cX0_1_8)).trans cX0_1_8
  have cX0_2_9 : (w8.alloc (.cells #[.string s1, .int .i64 a1, .slice AX1 n1 n1] 26)).cell? ⟨w6.heap.size, 2, none⟩ = some (.slice AX0 n0 n0) := (World.cell?_alloc_lt _ _ _ (block_lt_of_cell cX0_2_8)).trans cX0_2_8
  clear cX0_0_8 cX0_1_8 cX0_2_8
  have cX1_0_9 : (w8.alloc (.cells #[.string s1, .int .i64 a1, .slice AX1 n1 n1] 26)).cell? ⟨w8.heap.size, 0, none⟩ = some (.string s1) := ((Blk.new w8 26 #[.string s1, .int .i64 a1, .slice AX1 n1 n1]).cell 0).trans rfl
  have cX1_1_9 : (w8.alloc (.cells #[.string s1, .int .i64 a1, .slice AX1 n1 n1] 26)).cell? ⟨w8.heap.size, 1, none⟩ = some (.int .i64 a1) := ((Blk.new w8 26 #[.string s1, .int .i64 a1, .slice AX1 n1 n1]).cell 1).trans rfl
  have cX1_2_9 : (w8.alloc (.cells #[.string s1, .int .i64 a1, .slice AX1 n1 n1] 26)).cell? ⟨w8.heap.size, 2, none⟩ = some (.slice AX1 n1 n1) := ((Blk.new w8 26 #[.string s1, .int .i64 a1, .slice AX1 n1 n1]).cell 2).trans rfl
  have SW_9 := SW_8.below (show Below w8.heap.size w8 (w8.alloc (.cells #[.string s1, .int .i64 a1, .slice AX1 n1 n1] 26)) from (Below.refl _ _).alloc (Nat.le_refl _) _) (by omega)
  have SX0_9 := SX0_8.below (show Below w8.heap.size w8 (w8.alloc (.cells #[.string s1, .int .i64 a1, .slice AX1 n1 n1] 26)) from (Below.refl _ _).alloc (Nat.le_refl _) _) (by omega)
  have SX1_9 := SX1_8.below (show Below w8.heap.size w8 (w8.alloc (.cells #[.string s1, .int .i64 a1, .slice AX1 n1 n1] 26)) from (Below.refl _ _).alloc (Nat.le_refl _) _) (by omega)
  have cc10 := implFansInParallel_any s0 a0 AX0 n0 n0 rsX0 s1 a1 AX1 n1 n1 rsX1 (w8.alloc (.cells #[.string s1, .int .i64 a1, .slice AX1 n1 n1] 26)) ls0 (FX0_6.same SX0_9).reads hn0 MX0.out ls1 (FX1_8.same SX1_9).reads hn1 MX1.out
  rw [HDX0.out, HDX1.out, HkR.out, HsR.out, HaR.out, HcR.out] at cc10
  go_wp2_with fail; ((with_reducible refine (cc10).mono ?_); rintro e w10 ⟨AG, nG, cG, rsG, rfl, oG, DG, hnG, MG', TG, hb10⟩)
  have z10 : (w8.alloc (.cells #[.string s1, .int .i64 a1, .slice AX1 n1 n1] 26)).heap.size ≤ w10.heap.size := hb10.size
  have B10 : Below w.heap.size w w10 := B9.trans (hb10.mono B9.size)
  have cP0_0_10 : w10.cell? ⟨w.heap.size, 0, none⟩ = some (.string s0) := (hb10.cell (block_lt_of_cell cP0_0_9)).trans cP0_0_9
  have cP0_1_10 : w10.cell? ⟨w.heap.size, 1, none⟩ = some (.int .i64 a0) := (hb10.cell (block_lt_of_cell cP0_1_9)).trans cP0_1_9
  have cP0_2_10 : w10.cell? ⟨w.heap.size, 2, none⟩ = some (.slice A0 n0 c0) := (hb10.cell (block_lt_of_cell cP0_2_9)).trans cP0_2_9
  clear cP0_0_9 cP0_1_9 cP0_2_9
  have cP1_0_10 : w10.cell? ⟨w.heap.size + 1, 0, none⟩ = some (.string s1) := (hb10.cell (block_lt_of_cell cP1_0_9)).trans cP1_0_9
  have cP1_1_10 : w10.cell? ⟨w.heap.size + 1, 1, none⟩ = some (.int .i64 a1) := (hb10.cell (block_lt_of_cell cP1_1_9)).trans cP1_1_9
  have cP1_2_10 : w10.cell? ⟨w.heap.size + 1, 2, none⟩ = some (.slice A1 n1 c1) := (hb10.cell (block_lt_of_cell cP1_2_9)).trans cP1_2_9
  clear cP1_0_9 cP1_1_9 cP1_2_9
  have cW_0_10 : w10.cell? ⟨gW, 0, none⟩ = some (Value.string sR) := (hb10.cell (block_lt_of_cell cW_0_9)).trans cW_0_9
  have cW_1_10 : w10.cell? ⟨gW, 1, none⟩ = some (.int .i64 aR) := (hb10.cell (block_lt_of_cell cW_1_9)).trans cW_1_9
  have cW_2_10 : w10.cell? ⟨gW, 2, none⟩ = some (.slice AW nW cW) := (hb10.cell (block_lt_of_cell cW_2_9)).trans cW_2_9
  clear cW_0_9 cW_1_9 cW_2_9
  have cX0_0_10 : w10.cell? ⟨w6.heap.size, 0, none⟩ = some (.string s0) := (hb10.cell (block_lt_of_cell cX0_0_9)).trans cX0_0_9
  have cX0_1_10 : w10.cell? ⟨w6.heap.size, 1, none⟩ = some (.int .i64 a0) := (hb10.cell (block_lt_of_cell cX0_1_9)).trans cX0_1_9
  have cX0_2_10 : w10.cell? ⟨w6.heap.size, 2, none⟩ = some (.slice AX0 n0 n0) := (hb10.cell (block_lt_of_cell cX0_2_9)).trans cX0_2_9
  clear cX0_0_9 cX0_1_9 cX0_2_9
  have cX1_0_10 : w10.cell? ⟨w8.heap.size, 0, none⟩ = some (.string s1) := (hb10.cell (block_lt_of_cell cX1_0_9)).trans cX1_0_9
  have cX1_1_10 : w10.cell? ⟨w8.heap.size, 1, none⟩ = some (.int .i64 a1) := (hb10.cell (block_lt_of_cell cX1_1_9)).trans cX1_1_9
  have cX1_2_10 : w10.cell? ⟨w8.heap.size, 2, none⟩ = some (.slice AX1 n1 n1) := (hb10.cell (block_lt_of_cell cX1_2_9)).trans cX1_2_9
  clear cX1_0_9 cX1_1_9 cX1_2_9
  have SW_10 := SW_9.below hb10 (by omega)
  have SX0_10 := SX0_9.below hb10 (by omega)
  have SX1_10 := SX1_9.below hb10 (by omega)
  rw [show (w8.alloc (.cells #[.string s1, .int .i64 a1, .slice AX1 n1 n1] 26)).heap.size = (w8.heap.size + 1) by simp] at oG
  have FG_10 := oss_mk oG
  have MG := Lib.hid MG'
  clear MG'
  have TNG := tot_nonneg rsG
  have HDG := Lib.hid DG
  clear DG
  have SG_10 := Same.refl (w8.heap.size + 1) w10.heap.size w10
  have z11 : w10.heap.size + 1 ≤ (w10.alloc (.cells #[Value.string sR, .int .i64 aR, .slice AG nG cG] 26)).heap.size := by simp
  have B11 : Below w.heap.size w (w10.alloc (.cells #[Value.string sR, .int .i64 aR, .slice AG nG cG] 26)) := B10.alloc B10.size _
  have cP0_0_11 : (w10.alloc (.cells #[Value.string sR, .int .i64 aR, .slice AG nG cG] 26)).cell? ⟨w.heap.size, 0, none⟩ = some (.string s0) := (World.cell?_alloc_lt _ _ _ (block_lt_of_cell cP0_0_10)).trans cP0_0_10
  have cP0_1_11 : (w10.alloc (.cells #[Value.string sR, .int .i64 aR, .slice AG nG cG] 26)).cell? ⟨w.heap.size, 1, none⟩ = some (.int .i64 a0) := (World.cell?_alloc_lt _ _ _ (block_lt_of_cell cP0_1_10)).trans cP0_1_10
  have cP0_2_11 : (w10.alloc (.cells #[Value.string sR, .int .i64 aR, .slice AG nG cG] 26)).cell? ⟨w.heap.size, 2, none⟩ = some (.slice A0 n0 c0) := (World.cell?_alloc_lt _ _ _ (block_lt_of_cell cP0_2_10)).trans cP0_2_10
  clear cP0_0_10 cP0_1_10 cP0_2_10
  have cP1_0_11 : (w10.alloc (.cells #[Value.string sR, .int .i64 aR, .slice AG nG cG] 26)).cell? ⟨w.heap.size + 1, 0, none⟩ = some (.string s1) := (World.cell?_alloc_lt _ _ _ (block_lt_of_cell cP1_0_10)).trans cP1_0_10
  have cP1_1_11 : (w10.alloc (.cells #[Value.string sR, .int .i64 aR, .slice AG nG cG] 26)).cell? ⟨w.heap.size + 1, 1, none⟩ = some (.int .i64 a1) := (World.cell?_alloc_lt _ _ _ (block_lt_of_cell cP1_1_10)).trans cP1_1_10
  have cP1_2_11 : (w10.alloc (.cells #[Value.string sR, .int .i64 aR, .slice AG nG cG] 26)).cell? ⟨w.heap.size + 1, 2, none⟩ = some (.slice A1 n1 c1) := (World.cell?_alloc_lt _ _ _ (block_lt_of_cell cP1_2_10)).trans cP1_2_10
  clear cP1_0_10 cP1_1_10 cP1_2_10
  have cW_0_11 : (w10.alloc (.cells #[Value.string sR, .int .i64 aR, .slice AG nG cG] 26)).cell? ⟨gW, 0, none⟩ = some (Value.string sR) := (World.cell?_alloc_lt _ _ _ (block_lt_of_cell cW_0_10)).trans cW_0_10
  have cW_1_11 : (w10.alloc (.cells #[Value.string sR, .int .i64 aR, .slice AG nG cG] 26)).cell? ⟨gW, 1, none⟩ = some (.int .i64 aR) := (World.cell?_alloc_lt _ _ _ (block_lt_of_cell cW_1_10)).trans cW_1_10
  have cW_2_11 : (w10.alloc (.cells #[Value.string sR, .int .i64 aR, .slice AG nG cG] 26)).cell? ⟨gW, 2, none⟩ = some (.slice AW nW cW) := (World.cell?_alloc_lt _ _ _ (block_lt_of_cell cW_2_10)).trans cW_2_10
  clear cW_0_10 cW_1_10 cW_2_10
  have cX0_0_11 : (w10.alloc (.cells #[Value.string sR, .int .i64 aR, .slice AG nG cG] 26)).cell? ⟨w6.heap.size, 0, none⟩ = some (.string s0) := (World.cell?_alloc_lt _ _ _ (block_lt_of_cell cX0_0_10)).trans cX0_0_10
  have cX0_1_11 : (w10.alloc (.cells #[Value.string sR, .int .i64 aR, .slice AG nG cG] 26)).cell? ⟨w6.heap.size, 1, none⟩ = some (.int .i64 a0) := (World.cell?_alloc_lt _ _ _ (block_lt_of_cell cX0_1_10)).trans cX0_1_10
  have cX0_2_11 : (w10.alloc (.cells #[Value.string sR, .int .i64 aR, .slice AG nG cG] 26)).cell? ⟨w6.heap.size, 2, none⟩ = some (.slice AX0 n0 n0) := (World.cell?_alloc_lt _ _ _ (block_lt_of_cell cX0_2_10)).trans cX0_2_10
  clear cX0_0_10 cX0_1_10 cX0_2_10
  have cX1_0_11 : (w10.alloc (.cells #[Value.string sR, .int .i64 aR, .slice AG nG cG] 26)).cell? ⟨w8.heap.size, 0, none⟩ = some (.string s1) := (World.cell?_alloc_lt _ _ _ (block_lt_of_cell cX1_0_10)).trans cX1_0_10
  have cX1_1_11 : (w10.alloc (.cells #[Value.string sR, .int .i64 aR, .slice AG nG cG] 26)).cell? ⟨w8.heap.size, 1, none⟩ = some (.int .i64 a1) := (World.cell?_alloc_lt _ _ _ (block_lt_of_cell cX1_1_10)).trans cX1_1_10
  have cX1_2_11 : (w10.alloc (.cells #[Value.string sR, .int .i64 aR, .slice AG nG cG] 26)).cell? ⟨w8.heap.size, 2, none⟩ = some (.slice AX1 n1 n1) := (World.cell?_alloc_lt _ _ _ (block_lt_of_cell cX1_2_10)).trans cX1_2_10
  clear cX1_0_10 cX1_1_10 cX1_2_10
  have cG_0_11 : (w10.alloc (.cells #[Value.string sR, .int .i64 aR, .slice AG nG cG] 26)).cell? ⟨w10.heap.size, 0, none⟩ = some (Value.string sR) := ((Blk.new w10 26 #[Value.string sR, .int .i64 aR, .slice AG nG cG]).cell 0).trans rfl
  have cG_1_11 : (w10.alloc (.cells #[Value.string sR, .int .i64 aR, .slice AG nG cG] 26)).cell? ⟨w10.heap.size, 1, none⟩ = some (.int .i64 aR) := ((Blk.new w10 26 #[Value.string sR, .int .i64 aR, .slice AG nG cG]).cell 1).trans rfl
  have cG_2_11 : (w10.alloc (.cells #[Value.string sR, .int .i64 aR, .slice AG nG cG] 26)).cell? ⟨w10.heap.size, 2, none⟩ = some (.slice AG nG cG) := ((Blk.new w10 26 #[Value.string sR, .int .i64 aR, .slice AG nG cG]).cell 2).trans rfl
  have SW_11 := SW_10.below (show Below w10.heap.size w10 (w10.alloc (.cells #[Value.string sR, .int .i64 aR, .slice AG nG cG] 26)) from (Below.refl _ _).alloc (Nat.le_refl _) _) (by omega)
  have SX0_11 := SX0_10.below (show Below w10.heap.size w10 (w10.alloc (.cells #[Value.string sR, .int .i64 aR, .slice AG nG cG] 26)) from (Below.refl _ _).alloc (Nat.le_refl _) _) (by omega)
  have SX1_11 := SX1_10.below (show Below w10.heap.size w10 (w10.alloc (.cells #[Value.string sR, .int .i64 aR, .slice AG nG cG] 26)) from (Below.refl _ _).alloc (Nat.le_refl _) _) (by omega)
  have SG_11 := SG_10.below (show Below w10.heap.size w10 (w10.alloc (.cells #[Value.string sR, .int .i64 aR, .slice AG nG cG] 26)) from (Below.refl _ _).alloc (Nat.le_refl _) _) (by omega)
  clear cc10
  obtain rfl : nG = nW := by have h1 := FG_10.reads.len; have h2 := FW_5.reads.len; have h3 := dat_len rsG; have h4 := dat_len rsW; rw [HDG.out] at h3; rw [HDW.out] at h4; omega
  go_wp2_with fail; ((with_reducible refine (eqFan_b sR aR _ _ nG cG cW rsG rsW _ (FG_10.same SG_11).reads (FW_5.same SW_11).reads (HDG.out.trans HDW.out.symm) (by omega) (fun r hr => Nat.le_trans (MG.out r hr) (by omega))).mono ?_); rintro e w12 ⟨rfl, hb12⟩)
  have z12 : (w10.alloc (.cells #[Value.string sR, .int .i64 aR, .slice AG nG cG] 26)).heap.size ≤ w12.heap.size := hb12.size
  have B12 : Below w.heap.size w w12 := B11.trans (hb12.mono B11.size)
  have cP0_0_12 : w12.cell? ⟨w.heap.size, 0, none⟩ = some (.string s0) := (hb12.cell (block_lt_of_cell cP0_0_11)).trans cP0_0_11
  have cP0_1_12 : w12.cell? ⟨w.heap.size, 1, none⟩ = some (.int .i64 a0) := (hb12.cell (block_lt_of_cell cP0_1_11)).trans cP0_1_11
  have cP0_2_12 : w12.cell? ⟨w.heap.size, 2, none⟩ = some (.slice A0 n0 c0) := (hb12.cell (block_lt_of_cell cP0_2_11)).trans cP0_2_11
  clear cP0_0_11 cP0_1_11 cP0_2_11
  have cP1_0_12 : w12.cell? ⟨w.heap.size + 1, 0, none⟩ = some (.string s1) := (hb12.cell (block_lt_of_cell cP1_0_11)).trans cP1_0_11
  have cP1_1_12 : w12.cell? ⟨w.heap.size + 1, 1, none⟩ = some (.int .i64 a1) := (hb12.cell (block_lt_of_cell cP1_1_11)).trans cP1_1_11
  have cP1_2_12 : w12.cell? ⟨w.heap.size + 1, 2, none⟩ = some (.slice A1 n1 c1) := (hb12.cell (block_lt_of_cell cP1_2_11)).trans cP1_2_11
  clear cP1_0_11 cP1_1_11 cP1_2_11
  have cW_0_12 : w12.cell? ⟨gW, 0, none⟩ = some (Value.string sR) := (hb12.cell (block_lt_of_cell cW_0_11)).trans cW_0_11
  have cW_1_12 : w12.cell? ⟨gW, 1, none⟩ = some (.int .i64 aR) := (hb12.cell (block_lt_of_cell cW_1_11)).trans cW_1_11
  have cW_2_12 : w12.cell? ⟨gW, 2, none⟩ = some (.slice AW nG cW) := (hb12.cell (block_lt_of_cell cW_2_11)).trans cW_2_11
  clear cW_0_11 cW_1_11 cW_2_11
  have cX0_0_12 : w12.cell? ⟨w6.heap.size, 0, none⟩ = some (.string s0) := (hb12.cell (block_lt_of_cell cX0_0_11)).trans cX0_0_11
  have cX0_1_12 : w12.cell? ⟨w6.heap.size, 1, none⟩ = some (.int .i64 a0) := (hb12.cell (block_lt_of_cell cX0_1_11)).trans cX0_1_11
  have cX0_2_12 : w12.cell? ⟨w6.heap.size, 2, none⟩ = some (.slice AX0 n0 n0) := (hb12.cell (block_lt_of_cell cX0_2_11)).trans cX0_2_11
  clear cX0_0_11 cX0_1_11 cX0_2_11
  have cX1_0_12 : w12.cell? ⟨w8.heap.size, 0, none⟩ = some (.string s1) := (hb12.cell (block_lt_of_cell cX1_0_11)).trans cX1_0_11
  have cX1_1_12 : w12.cell? ⟨w8.heap.size, 1, none⟩ = some (.int .i64 a1) := (hb12.cell (block_lt_of_cell cX1_1_11)).trans cX1_1_11
  have cX1_2_12 : w12.cell? ⟨w8.heap.size, 2, none⟩ = some (.slice AX1 n1 n1) := (hb12.cell (block_lt_of_cell cX1_2_11)).trans cX1_2_11
  clear cX1_0_11 cX1_1_11 cX1_2_11
  have cG_0_12 : w12.cell? ⟨w10.heap.size, 0, none⟩ = some (Value.string sR) := (hb12.cell (block_lt_of_cell cG_0_11)).trans cG_0_11
  have cG_1_12 : w12.cell? ⟨w10.heap.size, 1, none⟩ = some (.int .i64 aR) := (hb12.cell (block_lt_of_cell cG_1_11)).trans cG_1_11
  have cG_2_12 : w12.cell? ⟨w10.heap.size, 2, none⟩ = some (.slice AG nG cG) := (hb12.cell (block_lt_of_cell cG_2_11)).trans cG_2_11
  clear cG_0_11 cG_1_11 cG_2_11
  have SW_12 := SW_11.below hb12 (by omega)
  have SX0_12 := SX0_11.below hb12 (by omega)
  have SX1_12 := SX1_11.below hb12 (by omega)
  have SG_12 := SG_11.below hb12 (by omega)
  have RDT0 := (hr0.below (below_drew B12)).more (below_drew B12).size
  have HZT0 : w6.heap.size ≤ w12.drew.heap.size := by show _ ≤ w12.heap.size; omega
  go_wp2_with fail
  go_region_held3 (fun w' => w'.cell? ⟨w.heap.size, 0, none⟩ = some (.string s0) ∧ w'.cell? ⟨w.heap.size, 1, none⟩ = some (.int .i64 a0) ∧ w'.cell? ⟨w.heap.size, 2, none⟩ = some (.slice A0 n0 c0) ∧ w'.cell? ⟨w6.heap.size, 0, none⟩ = some (.string s0) ∧ w'.cell? ⟨w6.heap.size, 1, none⟩ = some (.int .i64 a0) ∧ w'.cell? ⟨w6.heap.size, 2, none⟩ = some (.slice AX0 n0 n0))
    (first | go_keep | (exact ⟨(hb13.cell (block_lt_of_cell cP0_0_12)).trans cP0_0_12, (hb13.cell (block_lt_of_cell cP0_1_12)).trans cP0_1_12, (hb13.cell (block_lt_of_cell cP0_2_12)).trans cP0_2_12, (hb13.cell (block_lt_of_cell cX0_0_12)).trans cX0_0_12, (hb13.cell (block_lt_of_cell cX0_1_12)).trans cX0_1_12, (hb13.cell (block_lt_of_cell cX0_2_12)).trans cX0_2_12⟩) | (exact ⟨(hb14.cell (block_lt_of_cell ((hb13.cell (block_lt_of_cell cP0_0_12)).trans cP0_0_12))).trans ((hb13.cell (block_lt_of_cell cP0_0_12)).trans cP0_0_12), (hb14.cell (block_lt_of_cell ((hb13.cell (block_lt_of_cell cP0_1_12)).trans cP0_1_12))).trans ((hb13.cell (block_lt_of_cell cP0_1_12)).trans cP0_1_12), (hb14.cell (block_lt_of_cell ((hb13.cell (block_lt_of_cell cP0_2_12)).trans cP0_2_12))).trans ((hb13.cell (block_lt_of_cell cP0_2_12)).trans cP0_2_12), (hb14.cell (block_lt_of_cell ((hb13.cell (block_lt_of_cell cX0_0_12)).trans cX0_0_12))).trans ((hb13.cell (block_lt_of_cell cX0_0_12)).trans cX0_0_12), (hb14.cell (block_lt_of_cell ((hb13.cell (block_lt_of_cell cX0_1_12)).trans cX0_1_12))).trans ((hb13.cell (block_lt_of_cell cX0_1_12)).trans cX0_1_12), (hb14.cell (block_lt_of_cell ((hb13.cell (block_lt_of_cell cX0_2_12)).trans cX0_2_12))).trans ((hb13.cell (block_lt_of_cell cX0_2_12)).trans cX0_2_12)⟩))
    ((first | (go_at_call 15; (with_reducible refine (eqFan_b s0 a0 _ _ n0 n0 n0 rsX0 rsT0 _ (FX0_6.same ((SX0_12.drew).below hb13 HZT0)).reads (oss_mk oT0).reads (HDX0.out.trans DT0.symm) (by omega) (fun r hr => Nat.le_trans (MX0.out r hr) (by omega))).mono ?_); rintro e w14 ⟨rfl, hb14⟩) | (go_at_call 13; (with_reducible refine (toFan_any s0 a0 A0 n0 c0 xs0 _ ls0 RDT0 hn0 hrn0.out).mono ?_); rintro e w13 ⟨AT0, rsT0, rfl, oT0, DT0, hb13⟩)))
  replace hb13 : Below w12.heap.size w12 w13 := below_undrew hb13
  have z13 : w12.heap.size ≤ w13.heap.size := hb13.size
  have B13 : Below w.heap.size w w13 := B12.trans (hb13.mono B12.size)
  have cP0_0_13 : w13.cell? ⟨w.heap.size, 0, none⟩ = some (.string s0) := (hb13.cell (block_lt_of_cell cP0_0_12)).trans cP0_0_12
  have cP0_1_13 : w13.cell? ⟨w.heap.size, 1, none⟩ = some (.int .i64 a0) := (hb13.cell (block_lt_of_cell cP0_1_12)).trans cP0_1_12
  have cP0_2_13 : w13.cell? ⟨w.heap.size, 2, none⟩ = some (.slice A0 n0 c0) := (hb13.cell (block_lt_of_cell cP0_2_12)).trans cP0_2_12
  clear cP0_0_12 cP0_1_12 cP0_2_12
  have cP1_0_13 : w13.cell? ⟨w.heap.size + 1, 0, none⟩ = some (.string s1) := (hb13.cell (block_lt_of_cell cP1_0_12)).trans cP1_0_12
  have cP1_1_13 : w13.cell? ⟨w.heap.size + 1, 1, none⟩ = some (.int .i64 a1) := (hb13.cell (block_lt_of_cell cP1_1_12)).trans cP1_1_12
  have cP1_2_13 : w13.cell? ⟨w.heap.size + 1, 2, none⟩ = some (.slice A1 n1 c1) := (hb13.cell (block_lt_of_cell cP1_2_12)).trans cP1_2_12
  clear cP1_0_12 cP1_1_12 cP1_2_12
  have cW_0_13 : w13.cell? ⟨gW, 0, none⟩ = some (Value.string sR) := (hb13.cell (block_lt_of_cell cW_0_12)).trans cW_0_12
  have cW_1_13 : w13.cell? ⟨gW, 1, none⟩ = some (.int .i64 aR) := (hb13.cell (block_lt_of_cell cW_1_12)).trans cW_1_12
  have cW_2_13 : w13.cell? ⟨gW, 2, none⟩ = some (.slice AW nG cW) := (hb13.cell (block_lt_of_cell cW_2_12)).trans cW_2_12
  clear cW_0_12 cW_1_12 cW_2_12
  have cX0_0_13 : w13.cell? ⟨w6.heap.size, 0, none⟩ = some (.string s0) := (hb13.cell (block_lt_of_cell cX0_0_12)).trans cX0_0_12
  have cX0_1_13 : w13.cell? ⟨w6.heap.size, 1, none⟩ = some (.int .i64 a0) := (hb13.cell (block_lt_of_cell cX0_1_12)).trans cX0_1_12
  have cX0_2_13 : w13.cell? ⟨w6.heap.size, 2, none⟩ = some (.slice AX0 n0 n0) := (hb13.cell (block_lt_of_cell cX0_2_12)).trans cX0_2_12
  clear cX0_0_12 cX0_1_12 cX0_2_12
  have cX1_0_13 : w13.cell? ⟨w8.heap.size, 0, none⟩ = some (.string s1) := (hb13.cell (block_lt_of_cell cX1_0_12)).trans cX1_0_12
  have cX1_1_13 : w13.cell? ⟨w8.heap.size, 1, none⟩ = some (.int .i64 a1) := (hb13.cell (block_lt_of_cell cX1_1_12)).trans cX1_1_12
  have cX1_2_13 : w13.cell? ⟨w8.heap.size, 2, none⟩ = some (.slice AX1 n1 n1) := (hb13.cell (block_lt_of_cell cX1_2_12)).trans cX1_2_12
  clear cX1_0_12 cX1_1_12 cX1_2_12
  have cG_0_13 : w13.cell? ⟨w10.heap.size, 0, none⟩ = some (Value.string sR) := (hb13.cell (block_lt_of_cell cG_0_12)).trans cG_0_12
  have cG_1_13 : w13.cell? ⟨w10.heap.size, 1, none⟩ = some (.int .i64 aR) := (hb13.cell (block_lt_of_cell cG_1_12)).trans cG_1_12
  have cG_2_13 : w13.cell? ⟨w10.heap.size, 2, none⟩ = some (.slice AG nG cG) := (hb13.cell (block_lt_of_cell cG_2_12)).trans cG_2_12
  clear cG_0_12 cG_1_12 cG_2_12
  have SW_13 := SW_12.below hb13 (by omega)
  have SX0_13 := SX0_12.below hb13 (by omega)
  have SX1_13 := SX1_12.below hb13 (by omega)
  have SG_13 := SG_12.below hb13 (by omega)
  have z14 : w13.heap.size ≤ w14.heap.size := hb14.size
  have B14 : Below w.heap.size w w14 := B13.trans (hb14.mono B13.size)
  have cP0_0_14 : w14.cell? ⟨w.heap.size, 0, none⟩ = some (.string s0) := (hb14.cell (block_lt_of_cell cP0_0_13)).trans cP0_0_13
  have cP0_1_14 : w14.cell? ⟨w.heap.size, 1, none⟩ = some (.int .i64 a0) := (hb14.cell (block_lt_of_cell cP0_1_13)).trans cP0_1_13
  have cP0_2_14 : w14.cell? ⟨w.heap.size, 2, none⟩ = some (.slice A0 n0 c0) := (hb14.cell (block_lt_of_cell cP0_2_13)).trans cP0_2_13
  clear cP0_0_13 cP0_1_13 cP0_2_13
  have cP1_0_14 : w14.cell? ⟨w.heap.size + 1, 0, none⟩ = some (.string s1) := (hb14.cell (block_lt_of_cell cP1_0_13)).trans cP1_0_13
  have cP1_1_14 : w14.cell? ⟨w.heap.size + 1, 1, none⟩ = some (.int .i64 a1) := (hb14.cell (block_lt_of_cell cP1_1_13)).trans cP1_1_13
  have cP1_2_14 : w14.cell? ⟨w.heap.size + 1, 2, none⟩ = some (.slice A1 n1 c1) := (hb14.cell (block_lt_of_cell cP1_2_13)).trans cP1_2_13
  clear cP1_0_13 cP1_1_13 cP1_2_13
  have cW_0_14 : w14.cell? ⟨gW, 0, none⟩ = some (Value.string sR) := (hb14.cell (block_lt_of_cell cW_0_13)).trans cW_0_13
  have cW_1_14 : w14.cell? ⟨gW, 1, none⟩ = some (.int .i64 aR) := (hb14.cell (block_lt_of_cell cW_1_13)).trans cW_1_13
  have cW_2_14 : w14.cell? ⟨gW, 2, none⟩ = some (.slice AW nG cW) := (hb14.cell (block_lt_of_cell cW_2_13)).trans cW_2_13
  clear cW_0_13 cW_1_13 cW_2_13
  have cX0_0_14 : w14.cell? ⟨w6.heap.size, 0, none⟩ = some (.string s0) := (hb14.cell (block_lt_of_cell cX0_0_13)).trans cX0_0_13
  have cX0_1_14 : w14.cell? ⟨w6.heap.size, 1, none⟩ = some (.int .i64 a0) := (hb14.cell (block_lt_of_cell cX0_1_13)).trans cX0_1_13
  have cX0_2_14 : w14.cell? ⟨w6.heap.size, 2, none⟩ = some (.slice AX0 n0 n0) := (hb14.cell (block_lt_of_cell cX0_2_13)).trans cX0_2_13
  clear cX0_0_13 cX0_1_13 cX0_2_13
  have cX1_0_14 : w14.cell? ⟨w8.heap.size, 0, none⟩ = some (.string s1) := (hb14.cell (block_lt_of_cell cX1_0_13)).trans cX1_0_13
  have cX1_1_14 : w14.cell? ⟨w8.heap.size, 1, none⟩ = some (.int .i64 a1) := (hb14.cell (block_lt_of_cell cX1_1_13)).trans cX1_1_13
  have cX1_2_14 : w14.cell? ⟨w8.heap.size, 2, none⟩ = some (.slice AX1 n1 n1) := (hb14.cell (block_lt_of_cell cX1_2_13)).trans cX1_2_13
  clear cX1_0_13 cX1_1_13 cX1_2_13
  have cG_0_14 : w14.cell? ⟨w10.heap.size, 0, none⟩ = some (Value.string sR) := (hb14.cell (block_lt_of_cell cG_0_13)).trans cG_0_13
  have cG_1_14 : w14.cell? ⟨w10.heap.size, 1, none⟩ = some (.int .i64 aR) := (hb14.cell (block_lt_of_cell cG_1_13)).trans cG_1_13
  have cG_2_14 : w14.cell? ⟨w10.heap.size, 2, none⟩ = some (.slice AG nG cG) := (hb14.cell (block_lt_of_cell cG_2_13)).trans cG_2_13
  clear cG_0_13 cG_1_13 cG_2_13
  have SW_14 := SW_13.below hb14 (by omega)
  have SX0_14 := SX0_13.below hb14 (by omega)
  have SX1_14 := SX1_13.below hb14 (by omega)
  have SG_14 := SG_13.below hb14 (by omega)
  have RDT1 := (hr1.below (below_drew B14)).more (below_drew B14).size
  have HZT1 : w8.heap.size ≤ w14.drew.heap.size := by show _ ≤ w14.heap.size; omega
  go_wp2_with fail
  go_region_held3 (fun w' => w'.cell? ⟨w.heap.size + 1, 0, none⟩ = some (.string s1) ∧ w'.cell? ⟨w.heap.size + 1, 1, none⟩ = some (.int .i64 a1) ∧ w'.cell? ⟨w.heap.size + 1, 2, none⟩ = some (.slice A1 n1 c1) ∧ w'.cell? ⟨w8.heap.size, 0, none⟩ = some (.string s1) ∧ w'.cell? ⟨w8.heap.size, 1, none⟩ = some (.int .i64 a1) ∧ w'.cell? ⟨w8.heap.size, 2, none⟩ = some (.slice AX1 n1 n1))
    (first | go_keep | (exact ⟨(hb15.cell (block_lt_of_cell cP1_0_14)).trans cP1_0_14, (hb15.cell (block_lt_of_cell cP1_1_14)).trans cP1_1_14, (hb15.cell (block_lt_of_cell cP1_2_14)).trans cP1_2_14, (hb15.cell (block_lt_of_cell cX1_0_14)).trans cX1_0_14, (hb15.cell (block_lt_of_cell cX1_1_14)).trans cX1_1_14, (hb15.cell (block_lt_of_cell cX1_2_14)).trans cX1_2_14⟩) | (exact ⟨(hb16.cell (block_lt_of_cell ((hb15.cell (block_lt_of_cell cP1_0_14)).trans cP1_0_14))).trans ((hb15.cell (block_lt_of_cell cP1_0_14)).trans cP1_0_14), (hb16.cell (block_lt_of_cell ((hb15.cell (block_lt_of_cell cP1_1_14)).trans cP1_1_14))).trans ((hb15.cell (block_lt_of_cell cP1_1_14)).trans cP1_1_14), (hb16.cell (block_lt_of_cell ((hb15.cell (block_lt_of_cell cP1_2_14)).trans cP1_2_14))).trans ((hb15.cell (block_lt_of_cell cP1_2_14)).trans cP1_2_14), (hb16.cell (block_lt_of_cell ((hb15.cell (block_lt_of_cell cX1_0_14)).trans cX1_0_14))).trans ((hb15.cell (block_lt_of_cell cX1_0_14)).trans cX1_0_14), (hb16.cell (block_lt_of_cell ((hb15.cell (block_lt_of_cell cX1_1_14)).trans cX1_1_14))).trans ((hb15.cell (block_lt_of_cell cX1_1_14)).trans cX1_1_14), (hb16.cell (block_lt_of_cell ((hb15.cell (block_lt_of_cell cX1_2_14)).trans cX1_2_14))).trans ((hb15.cell (block_lt_of_cell cX1_2_14)).trans cX1_2_14)⟩))
    ((first | (go_at_call 15; (with_reducible refine (eqFan_b s1 a1 _ _ n1 n1 n1 rsX1 rsT1 _ (FX1_8.same ((SX1_14.drew).below hb15 HZT1)).reads (oss_mk oT1).reads (HDX1.out.trans DT1.symm) (by omega) (fun r hr => Nat.le_trans (MX1.out r hr) (by omega))).mono ?_); rintro e w16 ⟨rfl, hb16⟩) | (go_at_call 13; (with_reducible refine (toFan_any s1 a1 A1 n1 c1 xs1 _ ls1 RDT1 hn1 hrn1.out).mono ?_); rintro e w15 ⟨AT1, rsT1, rfl, oT1, DT1, hb15⟩)))
  replace hb15 : Below w14.heap.size w14 w15 := below_undrew hb15
  have z15 : w14.heap.size ≤ w15.heap.size := hb15.size
  have B15 : Below w.heap.size w w15 := B14.trans (hb15.mono B14.size)
  have cP0_0_15 : w15.cell? ⟨w.heap.size, 0, none⟩ = some (.string s0) := (hb15.cell (block_lt_of_cell cP0_0_14)).trans cP0_0_14
  have cP0_1_15 : w15.cell? ⟨w.heap.size, 1, none⟩ = some (.int .i64 a0) := (hb15.cell (block_lt_of_cell cP0_1_14)).trans cP0_1_14
  have cP0_2_15 : w15.cell? ⟨w.heap.size, 2, none⟩ = some (.slice A0 n0 c0) := (hb15.cell (block_lt_of_cell cP0_2_14)).trans cP0_2_14
  clear cP0_0_14 cP0_1_14 cP0_2_14
  have cP1_0_15 : w15.cell? ⟨w.heap.size + 1, 0, none⟩ = some (.string s1) := (hb15.cell (block_lt_of_cell cP1_0_14)).trans cP1_0_14
  have cP1_1_15 : w15.cell? ⟨w.heap.size + 1, 1, none⟩ = some (.int .i64 a1) := (hb15.cell (block_lt_of_cell cP1_1_14)).trans cP1_1_14
  have cP1_2_15 : w15.cell? ⟨w.heap.size + 1, 2, none⟩ = some (.slice A1 n1 c1) := (hb15.cell (block_lt_of_cell cP1_2_14)).trans cP1_2_14
  clear cP1_0_14 cP1_1_14 cP1_2_14
  have cW_0_15 : w15.cell? ⟨gW, 0, none⟩ = some (Value.string sR) := (hb15.cell (block_lt_of_cell cW_0_14)).trans cW_0_14
  have cW_1_15 : w15.cell? ⟨gW, 1, none⟩ = some (.int .i64 aR) := (hb15.cell (block_lt_of_cell cW_1_14)).trans cW_1_14
  have cW_2_15 : w15.cell? ⟨gW, 2, none⟩ = some (.slice AW nG cW) := (hb15.cell (block_lt_of_cell cW_2_14)).trans cW_2_14
  clear cW_0_14 cW_1_14 cW_2_14
  have cX0_0_15 : w15.cell? ⟨w6.heap.size, 0, none⟩ = some (.string s0) := (hb15.cell (block_lt_of_cell cX0_0_14)).trans cX0_0_14
  have cX0_1_15 : w15.cell? ⟨w6.heap.size, 1, none⟩ = some (.int .i64 a0) := (hb15.cell (block_lt_of_cell cX0_1_14)).trans cX0_1_14
  have cX0_2_15 : w15.cell? ⟨w6.heap.size, 2, none⟩ = some (.slice AX0 n0 n0) := (hb15.cell (block_lt_of_cell cX0_2_14)).trans cX0_2_14
  clear cX0_0_14 cX0_1_14 cX0_2_14
  have cX1_0_15 : w15.cell? ⟨w8.heap.size, 0, none⟩ = some (.string s1) := (hb15.cell (block_lt_of_cell cX1_0_14)).trans cX1_0_14
  have cX1_1_15 : w15.cell? ⟨w8.heap.size, 1, none⟩ = some (.int .i64 a1) := (hb15.cell (block_lt_of_cell cX1_1_14)).trans cX1_1_14
  have cX1_2_15 : w15.cell? ⟨w8.heap.size, 2, none⟩ = some (.slice AX1 n1 n1) := (hb15.cell (block_lt_of_cell cX1_2_14)).trans cX1_2_14
  clear cX1_0_14 cX1_1_14 cX1_2_14
  have cG_0_15 : w15.cell? ⟨w10.heap.size, 0, none⟩ = some (Value.string sR) := (hb15.cell (block_lt_of_cell cG_0_14)).trans cG_0_14
  have cG_1_15 : w15.cell? ⟨w10.heap.size, 1, none⟩ = some (.int .i64 aR) := (hb15.cell (block_lt_of_cell cG_1_14)).trans cG_1_14
  have cG_2_15 : w15.cell? ⟨w10.heap.size, 2, none⟩ = some (.slice AG nG cG) := (hb15.cell (block_lt_of_cell cG_2_14)).trans cG_2_14
  clear cG_0_14 cG_1_14 cG_2_14
  have SW_15 := SW_14.below hb15 (by omega)
  have SX0_15 := SX0_14.below hb15 (by omega)
  have SX1_15 := SX1_14.below hb15 (by omega)
  have SG_15 := SG_14.below hb15 (by omega)
  have z16 : w15.heap.size ≤ w16.heap.size := hb16.size
  have B16 : Below w.heap.size w w16 := B15.trans (hb16.mono B15.size)
  have cP0_0_16 : w16.cell? ⟨w.heap.size, 0, none⟩ = some (.string s0) := (hb16.cell (block_lt_of_cell cP0_0_15)).trans cP0_0_15
  have cP0_1_16 : w16.cell? ⟨w.heap.size, 1, none⟩ = some (.int .i64 a0) := (hb16.cell (block_lt_of_cell cP0_1_15)).trans cP0_1_15
  have cP0_2_16 : w16.cell? ⟨w.heap.size, 2, none⟩ = some (.slice A0 n0 c0) := (hb16.cell (block_lt_of_cell cP0_2_15)).trans cP0_2_15
  clear cP0_0_15 cP0_1_15 cP0_2_15
  have cP1_0_16 : w16.cell? ⟨w.heap.size + 1, 0, none⟩ = some (.string s1) := (hb16.cell (block_lt_of_cell cP1_0_15)).trans cP1_0_15
  have cP1_1_16 : w16.cell? ⟨w.heap.size + 1, 1, none⟩ = some (.int .i64 a1) := (hb16.cell (block_lt_of_cell cP1_1_15)).trans cP1_1_15
  have cP1_2_16 : w16.cell? ⟨w.heap.size + 1, 2, none⟩ = some (.slice A1 n1 c1) := (hb16.cell (block_lt_of_cell cP1_2_15)).trans cP1_2_15
  clear cP1_0_15 cP1_1_15 cP1_2_15
  have cW_0_16 : w16.cell? ⟨gW, 0, none⟩ = some (Value.string sR) := (hb16.cell (block_lt_of_cell cW_0_15)).trans cW_0_15
  have cW_1_16 : w16.cell? ⟨gW, 1, none⟩ = some (.int .i64 aR) := (hb16.cell (block_lt_of_cell cW_1_15)).trans cW_1_15
  have cW_2_16 : w16.cell? ⟨gW, 2, none⟩ = some (.slice AW nG cW) := (hb16.cell (block_lt_of_cell cW_2_15)).trans cW_2_15
  clear cW_0_15 cW_1_15 cW_2_15
  have cX0_0_16 : w16.cell? ⟨w6.heap.size, 0, none⟩ = some (.string s0) := (hb16.cell (block_lt_of_cell cX0_0_15)).trans cX0_0_15
  have cX0_1_16 : w16.cell? ⟨w6.heap.size, 1, none⟩ = some (.int .i64 a0) := (hb16.cell (block_lt_of_cell cX0_1_15)).trans cX0_1_15
  have cX0_2_16 : w16.cell? ⟨w6.heap.size, 2, none⟩ = some (.slice AX0 n0 n0) := (hb16.cell (block_lt_of_cell cX0_2_15)).trans cX0_2_15
  clear cX0_0_15 cX0_1_15 cX0_2_15
  have cX1_0_16 : w16.cell? ⟨w8.heap.size, 0, none⟩ = some (.string s1) := (hb16.cell (block_lt_of_cell cX1_0_15)).trans cX1_0_15
  have cX1_1_16 : w16.cell? ⟨w8.heap.size, 1, none⟩ = some (.int .i64 a1) := (hb16.cell (block_lt_of_cell cX1_1_15)).trans cX1_1_15
  have cX1_2_16 : w16.cell? ⟨w8.heap.size, 2, none⟩ = some (.slice AX1 n1 n1) := (hb16.cell (block_lt_of_cell cX1_2_15)).trans cX1_2_15
  clear cX1_0_15 cX1_1_15 cX1_2_15
  have cG_0_16 : w16.cell? ⟨w10.heap.size, 0, none⟩ = some (Value.string sR) := (hb16.cell (block_lt_of_cell cG_0_15)).trans cG_0_15
  have cG_1_16 : w16.cell? ⟨w10.heap.size, 1, none⟩ = some (.int .i64 aR) := (hb16.cell (block_lt_of_cell cG_1_15)).trans cG_1_15
  have cG_2_16 : w16.cell? ⟨w10.heap.size, 2, none⟩ = some (.slice AG nG cG) := (hb16.cell (block_lt_of_cell cG_2_15)).trans cG_2_15
  clear cG_0_15 cG_1_15 cG_2_15
  have SW_16 := SW_15.below hb16 (by omega)
  have SX0_16 := SX0_15.below hb16 (by omega)
  have SX1_16 := SX1_15.below hb16 (by omega)
  have SG_16 := SG_15.below hb16 (by omega)
  go_wp2_with fail; ((with_reducible refine (markFan_any s0 a0 w5.heap.size w6.heap.size AX0 n0 n0 rsX0 (1) w16 (FX0_6.same SX0_16) (by omega) MX0.out TX0 (by omega) (by omega) (by omega)).mono ?_); rintro e w17 ⟨rfl, FX0_17, hb17⟩)
  have hc17 := hb17
  have z17 : w16.heap.size ≤ w17.heap.size := hc17.size
  have B17 : Below w.heap.size w w17 := below_chg B16 hc17 B5.size B16.size
  have SW_17 := SW_16.chg hc17 (by omega) (Or.inl (by omega))
  have SX1_17 := SX1_16.chg hc17 (by omega) (Or.inr (by omega))
  have SG_17 := SG_16.chg hc17 (by omega) (Or.inr (by omega))
  have cP0_0_17 : w17.cell? ⟨w.heap.size, 0, none⟩ = some (.string s0) := hc17.cell cP0_0_16 (Or.inl (by first | (show w.heap.size < _; omega) | (show w.heap.size + _ < _; omega)))
  have cP0_1_17 : w17.cell? ⟨w.heap.size, 1, none⟩ = some (.int .i64 a0) := hc17.cell cP0_1_16 (Or.inl (by first | (show w.heap.size < _; omega) | (show w.heap.size + _ < _; omega)))
  have cP0_2_17 : w17.cell? ⟨w.heap.size, 2, none⟩ = some (.slice A0 n0 c0) := hc17.cell cP0_2_16 (Or.inl (by first | (show w.heap.size < _; omega) | (show w.heap.size + _ < _; omega)))
  clear cP0_0_16 cP0_1_16 cP0_2_16
  have cP1_0_17 : w17.cell? ⟨w.heap.size + 1, 0, none⟩ = some (.string s1) := hc17.cell cP1_0_16 (Or.inl (by first | (show w.heap.size < _; omega) | (show w.heap.size + _ < _; omega)))
  have cP1_1_17 : w17.cell? ⟨w.heap.size + 1, 1, none⟩ = some (.int .i64 a1) := hc17.cell cP1_1_16 (Or.inl (by first | (show w.heap.size < _; omega) | (show w.heap.size + _ < _; omega)))
  have cP1_2_17 : w17.cell? ⟨w.heap.size + 1, 2, none⟩ = some (.slice A1 n1 c1) := hc17.cell cP1_2_16 (Or.inl (by first | (show w.heap.size < _; omega) | (show w.heap.size + _ < _; omega)))
  clear cP1_0_16 cP1_1_16 cP1_2_16
  have cW_0_17 : w17.cell? ⟨gW, 0, none⟩ = some (Value.string sR) := hc17.cell cW_0_16 (Or.inl (by show gW < _; omega))
  have cW_1_17 : w17.cell? ⟨gW, 1, none⟩ = some (.int .i64 aR) := hc17.cell cW_1_16 (Or.inl (by show gW < _; omega))
  have cW_2_17 : w17.cell? ⟨gW, 2, none⟩ = some (.slice AW nG cW) := hc17.cell cW_2_16 (Or.inl (by show gW < _; omega))
  clear cW_0_16 cW_1_16 cW_2_16
  have cX0_0_17 : w17.cell? ⟨w6.heap.size, 0, none⟩ = some (.string s0) := hc17.cell cX0_0_16 (Or.inr (Nat.le_refl _))
  have cX0_1_17 : w17.cell? ⟨w6.heap.size, 1, none⟩ = some (.int .i64 a0) := hc17.cell cX0_1_16 (Or.inr (Nat.le_refl _))
  have cX0_2_17 : w17.cell? ⟨w6.heap.size, 2, none⟩ = some (.slice AX0 n0 n0) := hc17.cell cX0_2_16 (Or.inr (Nat.le_refl _))
  clear cX0_0_16 cX0_1_16 cX0_2_16
  have cX1_0_17 : w17.cell? ⟨w8.heap.size, 0, none⟩ = some (.string s1) := hc17.cell cX1_0_16 (Or.inr (by show _ ≤ w8.heap.size; omega))
  have cX1_1_17 : w17.cell? ⟨w8.heap.size, 1, none⟩ = some (.int .i64 a1) := hc17.cell cX1_1_16 (Or.inr (by show _ ≤ w8.heap.size; omega))
  have cX1_2_17 : w17.cell? ⟨w8.heap.size, 2, none⟩ = some (.slice AX1 n1 n1) := hc17.cell cX1_2_16 (Or.inr (by show _ ≤ w8.heap.size; omega))
  clear cX1_0_16 cX1_1_16 cX1_2_16
  have cG_0_17 : w17.cell? ⟨w10.heap.size, 0, none⟩ = some (Value.string sR) := hc17.cell cG_0_16 (Or.inr (by show _ ≤ w10.heap.size; omega))
  have cG_1_17 : w17.cell? ⟨w10.heap.size, 1, none⟩ = some (.int .i64 aR) := hc17.cell cG_1_16 (Or.inr (by show _ ≤ w10.heap.size; omega))
  have cG_2_17 : w17.cell? ⟨w10.heap.size, 2, none⟩ = some (.slice AG nG cG) := hc17.cell cG_2_16 (Or.inr (by show _ ≤ w10.heap.size; omega))
  clear cG_0_16 cG_1_16 cG_2_16
  have SX0_17 := Same.refl w5.heap.size w6.heap.size w17
  go_wp2_with fail; ((with_reducible refine (markFan_any s1 a1 (w6.heap.size + 1) w8.heap.size AX1 n1 n1 rsX1 ((1) + tot rsX0) w17 (FX1_8.same SX1_17) (by omega) MX1.out TX1 (by omega) (by omega) (by omega)).mono ?_); rintro e w18 ⟨rfl, FX1_18, hb18⟩)
  have hc18 := hb18
  have z18 : w17.heap.size ≤ w18.heap.size := hc18.size
  have B18 : Below w.heap.size w w18 := below_chg B17 hc18 (by omega) B17.size
  have SW_18 := SW_17.chg hc18 (by omega) (Or.inl (by omega))
  have SG_18 := SG_17.chg hc18 (by omega) (Or.inr (by omega))
  have cP0_0_18 : w18.cell? ⟨w.heap.size, 0, none⟩ = some (.string s0) := hc18.cell cP0_0_17 (Or.inl (by first | (show w.heap.size < _; omega) | (show w.heap.size + _ < _; omega)))
  have cP0_1_18 : w18.cell? ⟨w.heap.size, 1, none⟩ = some (.int .i64 a0) := hc18.cell cP0_1_17 (Or.inl (by first | (show w.heap.size < _; omega) | (show w.heap.size + _ < _; omega)))
  have cP0_2_18 : w18.cell? ⟨w.heap.size, 2, none⟩ = some (.slice A0 n0 c0) := hc18.cell cP0_2_17 (Or.inl (by first | (show w.heap.size < _; omega) | (show w.heap.size + _ < _; omega)))
  clear cP0_0_17 cP0_1_17 cP0_2_17
  have cP1_0_18 : w18.cell? ⟨w.heap.size + 1, 0, none⟩ = some (.string s1) := hc18.cell cP1_0_17 (Or.inl (by first | (show w.heap.size < _; omega) | (show w.heap.size + _ < _; omega)))
  have cP1_1_18 : w18.cell? ⟨w.heap.size + 1, 1, none⟩ = some (.int .i64 a1) := hc18.cell cP1_1_17 (Or.inl (by first | (show w.heap.size < _; omega) | (show w.heap.size + _ < _; omega)))
  have cP1_2_18 : w18.cell? ⟨w.heap.size + 1, 2, none⟩ = some (.slice A1 n1 c1) := hc18.cell cP1_2_17 (Or.inl (by first | (show w.heap.size < _; omega) | (show w.heap.size + _ < _; omega)))
  clear cP1_0_17 cP1_1_17 cP1_2_17
  have cW_0_18 : w18.cell? ⟨gW, 0, none⟩ = some (Value.string sR) := hc18.cell cW_0_17 (Or.inl (by show gW < _; omega))
  have cW_1_18 : w18.cell? ⟨gW, 1, none⟩ = some (.int .i64 aR) := hc18.cell cW_1_17 (Or.inl (by show gW < _; omega))
  have cW_2_18 : w18.cell? ⟨gW, 2, none⟩ = some (.slice AW nG cW) := hc18.cell cW_2_17 (Or.inl (by show gW < _; omega))
  clear cW_0_17 cW_1_17 cW_2_17
  have cX0_0_18 : w18.cell? ⟨w6.heap.size, 0, none⟩ = some (.string s0) := hc18.cell cX0_0_17 (Or.inl (by show w6.heap.size < _; omega))
  have cX0_1_18 : w18.cell? ⟨w6.heap.size, 1, none⟩ = some (.int .i64 a0) := hc18.cell cX0_1_17 (Or.inl (by show w6.heap.size < _; omega))
  have cX0_2_18 : w18.cell? ⟨w6.heap.size, 2, none⟩ = some (.slice AX0 n0 n0) := hc18.cell cX0_2_17 (Or.inl (by show w6.heap.size < _; omega))
  clear cX0_0_17 cX0_1_17 cX0_2_17
  have cX1_0_18 : w18.cell? ⟨w8.heap.size, 0, none⟩ = some (.string s1) := hc18.cell cX1_0_17 (Or.inr (Nat.le_refl _))
  have cX1_1_18 : w18.cell? ⟨w8.heap.size, 1, none⟩ = some (.int .i64 a1) := hc18.cell cX1_1_17 (Or.inr (Nat.le_refl _))
  have cX1_2_18 : w18.cell? ⟨w8.heap.size, 2, none⟩ = some (.slice AX1 n1 n1) := hc18.cell cX1_2_17 (Or.inr (Nat.le_refl _))
  clear cX1_0_17 cX1_1_17 cX1_2_17
  have cG_0_18 : w18.cell? ⟨w10.heap.size, 0, none⟩ = some (Value.string sR) := hc18.cell cG_0_17 (Or.inr (by show _ ≤ w10.heap.size; omega))
  have cG_1_18 : w18.cell? ⟨w10.heap.size, 1, none⟩ = some (.int .i64 aR) := hc18.cell cG_1_17 (Or.inr (by show _ ≤ w10.heap.size; omega))
  have cG_2_18 : w18.cell? ⟨w10.heap.size, 2, none⟩ = some (.slice AG nG cG) := hc18.cell cG_2_17 (Or.inr (by show _ ≤ w10.heap.size; omega))
  clear cG_0_17 cG_1_17 cG_2_17
  have SX1_18 := Same.refl (w6.heap.size + 1) w8.heap.size w18
  go_wp2_with fail; ((with_reducible refine (eqFan_b sR aR _ _ nG cG cW rsG rsW _ (FG_10.same SG_18).reads (FW_5.same SW_18).reads (HDG.out.trans HDW.out.symm) (by omega) (fun r hr => Nat.le_trans (MG.out r hr) (by omega))).mono ?_); rintro e w19 ⟨rfl, hb19⟩)
  have z19 : w18.heap.size ≤ w19.heap.size := hb19.size
  have B19 : Below w.heap.size w w19 := B18.trans (hb19.mono B18.size)
  have cP0_0_19 : w19.cell? ⟨w.heap.size, 0, none⟩ = some (.string s0) := (hb19.cell (block_lt_of_cell cP0_0_18)).trans cP0_0_18
  have cP0_1_19 : w19.cell? ⟨w.heap.size, 1, none⟩ = some (.int .i64 a0) := (hb19.cell (block_lt_of_cell cP0_1_18)).trans cP0_1_18
  have cP0_2_19 : w19.cell? ⟨w.heap.size, 2, none⟩ = some (.slice A0 n0 c0) := (hb19.cell (block_lt_of_cell cP0_2_18)).trans cP0_2_18
  clear cP0_0_18 cP0_1_18 cP0_2_18
  have cP1_0_19 : w19.cell? ⟨w.heap.size + 1, 0, none⟩ = some (.string s1) := (hb19.cell (block_lt_of_cell cP1_0_18)).trans cP1_0_18
  have cP1_1_19 : w19.cell? ⟨w.heap.size + 1, 1, none⟩ = some (.int .i64 a1) := (hb19.cell (block_lt_of_cell cP1_1_18)).trans cP1_1_18
  have cP1_2_19 : w19.cell? ⟨w.heap.size + 1, 2, none⟩ = some (.slice A1 n1 c1) := (hb19.cell (block_lt_of_cell cP1_2_18)).trans cP1_2_18
  clear cP1_0_18 cP1_1_18 cP1_2_18
  have cW_0_19 : w19.cell? ⟨gW, 0, none⟩ = some (Value.string sR) := (hb19.cell (block_lt_of_cell cW_0_18)).trans cW_0_18
  have cW_1_19 : w19.cell? ⟨gW, 1, none⟩ = some (.int .i64 aR) := (hb19.cell (block_lt_of_cell cW_1_18)).trans cW_1_18
  have cW_2_19 : w19.cell? ⟨gW, 2, none⟩ = some (.slice AW nG cW) := (hb19.cell (block_lt_of_cell cW_2_18)).trans cW_2_18
  clear cW_0_18 cW_1_18 cW_2_18
  have cX0_0_19 : w19.cell? ⟨w6.heap.size, 0, none⟩ = some (.string s0) := (hb19.cell (block_lt_of_cell cX0_0_18)).trans cX0_0_18
  have cX0_1_19 : w19.cell? ⟨w6.heap.size, 1, none⟩ = some (.int .i64 a0) := (hb19.cell (block_lt_of_cell cX0_1_18)).trans cX0_1_18
  have cX0_2_19 : w19.cell? ⟨w6.heap.size, 2, none⟩ = some (.slice AX0 n0 n0) := (hb19.cell (block_lt_of_cell cX0_2_18)).trans cX0_2_18
  clear cX0_0_18 cX0_1_18 cX0_2_18
  have cX1_0_19 : w19.cell? ⟨w8.heap.size, 0, none⟩ = some (.string s1) := (hb19.cell (block_lt_of_cell cX1_0_18)).trans cX1_0_18
  have cX1_1_19 : w19.cell? ⟨w8.heap.size, 1, none⟩ = some (.int .i64 a1) := (hb19.cell (block_lt_of_cell cX1_1_18)).trans cX1_1_18
  have cX1_2_19 : w19.cell? ⟨w8.heap.size, 2, none⟩ = some (.slice AX1 n1 n1) := (hb19.cell (block_lt_of_cell cX1_2_18)).trans cX1_2_18
  clear cX1_0_18 cX1_1_18 cX1_2_18
  have cG_0_19 : w19.cell? ⟨w10.heap.size, 0, none⟩ = some (Value.string sR) := (hb19.cell (block_lt_of_cell cG_0_18)).trans cG_0_18
  have cG_1_19 : w19.cell? ⟨w10.heap.size, 1, none⟩ = some (.int .i64 aR) := (hb19.cell (block_lt_of_cell cG_1_18)).trans cG_1_18
  have cG_2_19 : w19.cell? ⟨w10.heap.size, 2, none⟩ = some (.slice AG nG cG) := (hb19.cell (block_lt_of_cell cG_2_18)).trans cG_2_18
  clear cG_0_18 cG_1_18 cG_2_18
  have SW_19 := SW_18.below hb19 (by omega)
  have SG_19 := SG_18.below hb19 (by omega)
  go_wp2_with fail; ((with_reducible refine (markFan_any sR aR (w8.heap.size + 1) w10.heap.size AG nG cG rsG (1) w19 (FG_10.same SG_19) (by omega) MG.out TG (by omega) (by omega) (by omega)).mono ?_); rintro e w20 ⟨rfl, FG_20, hb20⟩)
  have hc20 := hb20
  have z20 : w19.heap.size ≤ w20.heap.size := hc20.size
  have B20 : Below w.heap.size w w20 := below_chg B19 hc20 (by omega) B19.size
  have SW_20 := SW_19.chg hc20 (by omega) (Or.inl (by omega))
  have cP0_0_20 : w20.cell? ⟨w.heap.size, 0, none⟩ = some (.string s0) := hc20.cell cP0_0_19 (Or.inl (by first | (show w.heap.size < _; omega) | (show w.heap.size + _ < _; omega)))
  have cP0_1_20 : w20.cell? ⟨w.heap.size, 1, none⟩ = some (.int .i64 a0) := hc20.cell cP0_1_19 (Or.inl (by first | (show w.heap.size < _; omega) | (show w.heap.size + _ < _; omega)))
  have cP0_2_20 : w20.cell? ⟨w.heap.size, 2, none⟩ = some (.slice A0 n0 c0) := hc20.cell cP0_2_19 (Or.inl (by first | (show w.heap.size < _; omega) | (show w.heap.size + _ < _; omega)))
  clear cP0_0_19 cP0_1_19 cP0_2_19
  have cP1_0_20 : w20.cell? ⟨w.heap.size + 1, 0, none⟩ = some (.string s1) := hc20.cell cP1_0_19 (Or.inl (by first | (show w.heap.size < _; omega) | (show w.heap.size + _ < _; omega)))
  have cP1_1_20 : w20.cell? ⟨w.heap.size + 1, 1, none⟩ = some (.int .i64 a1) := hc20.cell cP1_1_19 (Or.inl (by first | (show w.heap.size < _; omega) | (show w.heap.size + _ < _; omega)))
  have cP1_2_20 : w20.cell? ⟨w.heap.size + 1, 2, none⟩ = some (.slice A1 n1 c1) := hc20.cell cP1_2_19 (Or.inl (by first | (show w.heap.size < _; omega) | (show w.heap.size + _ < _; omega)))
  clear cP1_0_19 cP1_1_19 cP1_2_19
  have cW_0_20 : w20.cell? ⟨gW, 0, none⟩ = some (Value.string sR) := hc20.cell cW_0_19 (Or.inl (by show gW < _; omega))
  have cW_1_20 : w20.cell? ⟨gW, 1, none⟩ = some (.int .i64 aR) := hc20.cell cW_1_19 (Or.inl (by show gW < _; omega))
  have cW_2_20 : w20.cell? ⟨gW, 2, none⟩ = some (.slice AW nG cW) := hc20.cell cW_2_19 (Or.inl (by show gW < _; omega))
  clear cW_0_19 cW_1_19 cW_2_19
  have cX0_0_20 : w20.cell? ⟨w6.heap.size, 0, none⟩ = some (.string s0) := hc20.cell cX0_0_19 (Or.inl (by show w6.heap.size < _; omega))
  have cX0_1_20 : w20.cell? ⟨w6.heap.size, 1, none⟩ = some (.int .i64 a0) := hc20.cell cX0_1_19 (Or.inl (by show w6.heap.size < _; omega))
  have cX0_2_20 : w20.cell? ⟨w6.heap.size, 2, none⟩ = some (.slice AX0 n0 n0) := hc20.cell cX0_2_19 (Or.inl (by show w6.heap.size < _; omega))
  clear cX0_0_19 cX0_1_19 cX0_2_19
  have cX1_0_20 : w20.cell? ⟨w8.heap.size, 0, none⟩ = some (.string s1) := hc20.cell cX1_0_19 (Or.inl (by show w8.heap.size < _; omega))
  have cX1_1_20 : w20.cell? ⟨w8.heap.size, 1, none⟩ = some (.int .i64 a1) := hc20.cell cX1_1_19 (Or.inl (by show w8.heap.size < _; omega))
  have cX1_2_20 : w20.cell? ⟨w8.heap.size, 2, none⟩ = some (.slice AX1 n1 n1) := hc20.cell cX1_2_19 (Or.inl (by show w8.heap.size < _; omega))
  clear cX1_0_19 cX1_1_19 cX1_2_19
  have cG_0_20 : w20.cell? ⟨w10.heap.size, 0, none⟩ = some (Value.string sR) := hc20.cell cG_0_19 (Or.inr (Nat.le_refl _))
  have cG_1_20 : w20.cell? ⟨w10.heap.size, 1, none⟩ = some (.int .i64 aR) := hc20.cell cG_1_19 (Or.inr (Nat.le_refl _))
  have cG_2_20 : w20.cell? ⟨w10.heap.size, 2, none⟩ = some (.slice AG nG cG) := hc20.cell cG_2_19 (Or.inr (Nat.le_refl _))
  clear cG_0_19 cG_1_19 cG_2_19
  have SG_20 := Same.refl (w8.heap.size + 1) w10.heap.size w20
  go_wp2_with fail; ((with_reducible refine (heldFan_any sR aR AG nG cG rsG 1 w20 (FG_20.same SG_20).reads (by omega) MG.out TG (by omega) (by omega)).mono ?_); rintro e w21 ⟨rfl, hb21⟩)
  have z21 : w20.heap.size ≤ w21.heap.size := hb21.size
  have B21 : Below w.heap.size w w21 := B20.trans (hb21.mono B20.size)
  have cP0_0_21 : w21.cell? ⟨w.heap.size, 0, none⟩ = some (.string s0) := (hb21.cell (block_lt_of_cell cP0_0_20)).trans cP0_0_20
  have cP0_1_21 : w21.cell? ⟨w.heap.size, 1, none⟩ = some (.int .i64 a0) := (hb21.cell (block_lt_of_cell cP0_1_20)).trans cP0_1_20
  have cP0_2_21 : w21.cell? ⟨w.heap.size, 2, none⟩ = some (.slice A0 n0 c0) := (hb21.cell (block_lt_of_cell cP0_2_20)).trans cP0_2_20
  clear cP0_0_20 cP0_1_20 cP0_2_20
  have cP1_0_21 : w21.cell? ⟨w.heap.size + 1, 0, none⟩ = some (.string s1) := (hb21.cell (block_lt_of_cell cP1_0_20)).trans cP1_0_20
  have cP1_1_21 : w21.cell? ⟨w.heap.size + 1, 1, none⟩ = some (.int .i64 a1) := (hb21.cell (block_lt_of_cell cP1_1_20)).trans cP1_1_20
  have cP1_2_21 : w21.cell? ⟨w.heap.size + 1, 2, none⟩ = some (.slice A1 n1 c1) := (hb21.cell (block_lt_of_cell cP1_2_20)).trans cP1_2_20
  clear cP1_0_20 cP1_1_20 cP1_2_20
  have cW_0_21 : w21.cell? ⟨gW, 0, none⟩ = some (Value.string sR) := (hb21.cell (block_lt_of_cell cW_0_20)).trans cW_0_20
  have cW_1_21 : w21.cell? ⟨gW, 1, none⟩ = some (.int .i64 aR) := (hb21.cell (block_lt_of_cell cW_1_20)).trans cW_1_20
  have cW_2_21 : w21.cell? ⟨gW, 2, none⟩ = some (.slice AW nG cW) := (hb21.cell (block_lt_of_cell cW_2_20)).trans cW_2_20
  clear cW_0_20 cW_1_20 cW_2_20
  have cX0_0_21 : w21.cell? ⟨w6.heap.size, 0, none⟩ = some (.string s0) := (hb21.cell (block_lt_of_cell cX0_0_20)).trans cX0_0_20
  have cX0_1_21 : w21.cell? ⟨w6.heap.size, 1, none⟩ = some (.int .i64 a0) := (hb21.cell (block_lt_of_cell cX0_1_20)).trans cX0_1_20
  have cX0_2_21 : w21.cell? ⟨w6.heap.size, 2, none⟩ = some (.slice AX0 n0 n0) := (hb21.cell (block_lt_of_cell cX0_2_20)).trans cX0_2_20
  clear cX0_0_20 cX0_1_20 cX0_2_20
  have cX1_0_21 : w21.cell? ⟨w8.heap.size, 0, none⟩ = some (.string s1) := (hb21.cell (block_lt_of_cell cX1_0_20)).trans cX1_0_20
  have cX1_1_21 : w21.cell? ⟨w8.heap.size, 1, none⟩ = some (.int .i64 a1) := (hb21.cell (block_lt_of_cell cX1_1_20)).trans cX1_1_20
  have cX1_2_21 : w21.cell? ⟨w8.heap.size, 2, none⟩ = some (.slice AX1 n1 n1) := (hb21.cell (block_lt_of_cell cX1_2_20)).trans cX1_2_20
  clear cX1_0_20 cX1_1_20 cX1_2_20
  have cG_0_21 : w21.cell? ⟨w10.heap.size, 0, none⟩ = some (Value.string sR) := (hb21.cell (block_lt_of_cell cG_0_20)).trans cG_0_20
  have cG_1_21 : w21.cell? ⟨w10.heap.size, 1, none⟩ = some (.int .i64 aR) := (hb21.cell (block_lt_of_cell cG_1_20)).trans cG_1_20
  have cG_2_21 : w21.cell? ⟨w10.heap.size, 2, none⟩ = some (.slice AG nG cG) := (hb21.cell (block_lt_of_cell cG_2_20)).trans cG_2_20
  clear cG_0_20 cG_1_20 cG_2_20
  have SW_21 := SW_20.below hb21 (by omega)
  have SG_21 := SG_20.below hb21 (by omega)
  go_upto_region 31 with (fail)
  have HTH0 : Hid (∀ W, Below w21.heap.size w21 W → Calls Try.prog 13 #[.agg #[.string s0, .int .i64 a0, .slice A0 n0 c0]] W fun e w' => ∃ A' rs', e = .returned (.agg #[.string s0, .int .i64 a0, .slice A' n0 n0]) ∧ RSS w' w'.heap.size A' n0 rs' ∧ Hid (dat rs' = dat xs0) ∧ Hid (∀ r ∈ rs', r.n ≤ 1048576) ∧ Below W.heap.size W w') := fun W hW =>
    (toFan_any s0 a0 A0 n0 c0 xs0 W ls0 ((hr0.below (B21.trans (hW.mono B21.size))).more (B21.trans (hW.mono B21.size)).size) hn0 hrn0.out).mono (by rintro e w' ⟨A', rs', he, ho, hD, hb⟩; exact ⟨A', rs', he, ho.reads, hD, bound_dat hr0 ho.reads hD hrn0.out, hb⟩)
  have HTH1 : Hid (∀ W, Below w21.heap.size w21 W → Calls Try.prog 13 #[.agg #[.string s1, .int .i64 a1, .slice A1 n1 c1]] W fun e w' => ∃ A' rs', e = .returned (.agg #[.string s1, .int .i64 a1, .slice A' n1 n1]) ∧ RSS w' w'.heap.size A' n1 rs' ∧ Hid (dat rs' = dat xs1) ∧ Hid (∀ r ∈ rs', r.n ≤ 1048576) ∧ Below W.heap.size W w') := fun W hW =>
    (toFan_any s1 a1 A1 n1 c1 xs1 W ls1 ((hr1.below (B21.trans (hW.mono B21.size))).more (B21.trans (hW.mono B21.size)).size) hn1 hrn1.out).mono (by rintro e w' ⟨A', rs', he, ho, hD, hb⟩; exact ⟨A', rs', he, ho.reads, hD, bound_dat hr1 ho.reads hD hrn1.out, hb⟩)
  have HSPH : Hid (∀ (W : World) (X0 : Option Addr) (rs0 : List Row) (X1 : Option Addr) (rs1 : List Row), RSS W W.heap.size X0 n0 rs0 → dat rs0 = dat xs0 → (∀ r ∈ rs0, r.n ≤ 1048576) → RSS W W.heap.size X1 n1 rs1 → dat rs1 = dat xs1 → (∀ r ∈ rs1, r.n ≤ 1048576) → Calls Try.prog 34 #[.agg #[.string s0, .int .i64 a0, .slice X0 n0 n0], .agg #[.string s1, .int .i64 a1, .slice X1 n1 n1]] W (fanRet W sR aR cR kR)) := fun W X0 rs0 X1 rs1 h0 d0 b0 h1 d1 b1 => by
    have cc := implFansInParallel_any s0 a0 X0 n0 n0 rs0 s1 a1 X1 n1 n1 rs1 W ls0 h0 hn0 b0 ls1 h1 hn1 b1
    rw [d0, d1, HkR.out, HsR.out, HaR.out, HcR.out] at cc
    exact cc
  have HSH : Hid (∀ W, Below w21.heap.size w21 W → W.cell? ⟨w.heap.size, 0, none⟩ = some (.string s0) ∧ W.cell? ⟨w.heap.size, 1, none⟩ = some (.int .i64 a0) ∧ W.cell? ⟨w.heap.size, 2, none⟩ = some (.slice A0 n0 c0) ∧ W.cell? ⟨w.heap.size + 1, 0, none⟩ = some (.string s1) ∧ W.cell? ⟨w.heap.size + 1, 1, none⟩ = some (.int .i64 a1) ∧ W.cell? ⟨w.heap.size + 1, 2, none⟩ = some (.slice A1 n1 c1)) := fun W hW => ⟨(hW.cell (block_lt_of_cell cP0_0_21)).trans cP0_0_21, (hW.cell (block_lt_of_cell cP0_1_21)).trans cP0_1_21, (hW.cell (block_lt_of_cell cP0_2_21)).trans cP0_2_21, (hW.cell (block_lt_of_cell cP1_0_21)).trans cP1_0_21, (hW.cell (block_lt_of_cell cP1_1_21)).trans cP1_1_21, (hW.cell (block_lt_of_cell cP1_2_21)).trans cP1_2_21⟩
  go_cut [15, 16] (fun s6 s7 wx => FanCut w21 sR aR cR kR s6 s7 wx)
  case first =>
    go_region_held3 (fun w' => w'.cell? ⟨w.heap.size, 0, none⟩ = some (.string s0) ∧ w'.cell? ⟨w.heap.size, 1, none⟩ = some (.int .i64 a0) ∧ w'.cell? ⟨w.heap.size, 2, none⟩ = some (.slice A0 n0 c0) ∧ w'.cell? ⟨w.heap.size + 1, 0, none⟩ = some (.string s1) ∧ w'.cell? ⟨w.heap.size + 1, 1, none⟩ = some (.int .i64 a1) ∧ w'.cell? ⟨w.heap.size + 1, 2, none⟩ = some (.slice A1 n1 c1))
      (first | go_keep | (with_reducible exact HSH.out _ B70) | (with_reducible exact HSH.out _ B60) | (with_reducible exact HSH.out _ B50) | (with_reducible exact HSH.out _ (B70.alloc B70.size _)) | (with_reducible exact HSH.out _ (B60.alloc B60.size _)) | (with_reducible exact HSH.out _ (B50.alloc B50.size _)) | (with_reducible exact HSH.out _ (((B70.setCell (p := ⟨w60.heap.size, 0, none⟩) (by first | exact Nat.le_refl _ | (simp; done) | (simp; omega) | omega) _).setCell (p := ⟨w60.heap.size, 1, none⟩) (by first | exact Nat.le_refl _ | (simp; done) | (simp; omega) | omega) _).setCell (p := ⟨w60.heap.size, 2, none⟩) (by first | exact Nat.le_refl _ | (simp; done) | (simp; omega) | omega) _)) | (with_reducible exact HSH.out _ (((B70.setCell (p := ⟨w50.heap.size, 0, none⟩) (by first | exact Nat.le_refl _ | (simp; done) | (simp; omega) | omega) _).setCell (p := ⟨w50.heap.size, 1, none⟩) (by first | exact Nat.le_refl _ | (simp; done) | (simp; omega) | omega) _).setCell (p := ⟨w50.heap.size, 2, none⟩) (by first | exact Nat.le_refl _ | (simp; done) | (simp; omega) | omega) _)) | (with_reducible exact HSH.out _ (((B70.setCell (p := ⟨w21.heap.size, 0, none⟩) (by first | exact Nat.le_refl _ | (simp; done) | (simp; omega) | omega) _).setCell (p := ⟨w21.heap.size, 1, none⟩) (by first | exact Nat.le_refl _ | (simp; done) | (simp; omega) | omega) _).setCell (p := ⟨w21.heap.size, 2, none⟩) (by first | exact Nat.le_refl _ | (simp; done) | (simp; omega) | omega) _)))
      ((first | (go_at_call_of 13 (Value.string s0); (with_reducible refine (HTH0.out _ (by repeat (first | exact Below.refl _ _ | assumption | (refine Below.drew ?_) | (refine below_drewN ?_ _) | (refine Below.alloc ?_ (by first | exact Nat.le_refl _ | (simp; done) | (simp; omega) | omega) _)))).mono ?_); rintro e w50 ⟨A50, rs50, rfl, R50, D50, M50, hb50⟩; have B50 : Below w21.heap.size w21 w50 := Below.trans (by repeat (first | exact Below.refl _ _ | assumption | (refine Below.drew ?_) | (refine below_drewN ?_ _) | (refine Below.alloc ?_ (by first | exact Nat.le_refl _ | (simp; done) | (simp; omega) | omega) _))) (hb50.mono (by first | exact Nat.le_refl _ | (simp; done) | (simp; omega) | omega)); have y50 := hb50.size; (try simp at y50)) | (go_at_call_of 13 (Value.string s1); (with_reducible refine (HTH1.out _ (by repeat (first | exact Below.refl _ _ | assumption | (refine Below.drew ?_) | (refine below_drewN ?_ _) | (refine Below.alloc ?_ (by first | exact Nat.le_refl _ | (simp; done) | (simp; omega) | omega) _)))).mono ?_); rintro e w60 ⟨A60, rs60, rfl, R60, D60, M60, hb60⟩; have B60 : Below w21.heap.size w21 w60 := Below.trans (by repeat (first | exact Below.refl _ _ | assumption | (refine Below.drew ?_) | (refine below_drewN ?_ _) | (refine Below.alloc ?_ (by first | exact Nat.le_refl _ | (simp; done) | (simp; omega) | omega) _))) (hb60.mono (by first | exact Nat.le_refl _ | (simp; done) | (simp; omega) | omega)); have y60 := hb60.size; (try simp at y60); have R56 : RSS w60 w60.heap.size A50 n0 rs50 := R50.to (Below.trans (by repeat (first | exact Below.refl _ _ | (refine Below.drew ?_) | (refine below_drewN ?_ _) | (refine Below.alloc ?_ (by first | exact Nat.le_refl _ | (simp; done) | (simp; omega) | omega) _))) (hb60.mono (by first | exact Nat.le_refl _ | (simp; done) | (simp; omega) | omega)))) | (go_at_call 34; (with_reducible refine (HSPH.out _ _ rs50 _ rs60 (R56.to (by repeat (first | exact Below.refl _ _ | (refine Below.drew ?_) | (refine below_drewN ?_ _) | (refine Below.alloc ?_ (by first | exact Nat.le_refl _ | (simp; done) | (simp; omega) | omega) _)))) D50.out M50.out (R60.to (by repeat (first | exact Below.refl _ _ | (refine Below.drew ?_) | (refine below_drewN ?_ _) | (refine Below.alloc ?_ (by first | exact Nat.le_refl _ | (simp; done) | (simp; omega) | omega) _)))) D60.out M60.out).mono ?_); rintro e w70 ⟨A70, n70, c70, rs70, rfl, o70, D70, hn70, M70, T70, hb70⟩; have B70 : Below w21.heap.size w21 w70 := Below.trans (by repeat (first | exact Below.refl _ _ | assumption | (refine Below.drew ?_) | (refine below_drewN ?_ _) | (refine Below.alloc ?_ (by first | exact Nat.le_refl _ | (simp; done) | (simp; omega) | omega) _))) (hb70.mono (by first | exact Nat.le_refl _ | (simp; done) | (simp; omega) | omega)); have y70 := hb70.size; (try simp at y70); have D70 := Lib.hid D70; have M70 := Lib.hid M70; (first | (have Kb : Blk w70 w60.heap.size 26 #[_, _, _] := ((Blk.new _ _ _).below hb70 (by first | exact Nat.le_refl _ | (simp; done) | (simp; omega) | omega)); have q0 := Kb.cell 0; have q1 := Kb.cell 1; have q2 := Kb.cell 2; have f0 := Kb.frozen 0; have f1 := Kb.frozen 1; have f2 := Kb.frozen 2; have Kb := Lib.hid Kb) | (have Kb : Blk w70 w50.heap.size 26 #[_, _, _] := (((Blk.new _ _ _).below hb60 (by first | exact Nat.le_refl _ | (simp; done) | (simp; omega) | omega)).below hb70 (by first | exact Nat.le_refl _ | (simp; done) | (simp; omega) | omega)); have q0 := Kb.cell 0; have q1 := Kb.cell 1; have q2 := Kb.cell 2; have f0 := Kb.frozen 0; have f1 := Kb.frozen 1; have f2 := Kb.frozen 2; have Kb := Lib.hid Kb) | (have Kb : Blk w70 w21.heap.size 26 #[_, _, _] := ((((Blk.new _ _ _).below hb50 (by first | exact Nat.le_refl _ | (simp; done) | (simp; omega) | omega)).below hb60 (by first | exact Nat.le_refl _ | (simp; done) | (simp; omega) | omega)).below hb70 (by first | exact Nat.le_refl _ | (simp; done) | (simp; omega) | omega)); have q0 := Kb.cell 0; have q1 := Kb.cell 1; have q2 := Kb.cell 2; have f0 := Kb.frozen 0; have f1 := Kb.frozen 1; have f2 := Kb.frozen 2; have Kb := Lib.hid Kb) | (have Kb : Blk w70 w21.heap.size 26 #[_, _, _] := ((((Blk.new _ _ _).drew.below hb50 (by first | exact Nat.le_refl _ | (simp; done) | (simp; omega) | omega)).below hb60 (by first | exact Nat.le_refl _ | (simp; done) | (simp; omega) | omega)).below hb70 (by first | exact Nat.le_refl _ | (simp; done) | (simp; omega) | omega)); have q0 := Kb.cell 0; have q1 := Kb.cell 1; have q2 := Kb.cell 2; have f0 := Kb.frozen 0; have f1 := Kb.frozen 1; have f2 := Kb.frozen 2; have Kb := Lib.hid Kb) | skip))))
    all_goals (go_wp2_with fail; go_meet; first | exact fanCut_new o70 (by first | exact Nat.le_refl _ | (simp; done) | (simp; omega) | omega) D70.out hn70 M70.out T70 B70 | exact fanCut_set Kb.out (by first | exact Nat.le_refl _ | (simp; done) | (simp; omega) | omega) (by first | exact Nat.le_refl _ | (simp; done) | (simp; omega) | omega) o70 D70.out hn70 M70.out T70 B70)
  obtain ⟨gH, AH, nH, cH, rsH, rfl, rfl, hgH, cH_0_22, cH_1_22, cH_2_22, oH, DH, hnH, MH', TH, hb22⟩ := hcut
  obtain ⟨w22, rfl⟩ : ∃ q : World, q = wc := ⟨_, rfl⟩
  clear HTH0 HTH1 HSPH HSH
  have z22 : w21.heap.size ≤ w22.heap.size := hb22.size
  have B22 : Below w.heap.size w w22 := B21.trans (hb22.mono B21.size)
  have cP0_0_22 : w22.cell? ⟨w.heap.size, 0, none⟩ = some (.string s0) := (hb22.cell (block_lt_of_cell cP0_0_21)).trans cP0_0_21
  have cP0_1_22 : w22.cell? ⟨w.heap.size, 1, none⟩ = some (.int .i64 a0) := (hb22.cell (block_lt_of_cell cP0_1_21)).trans cP0_1_21
  have cP0_2_22 : w22.cell? ⟨w.heap.size, 2, none⟩ = some (.slice A0 n0 c0) := (hb22.cell (block_lt_of_cell cP0_2_21)).trans cP0_2_21
  clear cP0_0_21 cP0_1_21 cP0_2_21
  have cP1_0_22 : w22.cell? ⟨w.heap.size + 1, 0, none⟩ = some (.string s1) := (hb22.cell (block_lt_of_cell cP1_0_21)).trans cP1_0_21
  have cP1_1_22 : w22.cell? ⟨w.heap.size + 1, 1, none⟩ = some (.int .i64 a1) := (hb22.cell (block_lt_of_cell cP1_1_21)).trans cP1_1_21
  have cP1_2_22 : w22.cell? ⟨w.heap.size + 1, 2, none⟩ = some (.slice A1 n1 c1) := (hb22.cell (block_lt_of_cell cP1_2_21)).trans cP1_2_21
  clear cP1_0_21 cP1_1_21 cP1_2_21
  have cW_0_22 : w22.cell? ⟨gW, 0, none⟩ = some (Value.string sR) := (hb22.cell (block_lt_of_cell cW_0_21)).trans cW_0_21
  have cW_1_22 : w22.cell? ⟨gW, 1, none⟩ = some (.int .i64 aR) := (hb22.cell (block_lt_of_cell cW_1_21)).trans cW_1_21
  have cW_2_22 : w22.cell? ⟨gW, 2, none⟩ = some (.slice AW nG cW) := (hb22.cell (block_lt_of_cell cW_2_21)).trans cW_2_21
  clear cW_0_21 cW_1_21 cW_2_21
  have cX0_0_22 : w22.cell? ⟨w6.heap.size, 0, none⟩ = some (.string s0) := (hb22.cell (block_lt_of_cell cX0_0_21)).trans cX0_0_21
  have cX0_1_22 : w22.cell? ⟨w6.heap.size, 1, none⟩ = some (.int .i64 a0) := (hb22.cell (block_lt_of_cell cX0_1_21)).trans cX0_1_21
  have cX0_2_22 : w22.cell? ⟨w6.heap.size, 2, none⟩ = some (.slice AX0 n0 n0) := (hb22.cell (block_lt_of_cell cX0_2_21)).trans cX0_2_21
  clear cX0_0_21 cX0_1_21 cX0_2_21
  have cX1_0_22 : w22.cell? ⟨w8.heap.size, 0, none⟩ = some (.string s1) := (hb22.cell (block_lt_of_cell cX1_0_21)).trans cX1_0_21
  have cX1_1_22 : w22.cell? ⟨w8.heap.size, 1, none⟩ = some (.int .i64 a1) := (hb22.cell (block_lt_of_cell cX1_1_21)).trans cX1_1_21
  have cX1_2_22 : w22.cell? ⟨w8.heap.size, 2, none⟩ = some (.slice AX1 n1 n1) := (hb22.cell (block_lt_of_cell cX1_2_21)).trans cX1_2_21
  clear cX1_0_21 cX1_1_21 cX1_2_21
  have cG_0_22 : w22.cell? ⟨w10.heap.size, 0, none⟩ = some (Value.string sR) := (hb22.cell (block_lt_of_cell cG_0_21)).trans cG_0_21
  have cG_1_22 : w22.cell? ⟨w10.heap.size, 1, none⟩ = some (.int .i64 aR) := (hb22.cell (block_lt_of_cell cG_1_21)).trans cG_1_21
  have cG_2_22 : w22.cell? ⟨w10.heap.size, 2, none⟩ = some (.slice AG nG cG) := (hb22.cell (block_lt_of_cell cG_2_21)).trans cG_2_21
  clear cG_0_21 cG_1_21 cG_2_21
  have SW_22 := SW_21.below hb22 (by omega)
  have SG_22 := SG_21.below hb22 (by omega)
  have FH_22 := oss_mk oH
  have MH := Lib.hid MH'
  clear MH'
  have TNH := tot_nonneg rsH
  have HDH := Lib.hid DH
  clear DH
  have SH_22 := Same.refl w21.heap.size w22.heap.size w22
  obtain rfl : nH = nG := by have h1 := FH_22.reads.len; have h2 := FW_5.reads.len; have h3 := dat_len rsH; have h4 := dat_len rsW; rw [HDH.out] at h3; rw [HDW.out] at h4; omega
  go_wp2_with fail; ((with_reducible refine (eqFan_b sR aR _ _ nH cH cW rsH rsW _ (FH_22.same SH_22).reads (FW_5.same SW_22).reads (HDH.out.trans HDW.out.symm) (by omega) (fun r hr => Nat.le_trans (MH.out r hr) (by omega))).mono ?_); rintro e w23 ⟨rfl, hb23⟩)
  have z23 : w22.heap.size ≤ w23.heap.size := hb23.size
  have B23 : Below w.heap.size w w23 := B22.trans (hb23.mono B22.size)
  have cP0_0_23 : w23.cell? ⟨w.heap.size, 0, none⟩ = some (.string s0) := (hb23.cell (block_lt_of_cell cP0_0_22)).trans cP0_0_22
  have cP0_1_23 : w23.cell? ⟨w.heap.size, 1, none⟩ = some (.int .i64 a0) := (hb23.cell (block_lt_of_cell cP0_1_22)).trans cP0_1_22
  have cP0_2_23 : w23.cell? ⟨w.heap.size, 2, none⟩ = some (.slice A0 n0 c0) := (hb23.cell (block_lt_of_cell cP0_2_22)).trans cP0_2_22
  clear cP0_0_22 cP0_1_22 cP0_2_22
  have cP1_0_23 : w23.cell? ⟨w.heap.size + 1, 0, none⟩ = some (.string s1) := (hb23.cell (block_lt_of_cell cP1_0_22)).trans cP1_0_22
  have cP1_1_23 : w23.cell? ⟨w.heap.size + 1, 1, none⟩ = some (.int .i64 a1) := (hb23.cell (block_lt_of_cell cP1_1_22)).trans cP1_1_22
  have cP1_2_23 : w23.cell? ⟨w.heap.size + 1, 2, none⟩ = some (.slice A1 n1 c1) := (hb23.cell (block_lt_of_cell cP1_2_22)).trans cP1_2_22
  clear cP1_0_22 cP1_1_22 cP1_2_22
  have cW_0_23 : w23.cell? ⟨gW, 0, none⟩ = some (Value.string sR) := (hb23.cell (block_lt_of_cell cW_0_22)).trans cW_0_22
  have cW_1_23 : w23.cell? ⟨gW, 1, none⟩ = some (.int .i64 aR) := (hb23.cell (block_lt_of_cell cW_1_22)).trans cW_1_22
  have cW_2_23 : w23.cell? ⟨gW, 2, none⟩ = some (.slice AW nH cW) := (hb23.cell (block_lt_of_cell cW_2_22)).trans cW_2_22
  clear cW_0_22 cW_1_22 cW_2_22
  have cX0_0_23 : w23.cell? ⟨w6.heap.size, 0, none⟩ = some (.string s0) := (hb23.cell (block_lt_of_cell cX0_0_22)).trans cX0_0_22
  have cX0_1_23 : w23.cell? ⟨w6.heap.size, 1, none⟩ = some (.int .i64 a0) := (hb23.cell (block_lt_of_cell cX0_1_22)).trans cX0_1_22
  have cX0_2_23 : w23.cell? ⟨w6.heap.size, 2, none⟩ = some (.slice AX0 n0 n0) := (hb23.cell (block_lt_of_cell cX0_2_22)).trans cX0_2_22
  clear cX0_0_22 cX0_1_22 cX0_2_22
  have cX1_0_23 : w23.cell? ⟨w8.heap.size, 0, none⟩ = some (.string s1) := (hb23.cell (block_lt_of_cell cX1_0_22)).trans cX1_0_22
  have cX1_1_23 : w23.cell? ⟨w8.heap.size, 1, none⟩ = some (.int .i64 a1) := (hb23.cell (block_lt_of_cell cX1_1_22)).trans cX1_1_22
  have cX1_2_23 : w23.cell? ⟨w8.heap.size, 2, none⟩ = some (.slice AX1 n1 n1) := (hb23.cell (block_lt_of_cell cX1_2_22)).trans cX1_2_22
  clear cX1_0_22 cX1_1_22 cX1_2_22
  have cG_0_23 : w23.cell? ⟨w10.heap.size, 0, none⟩ = some (Value.string sR) := (hb23.cell (block_lt_of_cell cG_0_22)).trans cG_0_22
  have cG_1_23 : w23.cell? ⟨w10.heap.size, 1, none⟩ = some (.int .i64 aR) := (hb23.cell (block_lt_of_cell cG_1_22)).trans cG_1_22
  have cG_2_23 : w23.cell? ⟨w10.heap.size, 2, none⟩ = some (.slice AG nH cG) := (hb23.cell (block_lt_of_cell cG_2_22)).trans cG_2_22
  clear cG_0_22 cG_1_22 cG_2_22
  have cH_0_23 : w23.cell? ⟨gH, 0, none⟩ = some (Value.string sR) := (hb23.cell (block_lt_of_cell cH_0_22)).trans cH_0_22
  have cH_1_23 : w23.cell? ⟨gH, 1, none⟩ = some (.int .i64 aR) := (hb23.cell (block_lt_of_cell cH_1_22)).trans cH_1_22
  have cH_2_23 : w23.cell? ⟨gH, 2, none⟩ = some (.slice AH nH cH) := (hb23.cell (block_lt_of_cell cH_2_22)).trans cH_2_22
  clear cH_0_22 cH_1_22 cH_2_22
  have SW_23 := SW_22.below hb23 (by omega)
  have SG_23 := SG_22.below hb23 (by omega)
  have SH_23 := SH_22.below hb23 (by omega)
  go_wp2_with fail; ((with_reducible refine (heldFan_any sR aR AG nH cG rsG 1 w23 (FG_20.same SG_23).reads (by omega) MG.out TG (by omega) (by omega)).mono ?_); rintro e w24 ⟨rfl, hb24⟩)
  have z24 : w23.heap.size ≤ w24.heap.size := hb24.size
  have B24 : Below w.heap.size w w24 := B23.trans (hb24.mono B23.size)
  have cP0_0_24 : w24.cell? ⟨w.heap.size, 0, none⟩ = some (.string s0) := (hb24.cell (block_lt_of_cell cP0_0_23)).trans cP0_0_23
  have cP0_1_24 : w24.cell? ⟨w.heap.size, 1, none⟩ = some (.int .i64 a0) := (hb24.cell (block_lt_of_cell cP0_1_23)).trans cP0_1_23
  have cP0_2_24 : w24.cell? ⟨w.heap.size, 2, none⟩ = some (.slice A0 n0 c0) := (hb24.cell (block_lt_of_cell cP0_2_23)).trans cP0_2_23
  clear cP0_0_23 cP0_1_23 cP0_2_23
  have cP1_0_24 : w24.cell? ⟨w.heap.size + 1, 0, none⟩ = some (.string s1) := (hb24.cell (block_lt_of_cell cP1_0_23)).trans cP1_0_23
  have cP1_1_24 : w24.cell? ⟨w.heap.size + 1, 1, none⟩ = some (.int .i64 a1) := (hb24.cell (block_lt_of_cell cP1_1_23)).trans cP1_1_23
  have cP1_2_24 : w24.cell? ⟨w.heap.size + 1, 2, none⟩ = some (.slice A1 n1 c1) := (hb24.cell (block_lt_of_cell cP1_2_23)).trans cP1_2_23
  clear cP1_0_23 cP1_1_23 cP1_2_23
  have cW_0_24 : w24.cell? ⟨gW, 0, none⟩ = some (Value.string sR) := (hb24.cell (block_lt_of_cell cW_0_23)).trans cW_0_23
  have cW_1_24 : w24.cell? ⟨gW, 1, none⟩ = some (.int .i64 aR) := (hb24.cell (block_lt_of_cell cW_1_23)).trans cW_1_23
  have cW_2_24 : w24.cell? ⟨gW, 2, none⟩ = some (.slice AW nH cW) := (hb24.cell (block_lt_of_cell cW_2_23)).trans cW_2_23
  clear cW_0_23 cW_1_23 cW_2_23
  have cX0_0_24 : w24.cell? ⟨w6.heap.size, 0, none⟩ = some (.string s0) := (hb24.cell (block_lt_of_cell cX0_0_23)).trans cX0_0_23
  have cX0_1_24 : w24.cell? ⟨w6.heap.size, 1, none⟩ = some (.int .i64 a0) := (hb24.cell (block_lt_of_cell cX0_1_23)).trans cX0_1_23
  have cX0_2_24 : w24.cell? ⟨w6.heap.size, 2, none⟩ = some (.slice AX0 n0 n0) := (hb24.cell (block_lt_of_cell cX0_2_23)).trans cX0_2_23
  clear cX0_0_23 cX0_1_23 cX0_2_23
  have cX1_0_24 : w24.cell? ⟨w8.heap.size, 0, none⟩ = some (.string s1) := (hb24.cell (block_lt_of_cell cX1_0_23)).trans cX1_0_23
  have cX1_1_24 : w24.cell? ⟨w8.heap.size, 1, none⟩ = some (.int .i64 a1) := (hb24.cell (block_lt_of_cell cX1_1_23)).trans cX1_1_23
  have cX1_2_24 : w24.cell? ⟨w8.heap.size, 2, none⟩ = some (.slice AX1 n1 n1) := (hb24.cell (block_lt_of_cell cX1_2_23)).trans cX1_2_23
  clear cX1_0_23 cX1_1_23 cX1_2_23
  have cG_0_24 : w24.cell? ⟨w10.heap.size, 0, none⟩ = some (Value.string sR) := (hb24.cell (block_lt_of_cell cG_0_23)).trans cG_0_23
  have cG_1_24 : w24.cell? ⟨w10.heap.size, 1, none⟩ = some (.int .i64 aR) := (hb24.cell (block_lt_of_cell cG_1_23)).trans cG_1_23
  have cG_2_24 : w24.cell? ⟨w10.heap.size, 2, none⟩ = some (.slice AG nH cG) := (hb24.cell (block_lt_of_cell cG_2_23)).trans cG_2_23
  clear cG_0_23 cG_1_23 cG_2_23
  have cH_0_24 : w24.cell? ⟨gH, 0, none⟩ = some (Value.string sR) := (hb24.cell (block_lt_of_cell cH_0_23)).trans cH_0_23
  have cH_1_24 : w24.cell? ⟨gH, 1, none⟩ = some (.int .i64 aR) := (hb24.cell (block_lt_of_cell cH_1_23)).trans cH_1_23
  have cH_2_24 : w24.cell? ⟨gH, 2, none⟩ = some (.slice AH nH cH) := (hb24.cell (block_lt_of_cell cH_2_23)).trans cH_2_23
  clear cH_0_23 cH_1_23 cH_2_23
  have SW_24 := SW_23.below hb24 (by omega)
  have SG_24 := SG_23.below hb24 (by omega)
  have SH_24 := SH_23.below hb24 (by omega)
  go_wp2
  go_ret
  exact ⟨rfl, B24⟩

set_option maxRecDepth 100000 in
theorem lifted (os : Os) (started : os.Started) (H : Type) (enc : TypeId × Value → H) :
    ReturnsInHanded {} Try.checked os 10 .any (Rows.fnExactFansInParallelSpec.pre6 enc Try.prog Try.f10 Rows.fnExactFansInParallelRow.domain false) (Rows.fnExactFansInParallelSpec.post enc Try.prog Try.f10 false true false false) := by
  refine returnsInHanded_of_change (C := Try.checked) own_ started (by kernel_rfl) Try.func10
    (ChangeSpec.witness6 (enc := enc) (C := Try.checked) false ⟨#[], #[.agg #[.string ByteArray.empty, .int .i64 0, .slice none 0 0], .agg #[.string ByteArray.empty, .int .i64 0, .slice none 0 0]], []⟩ 12 (by kernel_rfl) (by kernel_rfl) (by kernel_rfl) (by kernel_rfl)) ?_
  intro W base args ds gs before hval0 hW hcnd _
  have hval : ∀ (j : Nat) t v, Try.f10.params[j]? = some t → args[j]? = some v → Value.okWide Try.prog W .any base t v := hval0
  have hW' := hW
  obtain ⟨p, q, hA0, hV, rfl, hfz, hnd⟩ := hW
  have hA : DataW.TrodAll enc Try.prog W 0 (fun _ => true) true Try.f10.params.toList args.toList ds p := hA0
  rw [Try.params10] at hA hval
  obtain ⟨v0, vs0, d0, ds0, p0, q0, hargs, rfl, rfl, h0, r0⟩ := trodAll_cons hA
  obtain ⟨v1, vs1, d1, ds1, p1, q1, rfl, rfl, rfl, h1, r1⟩ := trodAll_cons r0
  obtain ⟨rfl, rfl, rfl⟩ := trodAll_nil r1
  obtain rfl : args = #[v0, v1] := by cases args; simp_all
  obtain ⟨rfl, rfl⟩ := trodVars_none hV
  obtain ⟨s0, a0, A0, n0, c0, xs0, rfl, ls0, lc0, gc0, hr0, hm0⟩ := op_fan Try.underlying24 (by kernel_rfl) (by kernel_rfl) Try.underlying9 Try.underlying2 Try.underlying22 Try.underlying53 Try.underlying2 (by kernel_rfl) (by kernel_rfl) (hval 0 24 v0 rfl rfl) h0
  obtain ⟨s1, a1, A1, n1, c1, xs1, rfl, ls1, lc1, gc1, hr1, hm1⟩ := op_fan Try.underlying24 (by kernel_rfl) (by kernel_rfl) Try.underlying9 Try.underlying2 Try.underlying22 Try.underlying53 Try.underlying2 (by kernel_rfl) (by kernel_rfl) (hval 1 24 v1 rfl rfl) h1
  clear hA0 hval0
  refine (walk s0 a0 A0 n0 c0 xs0 ls0 lc0 gc0 s1 a1 A1 n1 c1 xs1 ls1 lc1 gc1 W hr0 hm0 hr1 hm1).mono fun e W' ⟨he, hb⟩ => ?_
  subst he
  exact ⟨_, rfl, law_post laidOut_ (by kernel_rfl) rfl rfl Try.underlying4 hW' rfl hb⟩

theorem over : Rows.fnExactFansInParallelRow.holds Try.pinned (OpenSpec.ofChange Rows.fnExactFansInParallelSpec) :=
  OpenClaim.holds_of_wide 10 Try.f10 rfl rfl rfl rfl rfl rfl rfl ⟨rfl, rfl, rfl, rfl, rfl⟩ rfl rfl rfl rfl rfl (by kernel_rfl) Try.func10 (by kernel_rfl)
    (of_decide_eq_true (by kernel_rfl)) (by unfold Func.isWrapper; first | (rw [if_pos (by decide +kernel)]; kernel_rfl) | (rw [if_neg (by decide +kernel)]; exact ⟨rfl, rfl⟩))
    (fun os started H enc _ => lifted os started H enc)

/-- The statement. -/
theorem proved : Rows.FnExactFansInParallelSaid := over
#print axioms proved
end Go.Proofs.Ytapophggndlhaaa.lFansInParallel
