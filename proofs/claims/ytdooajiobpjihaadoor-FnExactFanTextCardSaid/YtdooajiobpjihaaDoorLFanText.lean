/- The law FnExactFanText: for all arguments the program's FanText and the reference's return the same; no condition. -/
import Derived.Test.YtdooajiobpjihaaDoorFrame
import Derived.Test.YtdooajiobpjihaaDoorOwn
import Derived.Test.YtdooajiobpjihaaDoorFrN
import Derived.Test.YtdooajiobpjihaaDoorFanH
import Derived.Test.YtdooajiobpjihaaDoorFnT
import Derived.Test.YtdooajiobpjihaaDoorTie
import Derived.Test.YtdooajiobpjihaaDoorCards
import Derived.ProofKit
import Derived.LaidMore
import Derived.OpenShut
import Derived.SevenTiedAt
import Derived.Stop.Joined
namespace Go.Proofs.YtdooajiobpjihaaDoor.lFanText
set_option linter.unusedVariables false
set_option linter.unusedSimpArgs false
open Go.ChangeShapes Go.WideShapes Go.ChangeAt Go.RowKit
set_option maxHeartbeats 4000000 in
set_option maxRecDepth 100000 in
theorem walk (s0 : ByteArray) (a0 : Int) (A0 : Option Addr) (n0 c0 : Nat) (xs0 : List Row) (ls0 : s0.size ≤ maxLen) (lc0 : n0 ≤ c0) (gc0 : c0 ≤ maxLen) (w : World) (hr0 : RSS w w.heap.size A0 n0 xs0) (hm0 : ∀ r ∈ xs0, r.n ≤ maxLen) (ht : Pow w) :
    Calls Tryd.prog 5 #[.agg #[.string s0, .int .i64 a0, .slice A0 n0 c0]] w fun e w' => e = .returned (.bool true) ∧ Below w.heap.size w w' := by
  have HTP := Lib.hid (fun W (hb : Below w.heap.size w W) => pow_below ht hb)
  clear ht
  have HM0 := Lib.hid hm0
  clear hm0
  have t0 := tot_nonneg xs0
  by_cases hN0 : 1048576 < ((s0.size : Int) + ((n0 : Int) + tot xs0))
  ·  -- too large
    have HN0 := Lib.hid hN0
    have z1 : w.heap.size + 1 ≤ (w.alloc (.cells #[.string s0, .int .i64 a0, .slice A0 n0 c0] 35)).heap.size := by simp
    have B1 : Below w.heap.size w (w.alloc (.cells #[.string s0, .int .i64 a0, .slice A0 n0 c0] 35)) := (Below.refl _ _).alloc (Nat.le_refl _) _
    have cP0_0_1 : (w.alloc (.cells #[.string s0, .int .i64 a0, .slice A0 n0 c0] 35)).cell? ⟨w.heap.size, 0, none⟩ = some (.string s0) := ((Blk.new w 35 #[.string s0, .int .i64 a0, .slice A0 n0 c0]).cell 0).trans rfl
    have cP0_1_1 : (w.alloc (.cells #[.string s0, .int .i64 a0, .slice A0 n0 c0] 35)).cell? ⟨w.heap.size, 1, none⟩ = some (.int .i64 a0) := ((Blk.new w 35 #[.string s0, .int .i64 a0, .slice A0 n0 c0]).cell 1).trans rfl
    have cP0_2_1 : (w.alloc (.cells #[.string s0, .int .i64 a0, .slice A0 n0 c0] 35)).cell? ⟨w.heap.size, 2, none⟩ = some (.slice A0 n0 c0) := ((Blk.new w 35 #[.string s0, .int .i64 a0, .slice A0 n0 c0]).cell 2).trans rfl
    go_enter Tryd.func5, Tryd.ntmps5
    have sc0 := szFan_any s0 a0 A0 n0 c0 xs0 (1048576) (w.alloc (.cells #[.string s0, .int .i64 a0, .slice A0 n0 c0] 35)) ls0 ((hr0.below B1).more B1.size) (by omega) (by omega) (by omega) HM0.out
    rw [szI_n (l := 1048576) (s := ((s0.size : Int) + ((n0 : Int) + tot xs0))) (by omega)] at sc0
    go_wp2_with fail; ((with_reducible refine sc0.mono ?_); rintro e w2 ⟨rfl, hb2⟩)
    clear sc0
    have z2 : (w.alloc (.cells #[.string s0, .int .i64 a0, .slice A0 n0 c0] 35)).heap.size ≤ w2.heap.size := hb2.size
    have B2 : Below w.heap.size w w2 := B1.trans (hb2.mono B1.size)
    have cP0_0_2 : w2.cell? ⟨w.heap.size, 0, none⟩ = some (.string s0) := (hb2.cell (block_lt_of_cell cP0_0_1)).trans cP0_0_1
    have cP0_1_2 : w2.cell? ⟨w.heap.size, 1, none⟩ = some (.int .i64 a0) := (hb2.cell (block_lt_of_cell cP0_1_1)).trans cP0_1_1
    have cP0_2_2 : w2.cell? ⟨w.heap.size, 2, none⟩ = some (.slice A0 n0 c0) := (hb2.cell (block_lt_of_cell cP0_2_1)).trans cP0_2_1
    clear cP0_0_1 cP0_1_1 cP0_2_1
    go_wp2
    go_ret
    exact ⟨rfl, B2⟩
  have HY0 := Lib.hid hN0
  have hn0 : n0 ≤ 1048576 := by omega
  have hrn0 : Hid (∀ r ∈ xs0, r.n ≤ 1048576) := fun r hr => by have := tot_mem hr; omega
  have z1 : w.heap.size + 1 ≤ (w.alloc (.cells #[.string s0, .int .i64 a0, .slice A0 n0 c0] 35)).heap.size := by simp
  have B1 : Below w.heap.size w (w.alloc (.cells #[.string s0, .int .i64 a0, .slice A0 n0 c0] 35)) := (Below.refl _ _).alloc (Nat.le_refl _) _
  have cP0_0_1 : (w.alloc (.cells #[.string s0, .int .i64 a0, .slice A0 n0 c0] 35)).cell? ⟨w.heap.size, 0, none⟩ = some (.string s0) := ((Blk.new w 35 #[.string s0, .int .i64 a0, .slice A0 n0 c0]).cell 0).trans rfl
  have cP0_1_1 : (w.alloc (.cells #[.string s0, .int .i64 a0, .slice A0 n0 c0] 35)).cell? ⟨w.heap.size, 1, none⟩ = some (.int .i64 a0) := ((Blk.new w 35 #[.string s0, .int .i64 a0, .slice A0 n0 c0]).cell 1).trans rfl
  have cP0_2_1 : (w.alloc (.cells #[.string s0, .int .i64 a0, .slice A0 n0 c0] 35)).cell? ⟨w.heap.size, 2, none⟩ = some (.slice A0 n0 c0) := ((Blk.new w 35 #[.string s0, .int .i64 a0, .slice A0 n0 c0]).cell 2).trans rfl
  go_enter Tryd.func5, Tryd.ntmps5
  have sc0 := szFan_any s0 a0 A0 n0 c0 xs0 (1048576) (w.alloc (.cells #[.string s0, .int .i64 a0, .slice A0 n0 c0] 35)) ls0 ((hr0.below B1).more B1.size) (by omega) (by omega) (by omega) HM0.out
  rw [szI_y (l := 1048576) (s := ((s0.size : Int) + ((n0 : Int) + tot xs0))) (by omega)] at sc0
  go_wp2_with fail; ((with_reducible refine sc0.mono ?_); rintro e w2 ⟨rfl, hb2⟩)
  clear sc0
  have z2 : (w.alloc (.cells #[.string s0, .int .i64 a0, .slice A0 n0 c0] 35)).heap.size ≤ w2.heap.size := hb2.size
  have B2 : Below w.heap.size w w2 := B1.trans (hb2.mono B1.size)
  have cP0_0_2 : w2.cell? ⟨w.heap.size, 0, none⟩ = some (.string s0) := (hb2.cell (block_lt_of_cell cP0_0_1)).trans cP0_0_1
  have cP0_1_2 : w2.cell? ⟨w.heap.size, 1, none⟩ = some (.int .i64 a0) := (hb2.cell (block_lt_of_cell cP0_1_1)).trans cP0_1_1
  have cP0_2_2 : w2.cell? ⟨w.heap.size, 2, none⟩ = some (.slice A0 n0 c0) := (hb2.cell (block_lt_of_cell cP0_2_1)).trans cP0_2_1
  clear cP0_0_1 cP0_1_1 cP0_2_1
  go_wp2_with fail; ((with_reducible refine (toFan_any s0 a0 A0 n0 c0 xs0 _ ls0 ((hr0.below B2).more B2.size) hn0 hrn0.out).mono ?_); rintro e w3 ⟨AS0, rsS0, rfl, oS0, DS0, hb3⟩)
  have z3 : w2.heap.size ≤ w3.heap.size := hb3.size
  have B3 : Below w.heap.size w w3 := B2.trans (hb3.mono B2.size)
  have cP0_0_3 : w3.cell? ⟨w.heap.size, 0, none⟩ = some (.string s0) := (hb3.cell (block_lt_of_cell cP0_0_2)).trans cP0_0_2
  have cP0_1_3 : w3.cell? ⟨w.heap.size, 1, none⟩ = some (.int .i64 a0) := (hb3.cell (block_lt_of_cell cP0_1_2)).trans cP0_1_2
  have cP0_2_3 : w3.cell? ⟨w.heap.size, 2, none⟩ = some (.slice A0 n0 c0) := (hb3.cell (block_lt_of_cell cP0_2_2)).trans cP0_2_2
  clear cP0_0_2 cP0_1_2 cP0_2_2
  have FS0_3 := oss_mk oS0
  have MS0 := Lib.hid (bound_dat hr0 FS0_3.reads DS0 hrn0.out)
  have HDS0 := Lib.hid DS0
  clear DS0
  have SS0_3 := Same.refl w2.heap.size w3.heap.size w3
  have cc4 := specFanText_any s0 a0 AS0 n0 n0 rsS0 w3 ls0 (FS0_3.same SS0_3).reads hn0 MS0.out
  rw [HDS0.out] at cc4
  go_wp2_with fail; ((with_reducible refine (cc4).mono ?_); rintro e w4 ⟨rfl, hb4⟩)
  have z4 : w3.heap.size ≤ w4.heap.size := hb4.size
  have B4 : Below w.heap.size w w4 := B3.trans (hb4.mono B3.size)
  have cP0_0_4 : w4.cell? ⟨w.heap.size, 0, none⟩ = some (.string s0) := (hb4.cell (block_lt_of_cell cP0_0_3)).trans cP0_0_3
  have cP0_1_4 : w4.cell? ⟨w.heap.size, 1, none⟩ = some (.int .i64 a0) := (hb4.cell (block_lt_of_cell cP0_1_3)).trans cP0_1_3
  have cP0_2_4 : w4.cell? ⟨w.heap.size, 2, none⟩ = some (.slice A0 n0 c0) := (hb4.cell (block_lt_of_cell cP0_2_3)).trans cP0_2_3
  clear cP0_0_3 cP0_1_3 cP0_2_3
  have SS0_4 := SS0_3.below hb4 (by omega)
  clear cc4
  go_wp2_with fail; ((with_reducible refine (toFan_any s0 a0 A0 n0 c0 xs0 _ ls0 ((hr0.below B4).more B4.size) hn0 hrn0.out).mono ?_); rintro e w5 ⟨AX0, rsX0, rfl, oX0, DX0, hb5⟩)
  have z5 : w4.heap.size ≤ w5.heap.size := hb5.size
  have B5 : Below w.heap.size w w5 := B4.trans (hb5.mono B4.size)
  have cP0_0_5 : w5.cell? ⟨w.heap.size, 0, none⟩ = some (.string s0) := (hb5.cell (block_lt_of_cell cP0_0_4)).trans cP0_0_4
  have cP0_1_5 : w5.cell? ⟨w.heap.size, 1, none⟩ = some (.int .i64 a0) := (hb5.cell (block_lt_of_cell cP0_1_4)).trans cP0_1_4
  have cP0_2_5 : w5.cell? ⟨w.heap.size, 2, none⟩ = some (.slice A0 n0 c0) := (hb5.cell (block_lt_of_cell cP0_2_4)).trans cP0_2_4
  clear cP0_0_4 cP0_1_4 cP0_2_4
  have FX0_5 := oss_mk oX0
  have MX0 := Lib.hid (bound_dat hr0 FX0_5.reads DX0 hrn0.out)
  have HDX0 := Lib.hid DX0
  clear DX0
  have SX0_5 := Same.refl w4.heap.size w5.heap.size w5
  -- its box
  have z6 : w5.heap.size + 1 ≤ (w5.alloc (.cells #[.string s0, .int .i64 a0, .slice AX0 n0 n0] 38)).heap.size := by simp
  have B6 : Below w.heap.size w (w5.alloc (.cells #[.string s0, .int .i64 a0, .slice AX0 n0 n0] 38)) := B5.alloc B5.size _
  have cP0_0_6 : (w5.alloc (.cells #[.string s0, .int .i64 a0, .slice AX0 n0 n0] 38)).cell? ⟨w.heap.size, 0, none⟩ = some (.string s0) := (World.cell?_alloc_lt _ _ _ (block_lt_of_cell cP0_0_5)).trans cP0_0_5
  have cP0_1_6 : (w5.alloc (.cells #[.string s0, .int .i64 a0, .slice AX0 n0 n0] 38)).cell? ⟨w.heap.size, 1, none⟩ = some (.int .i64 a0) := (World.cell?_alloc_lt _ _ _ (block_lt_of_cell cP0_1_5)).trans cP0_1_5
  have cP0_2_6 : (w5.alloc (.cells #[.string s0, .int .i64 a0, .slice AX0 n0 n0] 38)).cell? ⟨w.heap.size, 2, none⟩ = some (.slice A0 n0 c0) := (World.cell?_alloc_lt _ _ _ (block_lt_of_cell cP0_2_5)).trans cP0_2_5
  clear cP0_0_5 cP0_1_5 cP0_2_5
  have cX0_0_6 : (w5.alloc (.cells #[.string s0, .int .i64 a0, .slice AX0 n0 n0] 38)).cell? ⟨w5.heap.size, 0, none⟩ = some (.string s0) := ((Blk.new w5 38 #[.string s0, .int .i64 a0, .slice AX0 n0 n0]).cell 0).trans rfl
  have cX0_1_6 : (w5.alloc (.cells #[.string s0, .int .i64 a0, .slice AX0 n0 n0] 38)).cell? ⟨w5.heap.size, 1, none⟩ = some (.int .i64 a0) := ((Blk.new w5 38 #[.string s0, .int .i64 a0, .slice AX0 n0 n0]).cell 1).trans rfl
  have cX0_2_6 : (w5.alloc (.cells #[.string s0, .int .i64 a0, .slice AX0 n0 n0] 38)).cell? ⟨w5.heap.size, 2, none⟩ = some (.slice AX0 n0 n0) := ((Blk.new w5 38 #[.string s0, .int .i64 a0, .slice AX0 n0 n0]).cell 2).trans rfl
  have SX0_6 := SX0_5.below (show Below w5.heap.size w5 (w5.alloc (.cells #[.string s0, .int .i64 a0, .slice AX0 n0 n0] 38)) from (Below.refl _ _).alloc (Nat.le_refl _) _) (by omega)
  have cc7 := implFanText_any s0 a0 AX0 n0 n0 rsX0 (w5.alloc (.cells #[.string s0, .int .i64 a0, .slice AX0 n0 n0] 38)) ls0 (FX0_5.same SX0_6).reads hn0 MX0.out (HTP.out _ B6)
  rw [HDX0.out] at cc7
  go_wp2_with fail; ((with_reducible refine (cc7).mono ?_); rintro e w7 ⟨rfl, hb7⟩)
  have z7 : (w5.alloc (.cells #[.string s0, .int .i64 a0, .slice AX0 n0 n0] 38)).heap.size ≤ w7.heap.size := hb7.size
  have B7 : Below w.heap.size w w7 := B6.trans (hb7.mono B6.size)
  have cP0_0_7 : w7.cell? ⟨w.heap.size, 0, none⟩ = some (.string s0) := (hb7.cell (block_lt_of_cell cP0_0_6)).trans cP0_0_6
  have cP0_1_7 : w7.cell? ⟨w.heap.size, 1, none⟩ = some (.int .i64 a0) := (hb7.cell (block_lt_of_cell cP0_1_6)).trans cP0_1_6
  have cP0_2_7 : w7.cell? ⟨w.heap.size, 2, none⟩ = some (.slice A0 n0 c0) := (hb7.cell (block_lt_of_cell cP0_2_6)).trans cP0_2_6
  clear cP0_0_6 cP0_1_6 cP0_2_6
  have cX0_0_7 : w7.cell? ⟨w5.heap.size, 0, none⟩ = some (.string s0) := (hb7.cell (block_lt_of_cell cX0_0_6)).trans cX0_0_6
  have cX0_1_7 : w7.cell? ⟨w5.heap.size, 1, none⟩ = some (.int .i64 a0) := (hb7.cell (block_lt_of_cell cX0_1_6)).trans cX0_1_6
  have cX0_2_7 : w7.cell? ⟨w5.heap.size, 2, none⟩ = some (.slice AX0 n0 n0) := (hb7.cell (block_lt_of_cell cX0_2_6)).trans cX0_2_6
  clear cX0_0_6 cX0_1_6 cX0_2_6
  have SX0_7 := SX0_6.below hb7 (by omega)
  clear cc7
  have RDT0 := (hr0.below (below_drew B7)).more (below_drew B7).size
  have HZT0 : w5.heap.size ≤ w7.drew.heap.size := by show _ ≤ w7.heap.size; omega
  go_wp2_with fail
  go_region_held3 (fun w' => w'.cell? ⟨w.heap.size, 0, none⟩ = some (.string s0) ∧ w'.cell? ⟨w.heap.size, 1, none⟩ = some (.int .i64 a0) ∧ w'.cell? ⟨w.heap.size, 2, none⟩ = some (.slice A0 n0 c0) ∧ w'.cell? ⟨w5.heap.size, 0, none⟩ = some (.string s0) ∧ w'.cell? ⟨w5.heap.size, 1, none⟩ = some (.int .i64 a0) ∧ w'.cell? ⟨w5.heap.size, 2, none⟩ = some (.slice AX0 n0 n0))
    (first | go_keep | (exact ⟨(hb8.cell (block_lt_of_cell cP0_0_7)).trans cP0_0_7, (hb8.cell (block_lt_of_cell cP0_1_7)).trans cP0_1_7, (hb8.cell (block_lt_of_cell cP0_2_7)).trans cP0_2_7, (hb8.cell (block_lt_of_cell cX0_0_7)).trans cX0_0_7, (hb8.cell (block_lt_of_cell cX0_1_7)).trans cX0_1_7, (hb8.cell (block_lt_of_cell cX0_2_7)).trans cX0_2_7⟩) | (exact ⟨(hb9.cell (block_lt_of_cell ((hb8.cell (block_lt_of_cell cP0_0_7)).trans cP0_0_7))).trans ((hb8.cell (block_lt_of_cell cP0_0_7)).trans cP0_0_7), (hb9.cell (block_lt_of_cell ((hb8.cell (block_lt_of_cell cP0_1_7)).trans cP0_1_7))).trans ((hb8.cell (block_lt_of_cell cP0_1_7)).trans cP0_1_7), (hb9.cell (block_lt_of_cell ((hb8.cell (block_lt_of_cell cP0_2_7)).trans cP0_2_7))).trans ((hb8.cell (block_lt_of_cell cP0_2_7)).trans cP0_2_7), (hb9.cell (block_lt_of_cell ((hb8.cell (block_lt_of_cell cX0_0_7)).trans cX0_0_7))).trans ((hb8.cell (block_lt_of_cell cX0_0_7)).trans cX0_0_7), (hb9.cell (block_lt_of_cell ((hb8.cell (block_lt_of_cell cX0_1_7)).trans cX0_1_7))).trans ((hb8.cell (block_lt_of_cell cX0_1_7)).trans cX0_1_7), (hb9.cell (block_lt_of_cell ((hb8.cell (block_lt_of_cell cX0_2_7)).trans cX0_2_7))).trans ((hb8.cell (block_lt_of_cell cX0_2_7)).trans cX0_2_7)⟩))
    ((first | (go_at_call 19; (with_reducible refine (eqFan_b s0 a0 _ _ n0 n0 n0 rsX0 rsT0 _ (FX0_5.same ((SX0_7.drew).below hb8 HZT0)).reads (oss_mk oT0).reads (HDX0.out.trans DT0.symm) (by omega) (fun r hr => Nat.le_trans (MX0.out r hr) (by omega))).mono ?_); rintro e w9 ⟨rfl, hb9⟩) | (go_at_call 17; (with_reducible refine (toFan_any s0 a0 A0 n0 c0 xs0 _ ls0 RDT0 hn0 hrn0.out).mono ?_); rintro e w8 ⟨AT0, rsT0, rfl, oT0, DT0, hb8⟩)))
  replace hb8 : Below w7.heap.size w7 w8 := below_undrew hb8
  have z8 : w7.heap.size ≤ w8.heap.size := hb8.size
  have B8 : Below w.heap.size w w8 := B7.trans (hb8.mono B7.size)
  have cP0_0_8 : w8.cell? ⟨w.heap.size, 0, none⟩ = some (.string s0) := (hb8.cell (block_lt_of_cell cP0_0_7)).trans cP0_0_7
  have cP0_1_8 : w8.cell? ⟨w.heap.size, 1, none⟩ = some (.int .i64 a0) := (hb8.cell (block_lt_of_cell cP0_1_7)).trans cP0_1_7
  have cP0_2_8 : w8.cell? ⟨w.heap.size, 2, none⟩ = some (.slice A0 n0 c0) := (hb8.cell (block_lt_of_cell cP0_2_7)).trans cP0_2_7
  clear cP0_0_7 cP0_1_7 cP0_2_7
  have cX0_0_8 : w8.cell? ⟨w5.heap.size, 0, none⟩ = some (.string s0) := (hb8.cell (block_lt_of_cell cX0_0_7)).trans cX0_0_7
  have cX0_1_8 : w8.cell? ⟨w5.heap.size, 1, none⟩ = some (.int .i64 a0) := (hb8.cell (block_lt_of_cell cX0_1_7)).trans cX0_1_7
  have cX0_2_8 : w8.cell? ⟨w5.heap.size, 2, none⟩ = some (.slice AX0 n0 n0) := (hb8.cell (block_lt_of_cell cX0_2_7)).trans cX0_2_7
  clear cX0_0_7 cX0_1_7 cX0_2_7
  have SX0_8 := SX0_7.below hb8 (by omega)
  have z9 : w8.heap.size ≤ w9.heap.size := hb9.size
  have B9 : Below w.heap.size w w9 := B8.trans (hb9.mono B8.size)
  have cP0_0_9 : w9.cell? ⟨w.heap.size, 0, none⟩ = some (.string s0) := (hb9.cell (block_lt_of_cell cP0_0_8)).trans cP0_0_8
  have cP0_1_9 : w9.cell? ⟨w.heap.size, 1, none⟩ = some (.int .i64 a0) := (hb9.cell (block_lt_of_cell cP0_1_8)).trans cP0_1_8
  have cP0_2_9 : w9.cell? ⟨w.heap.size, 2, none⟩ = some (.slice A0 n0 c0) := (hb9.cell (block_lt_of_cell cP0_2_8)).trans cP0_2_8
  clear cP0_0_8 cP0_1_8 cP0_2_8
  have cX0_0_9 : w9.cell? ⟨w5.heap.size, 0, none⟩ = some (.string s0) := (hb9.cell (block_lt_of_cell cX0_0_8)).trans cX0_0_8
  have cX0_1_9 : w9.cell? ⟨w5.heap.size, 1, none⟩ = some (.int .i64 a0) := (hb9.cell (block_lt_of_cell cX0_1_8)).trans cX0_1_8
  have cX0_2_9 : w9.cell? ⟨w5.heap.size, 2, none⟩ = some (.slice AX0 n0 n0) := (hb9.cell (block_lt_of_cell cX0_2_8)).trans cX0_2_8
  clear cX0_0_8 cX0_1_8 cX0_2_8
  have SX0_9 := SX0_8.below hb9 (by omega)
  go_wp2
  go_ret
  exact ⟨rfl, B9⟩

theorem door_met (os : Os) (args : Array Value) : laidMetH Tryd.prog Rows.fnExactFanTextRow.laid ((World.doorLaid Tryd.prog 400 os).forCall (fun _ _ => 0) ⟨#[], args, []⟩).memory :=
  laidMetH_of_parts3 (fuel := 8) (laidMet_of_run' 8 (by kernel_rfl) (by kernel_rfl)) (by kernel_rfl) (by kernel_rfl)
theorem of_laid {W : World} (h : laidMetH Tryd.prog Rows.fnExactFanTextRow.laid W) : Pow W := by
  rw [MakeChecks.laidMetH_plain _ _ _ (by kernel_rfl)] at h
  obtain ⟨ps, ⟨g0, t0, cs0, f0, p0, q0, hg0, ht0, hv0, hd0, ⟨g1, t1, cs1, f1, p1, q1, hg1, ht1, hv1, hd1, ⟨g2, t2, cs2, f2, p2, q2, hg2, ht2, hv2, hd2, _, _⟩, _⟩, _⟩, _, _⟩ := h
  obtain rfl := Option.some.inj (gPow.symm.trans hg2)
  obtain rfl := Option.some.inj ((show (Tryd.prog.globals[1]?).map (·.type) = some 132 by kernel_rfl).symm.trans ht2)
  unfold Pow Lib.TabIs
  rw [hv2, ← Lib.cells_of_tab (zs := Lib.pow10Tab) (k := .u64) Tryd.underlying132 (by kernel_rfl) (by kernel_rfl) (by kernel_rfl) hd2]

set_option maxRecDepth 100000 in
theorem lifted (os : Os) (started : os.Started) (H : Type) (enc : TypeId × Value → H) :
    ReturnsInHanded {} Tryd.checked os 5 .any (fun w args => (Rows.fnExactFanTextSpec.pre enc Tryd.prog Tryd.f5 [] false w args ∧ laidMetH Tryd.prog Rows.fnExactFanTextRow.laid w) ∧ sizedMet enc Tryd.prog Tryd.f5 (OpenSpec.ofChange Rows.fnExactFanTextSpec) false w args) (Rows.fnExactFanTextSpec.post enc Tryd.prog Tryd.f5 false true false false) := by
  refine returnsInHanded_of_change_and (C := Tryd.checked) (X := fun w _ => laidMetH Tryd.prog Rows.fnExactFanTextRow.laid w) (fun _ _ _ hh h => h.of_heap hh) own_ started (by kernel_rfl) Tryd.func5
    (ChangeSpec.witness_shaped (enc := enc) (C := Tryd.checked) (os := os) (X := fun w _ => laidMetH Tryd.prog Rows.fnExactFanTextRow.laid w) false (World.doorLaid Tryd.prog 400 os) #[.agg #[.string ByteArray.empty, .int .i64 0, .slice none 0 0]] 12 rfl (World.shaped_of_RefB (by kernel_rfl) (by kernel_rfl)) (by kernel_rfl) (by kernel_rfl) (by kernel_rfl) (door_met os _)) ?_
  intro W base args ds gs before hval0 hW _ _ hL _
  have hval : ∀ (j : Nat) t v, Tryd.f5.params[j]? = some t → args[j]? = some v → Value.okWide Tryd.prog W .any base t v := hval0
  have hW' := hW
  obtain ⟨p, q, hA0, hV, rfl, hfz, hnd⟩ := hW
  have hA : DataW.TrodAll enc Tryd.prog W 0 (fun _ => true) true Tryd.f5.params.toList args.toList ds p := hA0
  rw [Tryd.params5] at hA hval
  obtain ⟨v0, vs0, d0, ds0, p0, q0, hargs, rfl, rfl, h0, r0⟩ := trodAll_cons hA
  obtain ⟨rfl, rfl, rfl⟩ := trodAll_nil r0
  obtain rfl : args = #[v0] := by cases args; simp_all
  obtain ⟨rfl, rfl⟩ := trodVars_none hV
  obtain ⟨s0, a0, A0, n0, c0, xs0, rfl, ls0, lc0, gc0, hr0, hm0⟩ := op_fan Tryd.underlying35 (by kernel_rfl) (by kernel_rfl) Tryd.underlying9 Tryd.underlying2 Tryd.underlying33 Tryd.underlying57 Tryd.underlying2 (by kernel_rfl) (by kernel_rfl) (hval 0 35 v0 rfl rfl) h0
  clear hA0 hval0
  refine (walk s0 a0 A0 n0 c0 xs0 ls0 lc0 gc0 W hr0 hm0 (of_laid hL)).mono fun e W' ⟨he, hb⟩ => ?_
  subst he
  exact ⟨_, rfl, law_post laidOut_ (by kernel_rfl) rfl rfl Tryd.underlying4 hW' rfl hb⟩

theorem over : Rows.fnExactFanTextRow.holds Tryd.pinned (OpenSpec.ofChange Rows.fnExactFanTextSpec) :=
  OpenClaim.holds_of_wide 5 Tryd.f5 rfl rfl rfl rfl rfl rfl rfl ⟨rfl, rfl, rfl, rfl, rfl⟩ rfl rfl rfl rfl rfl (by kernel_rfl) Tryd.func5 (by kernel_rfl)
    (of_decide_eq_true (by kernel_rfl)) (by unfold Func.isWrapper; first | (rw [if_pos (by decide +kernel)]; kernel_rfl) | (rw [if_neg (by decide +kernel)]; exact ⟨rfl, rfl⟩))
    (fun os started H enc _ => lifted os started H enc)

/-- The card. -/
theorem proved : Rows.FnExactFanTextCardSaid :=
  Claim7.holds_tied_plain_at .later [] Rows.fnExactFanTextCard.laidKinds true (true, "aa79c08a9f025a9ab2f99bdb399bb02533aa464f12e30b200165edd2642db5f2") true
    over (fun _ h => by cases h) (by kernel_rfl) (fun _ h => by cases h) fnExactFanText_row_tie rfl ⟨rfl, rfl⟩ (by kernel_rfl) rfl
    (fun f fn hf hfn => by
      obtain rfl : f = 5 := Option.some.inj ((show Tryd.prog.funcNamed "loop.example/g01021/laws.FnExactFanText" = some 5 by kernel_rfl).symm.trans hf) |>.symm
      obtain rfl : fn = Tryd.f5 := (Option.some.inj (Tryd.func5.symm.trans hfn)).symm
      exact ⟨by kernel_rfl, fun j t ht => by
        rw [Tryd.params5] at ht
        have h3 : t = 35 := by
          rcases j with _ | j
          · simpa using ht.symm
          · simp at ht
        subst h3
        exact (show Tryd.prog.wantsStandIn 35 = false by kernel_rfl)⟩)
    (by kernel_rfl)
#print axioms proved
end Go.Proofs.YtdooajiobpjihaaDoor.lFanText
