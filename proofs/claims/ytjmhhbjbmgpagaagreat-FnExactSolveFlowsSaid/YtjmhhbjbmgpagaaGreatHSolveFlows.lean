/- The law FnExactSolveFlows: for all arguments the program's SolveFlows and the reference's return the same, and the result shares no memory with an argument or with the result of another call; no condition. -/
import Derived.Test.YtjmhhbjbmgpagaaGreatMgA
import Derived.Test.YtjmhhbjbmgpagaaGreatMgB
import Derived.Test.YtjmhhbjbmgpagaaGreatMgC
import Derived.Test.YtjmhhbjbmgpagaaGreatMgH
namespace Go.Proofs.YtjmhhbjbmgpagaaGreat.lSolveFlows
set_option linter.unusedVariables false
set_option linter.unusedSimpArgs false
open Go.ChangeShapes Go.WideShapes Go.ChangeAt Go.RowKit
set_option maxHeartbeats 4000000 in
set_option maxRecDepth 100000 in
theorem walk (J0 : Int) (A0 : Option Addr) (n0 c0 : Nat) (xs0 : List Awy) (lc0 : n0 ≤ c0) (gc0 : c0 ≤ maxLen) (A1 : Option Addr) (n1 c1 : Nat) (xs1 : List Int) (lc1 : n1 ≤ c1) (gc1 : c1 ≤ maxLen) (A2 : Option Addr) (n2 c2 : Nat) (xs2 : List Fan) (lc2 : n2 ≤ c2) (gc2 : c2 ≤ maxLen) (A3 : Option Addr) (n3 c3 : Nat) (xs3 : List Int) (lc3 : n3 ≤ c3) (gc3 : c3 ≤ maxLen) (A4 : Option Addr) (n4 c4 : Nat) (xs4 : List Int) (lc4 : n4 ≤ c4) (gc4 : c4 ≤ maxLen) (a5 : Int) (la5 : -9223372036854775808 ≤ a5) (ga5 : a5 ≤ 9223372036854775807) (a6 : Int) (la6 : -9223372036854775808 ≤ a6) (ga6 : a6 ≤ 9223372036854775807) (w : World) (hr0 : Reads w w.heap.size 7 A0 n0 (Awy.recs xs0)) (hm0 : ∀ x ∈ xs0, x.s.size ≤ maxLen) (hr1 : Reads w w.heap.size 1 A1 n1 (ints xs1)) (hr2 : FSS w w.heap.size A2 n2 xs2) (hm2 : ∀ x ∈ xs2, Fan.ok0 x) (hr3 : Reads w w.heap.size 1 A3 n3 (ints xs3)) (hr4 : Reads w w.heap.size 1 A4 n4 (ints xs4)) :
    Calls Tryz.prog 3 #[.agg #[.int .i64 J0, .slice A0 n0 c0], .slice A1 n1 c1, .slice A2 n2 c2, .slice A3 n3 c3, .slice A4 n4 c4, .int .i64 a5, .int .i64 a6] w fun e w' => e = .returned (.bool true) ∧ Below w.heap.size w w' := by
  have HM0 := Lib.hid hm0
  clear hm0
  have HM2 := Lib.hid hm2
  clear hm2
  by_cases big1 : 1048576 < n1
  · go_enter Tryz.func3, Tryz.ntmps3
    go_wp2
    go_ret
    exact ⟨rfl, by (repeat (first | exact Below.refl _ _ | assumption | (refine Below.alloc ?_ (by first | exact Nat.le_refl _ | (simp; done) | (simp; omega)) _) | (refine below_drewN ?_ _) | (refine Below.trans ?_ (Below.mono (by assumption) (by first | exact Nat.le_refl _ | (simp; done) | (simp; omega) | omega)))))⟩
  have hn1 : n1 ≤ 1048576 := by omega
  by_cases big3 : 1048576 < n3
  · go_enter Tryz.func3, Tryz.ntmps3
    go_wp2
    go_ret
    exact ⟨rfl, by (repeat (first | exact Below.refl _ _ | assumption | (refine Below.alloc ?_ (by first | exact Nat.le_refl _ | (simp; done) | (simp; omega)) _) | (refine below_drewN ?_ _) | (refine Below.trans ?_ (Below.mono (by assumption) (by first | exact Nat.le_refl _ | (simp; done) | (simp; omega) | omega)))))⟩
  have hn3 : n3 ≤ 1048576 := by omega
  by_cases big4 : 1048576 < n4
  · go_enter Tryz.func3, Tryz.ntmps3
    go_wp2
    go_ret
    exact ⟨rfl, by (repeat (first | exact Below.refl _ _ | assumption | (refine Below.alloc ?_ (by first | exact Nat.le_refl _ | (simp; done) | (simp; omega)) _) | (refine below_drewN ?_ _) | (refine Below.trans ?_ (Below.mono (by assumption) (by first | exact Nat.le_refl _ | (simp; done) | (simp; omega) | omega)))))⟩
  have hn4 : n4 ≤ 1048576 := by omega
  have t0 := sumN_nonneg Awy.len xs0
  by_cases hN0 : 1048576 < ((n0 : Int) + sumN Awy.len xs0)
  ·  -- too large
    have HN0 := Lib.hid hN0
    have z1 : w.heap.size + 1 ≤ (w.alloc (.cells #[.int .i64 J0, .slice A0 n0 c0] 24)).heap.size := by simp
    have B1 : Below w.heap.size w (w.alloc (.cells #[.int .i64 J0, .slice A0 n0 c0] 24)) := (Below.refl _ _).alloc (Nat.le_refl _) _
    have cP0_0_1 : (w.alloc (.cells #[.int .i64 J0, .slice A0 n0 c0] 24)).cell? ⟨w.heap.size, 0, none⟩ = some (.int .i64 J0) := ((Blk.new w 24 #[.int .i64 J0, .slice A0 n0 c0]).cell 0).trans rfl
    have cP0_1_1 : (w.alloc (.cells #[.int .i64 J0, .slice A0 n0 c0] 24)).cell? ⟨w.heap.size, 1, none⟩ = some (.slice A0 n0 c0) := ((Blk.new w 24 #[.int .i64 J0, .slice A0 n0 c0]).cell 1).trans rfl
    go_enter Tryz.func3, Tryz.ntmps3
    have sc0 := szMine_any J0 A0 n0 c0 xs0 (1048576) (w.alloc (.cells #[.int .i64 J0, .slice A0 n0 c0] 24)) ((hr0.below B1).more B1.size) (by omega) (by omega) (by omega) HM0.out
    rw [szI_n (l := 1048576) (s := ((n0 : Int) + sumN Awy.len xs0)) (by omega)] at sc0
    go_wp2_with fail; ((with_reducible refine sc0.mono ?_); rintro e w2 ⟨rfl, hb2⟩)
    clear sc0
    have z2 : (w.alloc (.cells #[.int .i64 J0, .slice A0 n0 c0] 24)).heap.size ≤ w2.heap.size := hb2.size
    have B2 : Below w.heap.size w w2 := B1.trans (hb2.mono B1.size)
    have cP0_0_2 : w2.cell? ⟨w.heap.size, 0, none⟩ = some (.int .i64 J0) := (hb2.cell (block_lt_of_cell cP0_0_1)).trans cP0_0_1
    have cP0_1_2 : w2.cell? ⟨w.heap.size, 1, none⟩ = some (.slice A0 n0 c0) := (hb2.cell (block_lt_of_cell cP0_1_1)).trans cP0_1_1
    clear cP0_0_1 cP0_1_1
    go_wp2
    go_ret
    exact ⟨rfl, B2⟩
  have HY0 := Lib.hid hN0
  have t2 := fansLen_nonneg xs2
  by_cases hN1 : 1048576 - ((n0 : Int) + sumN Awy.len xs0) < ((n2 : Int) + fansLen xs2)
  ·  -- too large
    have HN1 := Lib.hid hN1
    have z1 : w.heap.size + 1 ≤ (w.alloc (.cells #[.int .i64 J0, .slice A0 n0 c0] 24)).heap.size := by simp
    have B1 : Below w.heap.size w (w.alloc (.cells #[.int .i64 J0, .slice A0 n0 c0] 24)) := (Below.refl _ _).alloc (Nat.le_refl _) _
    have cP0_0_1 : (w.alloc (.cells #[.int .i64 J0, .slice A0 n0 c0] 24)).cell? ⟨w.heap.size, 0, none⟩ = some (.int .i64 J0) := ((Blk.new w 24 #[.int .i64 J0, .slice A0 n0 c0]).cell 0).trans rfl
    have cP0_1_1 : (w.alloc (.cells #[.int .i64 J0, .slice A0 n0 c0] 24)).cell? ⟨w.heap.size, 1, none⟩ = some (.slice A0 n0 c0) := ((Blk.new w 24 #[.int .i64 J0, .slice A0 n0 c0]).cell 1).trans rfl
    go_enter Tryz.func3, Tryz.ntmps3
    have sc0 := szMine_any J0 A0 n0 c0 xs0 (1048576) (w.alloc (.cells #[.int .i64 J0, .slice A0 n0 c0] 24)) ((hr0.below B1).more B1.size) (by omega) (by omega) (by omega) HM0.out
    rw [szI_y (l := 1048576) (s := ((n0 : Int) + sumN Awy.len xs0)) (by omega)] at sc0
    go_wp2_with fail; ((with_reducible refine sc0.mono ?_); rintro e w2 ⟨rfl, hb2⟩)
    clear sc0
    have z2 : (w.alloc (.cells #[.int .i64 J0, .slice A0 n0 c0] 24)).heap.size ≤ w2.heap.size := hb2.size
    have B2 : Below w.heap.size w w2 := B1.trans (hb2.mono B1.size)
    have cP0_0_2 : w2.cell? ⟨w.heap.size, 0, none⟩ = some (.int .i64 J0) := (hb2.cell (block_lt_of_cell cP0_0_1)).trans cP0_0_1
    have cP0_1_2 : w2.cell? ⟨w.heap.size, 1, none⟩ = some (.slice A0 n0 c0) := (hb2.cell (block_lt_of_cell cP0_1_1)).trans cP0_1_1
    clear cP0_0_1 cP0_1_1
    have sc1 := szFanS_any A2 n2 c2 xs2 (1048576 - ((n0 : Int) + sumN Awy.len xs0)) w2 ((hr2.below B2).more B2.size) (by omega) (by omega) (by omega) HM2.out
    rw [szI_n (l := 1048576 - ((n0 : Int) + sumN Awy.len xs0)) (s := ((n2 : Int) + fansLen xs2)) (by omega)] at sc1
    go_wp2_with fail; ((with_reducible refine sc1.mono ?_); rintro e w3 ⟨rfl, hb3⟩)
    clear sc1
    have z3 : w2.heap.size ≤ w3.heap.size := hb3.size
    have B3 : Below w.heap.size w w3 := B2.trans (hb3.mono B2.size)
    have cP0_0_3 : w3.cell? ⟨w.heap.size, 0, none⟩ = some (.int .i64 J0) := (hb3.cell (block_lt_of_cell cP0_0_2)).trans cP0_0_2
    have cP0_1_3 : w3.cell? ⟨w.heap.size, 1, none⟩ = some (.slice A0 n0 c0) := (hb3.cell (block_lt_of_cell cP0_1_2)).trans cP0_1_2
    clear cP0_0_2 cP0_1_2
    go_wp2
    go_ret
    exact ⟨rfl, B3⟩
  have HY1 := Lib.hid hN1
  have hn0 : n0 ≤ 1048576 := by omega
  have hn2 : n2 ≤ 1048576 := by omega
  have hok2 : Hid (∀ x ∈ xs2, Fan.ok x) := fans_ok (by omega)
  have z1 : w.heap.size + 1 ≤ (w.alloc (.cells #[.int .i64 J0, .slice A0 n0 c0] 24)).heap.size := by simp
  have B1 : Below w.heap.size w (w.alloc (.cells #[.int .i64 J0, .slice A0 n0 c0] 24)) := (Below.refl _ _).alloc (Nat.le_refl _) _
  have cP0_0_1 : (w.alloc (.cells #[.int .i64 J0, .slice A0 n0 c0] 24)).cell? ⟨w.heap.size, 0, none⟩ = some (.int .i64 J0) := ((Blk.new w 24 #[.int .i64 J0, .slice A0 n0 c0]).cell 0).trans rfl
  have cP0_1_1 : (w.alloc (.cells #[.int .i64 J0, .slice A0 n0 c0] 24)).cell? ⟨w.heap.size, 1, none⟩ = some (.slice A0 n0 c0) := ((Blk.new w 24 #[.int .i64 J0, .slice A0 n0 c0]).cell 1).trans rfl
  go_enter Tryz.func3, Tryz.ntmps3
  have sc0 := szMine_any J0 A0 n0 c0 xs0 (1048576) (w.alloc (.cells #[.int .i64 J0, .slice A0 n0 c0] 24)) ((hr0.below B1).more B1.size) (by omega) (by omega) (by omega) HM0.out
  rw [szI_y (l := 1048576) (s := ((n0 : Int) + sumN Awy.len xs0)) (by omega)] at sc0
  go_wp2_with fail; ((with_reducible refine sc0.mono ?_); rintro e w2 ⟨rfl, hb2⟩)
  clear sc0
  have z2 : (w.alloc (.cells #[.int .i64 J0, .slice A0 n0 c0] 24)).heap.size ≤ w2.heap.size := hb2.size
  have B2 : Below w.heap.size w w2 := B1.trans (hb2.mono B1.size)
  have cP0_0_2 : w2.cell? ⟨w.heap.size, 0, none⟩ = some (.int .i64 J0) := (hb2.cell (block_lt_of_cell cP0_0_1)).trans cP0_0_1
  have cP0_1_2 : w2.cell? ⟨w.heap.size, 1, none⟩ = some (.slice A0 n0 c0) := (hb2.cell (block_lt_of_cell cP0_1_1)).trans cP0_1_1
  clear cP0_0_1 cP0_1_1
  have sc1 := szFanS_any A2 n2 c2 xs2 (1048576 - ((n0 : Int) + sumN Awy.len xs0)) w2 ((hr2.below B2).more B2.size) (by omega) (by omega) (by omega) HM2.out
  rw [szI_y (l := 1048576 - ((n0 : Int) + sumN Awy.len xs0)) (s := ((n2 : Int) + fansLen xs2)) (by omega)] at sc1
  go_wp2_with fail; ((with_reducible refine sc1.mono ?_); rintro e w3 ⟨rfl, hb3⟩)
  clear sc1
  have z3 : w2.heap.size ≤ w3.heap.size := hb3.size
  have B3 : Below w.heap.size w w3 := B2.trans (hb3.mono B2.size)
  have cP0_0_3 : w3.cell? ⟨w.heap.size, 0, none⟩ = some (.int .i64 J0) := (hb3.cell (block_lt_of_cell cP0_0_2)).trans cP0_0_2
  have cP0_1_3 : w3.cell? ⟨w.heap.size, 1, none⟩ = some (.slice A0 n0 c0) := (hb3.cell (block_lt_of_cell cP0_1_2)).trans cP0_1_2
  clear cP0_0_2 cP0_1_2
  go_wp2_with fail; ((with_reducible refine (toMine_any J0 A0 n0 c0 xs0 _ ((hr0.below B3).more B3.size) hn0 HM0.out).mono ?_); rintro e w4 ⟨AS0, rfl, oS0, hb4⟩)
  have z4 : w3.heap.size ≤ w4.heap.size := hb4.size
  have B4 : Below w.heap.size w w4 := B3.trans (hb4.mono B3.size)
  have cP0_0_4 : w4.cell? ⟨w.heap.size, 0, none⟩ = some (.int .i64 J0) := (hb4.cell (block_lt_of_cell cP0_0_3)).trans cP0_0_3
  have cP0_1_4 : w4.cell? ⟨w.heap.size, 1, none⟩ = some (.slice A0 n0 c0) := (hb4.cell (block_lt_of_cell cP0_1_3)).trans cP0_1_3
  clear cP0_0_3 cP0_1_3
  have FS0_4 := own_mk oS0
  have SS0_4 := Same.refl w3.heap.size w4.heap.size w4
  go_wp2_with fail; ((with_reducible refine (toInt64S_any A1 n1 c1 xs1 _ ((hr1.below B4).more B4.size) hn1).mono ?_); rintro e w5 ⟨rfl, oS1, hb5⟩)
  have z5 : w4.heap.size ≤ w5.heap.size := hb5.size
  have B5 : Below w.heap.size w w5 := B4.trans (hb5.mono B4.size)
  have cP0_0_5 : w5.cell? ⟨w.heap.size, 0, none⟩ = some (.int .i64 J0) := (hb5.cell (block_lt_of_cell cP0_0_4)).trans cP0_0_4
  have cP0_1_5 : w5.cell? ⟨w.heap.size, 1, none⟩ = some (.slice A0 n0 c0) := (hb5.cell (block_lt_of_cell cP0_1_4)).trans cP0_1_4
  clear cP0_0_4 cP0_1_4
  have SS0_5 := SS0_4.below hb5 (by omega)
  have FS1_5 := own_mk oS1
  have SS1_5 := Same.refl w4.heap.size w5.heap.size w5
  go_wp2_with fail; ((with_reducible refine (toFanS_any A2 n2 c2 xs2 _ ((hr2.below B5).more B5.size) hn2 hok2.out).mono ?_); rintro e w6 ⟨rsS2, rfl, oS2, DS2, MS2', hb6⟩)
  have z6 : w5.heap.size ≤ w6.heap.size := hb6.size
  have B6 : Below w.heap.size w w6 := B5.trans (hb6.mono B5.size)
  have cP0_0_6 : w6.cell? ⟨w.heap.size, 0, none⟩ = some (.int .i64 J0) := (hb6.cell (block_lt_of_cell cP0_0_5)).trans cP0_0_5
  have cP0_1_6 : w6.cell? ⟨w.heap.size, 1, none⟩ = some (.slice A0 n0 c0) := (hb6.cell (block_lt_of_cell cP0_1_5)).trans cP0_1_5
  clear cP0_0_5 cP0_1_5
  have SS0_6 := SS0_5.below hb6 (by omega)
  have SS1_6 := SS1_5.below hb6 (by omega)
  have FS2_6 := oS2
  have MS2 := Lib.hid MS2'
  clear MS2'
  have TS2 : fansLen rsS2 ≤ 1048576 := by rw [fansLen_eq hr2 FS2_6.reads DS2]; omega
  have TMS2 := mksF_bnd rsS2
  have TLS2 := FS2_6.reads.len
  have HDS2 := Lib.hid DS2
  clear DS2
  have SS2_6 := Same.refl w5.heap.size w6.heap.size w6
  go_wp2_with fail; ((with_reducible refine (toInt64S_any A3 n3 c3 xs3 _ ((hr3.below B6).more B6.size) hn3).mono ?_); rintro e w7 ⟨rfl, oS3, hb7⟩)
  have z7 : w6.heap.size ≤ w7.heap.size := hb7.size
  have B7 : Below w.heap.size w w7 := B6.trans (hb7.mono B6.size)
  have cP0_0_7 : w7.cell? ⟨w.heap.size, 0, none⟩ = some (.int .i64 J0) := (hb7.cell (block_lt_of_cell cP0_0_6)).trans cP0_0_6
  have cP0_1_7 : w7.cell? ⟨w.heap.size, 1, none⟩ = some (.slice A0 n0 c0) := (hb7.cell (block_lt_of_cell cP0_1_6)).trans cP0_1_6
  clear cP0_0_6 cP0_1_6
  have SS0_7 := SS0_6.below hb7 (by omega)
  have SS1_7 := SS1_6.below hb7 (by omega)
  have SS2_7 := SS2_6.below hb7 (by omega)
  have FS3_7 := own_mk oS3
  have SS3_7 := Same.refl w6.heap.size w7.heap.size w7
  go_wp2_with fail; ((with_reducible refine (toInt64S_any A4 n4 c4 xs4 _ ((hr4.below B7).more B7.size) hn4).mono ?_); rintro e w8 ⟨rfl, oS4, hb8⟩)
  have z8 : w7.heap.size ≤ w8.heap.size := hb8.size
  have B8 : Below w.heap.size w w8 := B7.trans (hb8.mono B7.size)
  have cP0_0_8 : w8.cell? ⟨w.heap.size, 0, none⟩ = some (.int .i64 J0) := (hb8.cell (block_lt_of_cell cP0_0_7)).trans cP0_0_7
  have cP0_1_8 : w8.cell? ⟨w.heap.size, 1, none⟩ = some (.slice A0 n0 c0) := (hb8.cell (block_lt_of_cell cP0_1_7)).trans cP0_1_7
  clear cP0_0_7 cP0_1_7
  have SS0_8 := SS0_7.below hb8 (by omega)
  have SS1_8 := SS1_7.below hb8 (by omega)
  have SS2_8 := SS2_7.below hb8 (by omega)
  have SS3_8 := SS3_7.below hb8 (by omega)
  have FS4_8 := own_mk oS4
  have SS4_8 := Same.refl w7.heap.size w8.heap.size w8
  have cc9 := specSolveFlows_any J0 AS0 n0 n0 xs0 (some ⟨w4.heap.size, 0, none⟩) n1 n1 xs1 (some ⟨w5.heap.size, 0, none⟩) n2 n2 rsS2 (some ⟨w6.heap.size, 0, none⟩) n3 n3 xs3 (some ⟨w7.heap.size, 0, none⟩) n4 n4 xs4 a5 a6 w8 (FS0_4.same SS0_8).reads hn0 HM0.out (FS1_5.same SS1_8).reads hn1 (FS2_6.same SS2_8).reads hn2 MS2.out (FS3_7.same SS3_8).reads hn3 (FS4_8.same SS4_8).reads hn4
  rw [HDS2.out] at cc9
  go_wp2_with fail; ((with_reducible refine (cc9).mono ?_); rintro e w9 ⟨AW, nW, cW, rfl, oW, hnW, hb9⟩)
  have z9 : w8.heap.size ≤ w9.heap.size := hb9.size
  have B9 : Below w.heap.size w w9 := B8.trans (hb9.mono B8.size)
  have cP0_0_9 : w9.cell? ⟨w.heap.size, 0, none⟩ = some (.int .i64 J0) := (hb9.cell (block_lt_of_cell cP0_0_8)).trans cP0_0_8
  have cP0_1_9 : w9.cell? ⟨w.heap.size, 1, none⟩ = some (.slice A0 n0 c0) := (hb9.cell (block_lt_of_cell cP0_1_8)).trans cP0_1_8
  clear cP0_0_8 cP0_1_8
  have SS0_9 := SS0_8.below hb9 (by omega)
  have SS1_9 := SS1_8.below hb9 (by omega)
  have SS2_9 := SS2_8.below hb9 (by omega)
  have SS3_9 := SS3_8.below hb9 (by omega)
  have SS4_9 := SS4_8.below hb9 (by omega)
  have FW_9 := own_mk oW
  have SW_9 := Same.refl w8.heap.size w9.heap.size w9
  clear cc9
  go_wp2_with fail; ((with_reducible refine (toMine_any J0 A0 n0 c0 xs0 _ ((hr0.below B9).more B9.size) hn0 HM0.out).mono ?_); rintro e w10 ⟨AX0, rfl, oX0, hb10⟩)
  have z10 : w9.heap.size ≤ w10.heap.size := hb10.size
  have B10 : Below w.heap.size w w10 := B9.trans (hb10.mono B9.size)
  have cP0_0_10 : w10.cell? ⟨w.heap.size, 0, none⟩ = some (.int .i64 J0) := (hb10.cell (block_lt_of_cell cP0_0_9)).trans cP0_0_9
  have cP0_1_10 : w10.cell? ⟨w.heap.size, 1, none⟩ = some (.slice A0 n0 c0) := (hb10.cell (block_lt_of_cell cP0_1_9)).trans cP0_1_9
  clear cP0_0_9 cP0_1_9
  have SW_10 := SW_9.below hb10 (by omega)
  have FX0_10 := own_mk oX0
  have SX0_10 := Same.refl w9.heap.size w10.heap.size w10
  -- its box
  have z11 : w10.heap.size + 1 ≤ (w10.alloc (.cells #[.int .i64 J0, .slice AX0 n0 n0] 33)).heap.size := by simp
  have B11 : Below w.heap.size w (w10.alloc (.cells #[.int .i64 J0, .slice AX0 n0 n0] 33)) := B10.alloc B10.size _
  have cP0_0_11 : (w10.alloc (.cells #[.int .i64 J0, .slice AX0 n0 n0] 33)).cell? ⟨w.heap.size, 0, none⟩ = some (.int .i64 J0) := (World.cell?_alloc_lt _ _ _ (block_lt_of_cell cP0_0_10)).trans cP0_0_10
  have cP0_1_11 : (w10.alloc (.cells #[.int .i64 J0, .slice AX0 n0 n0] 33)).cell? ⟨w.heap.size, 1, none⟩ = some (.slice A0 n0 c0) := (World.cell?_alloc_lt _ _ _ (block_lt_of_cell cP0_1_10)).trans cP0_1_10
  clear cP0_0_10 cP0_1_10
  have cX0_0_11 : (w10.alloc (.cells #[.int .i64 J0, .slice AX0 n0 n0] 33)).cell? ⟨w10.heap.size, 0, none⟩ = some (.int .i64 J0) := ((Blk.new w10 33 #[.int .i64 J0, .slice AX0 n0 n0]).cell 0).trans rfl
  have cX0_1_11 : (w10.alloc (.cells #[.int .i64 J0, .slice AX0 n0 n0] 33)).cell? ⟨w10.heap.size, 1, none⟩ = some (.slice AX0 n0 n0) := ((Blk.new w10 33 #[.int .i64 J0, .slice AX0 n0 n0]).cell 1).trans rfl
  have SW_11 := SW_10.below (show Below w10.heap.size w10 (w10.alloc (.cells #[.int .i64 J0, .slice AX0 n0 n0] 33)) from (Below.refl _ _).alloc (Nat.le_refl _) _) (by omega)
  have SX0_11 := SX0_10.below (show Below w10.heap.size w10 (w10.alloc (.cells #[.int .i64 J0, .slice AX0 n0 n0] 33)) from (Below.refl _ _).alloc (Nat.le_refl _) _) (by omega)
  go_wp2_with fail; ((with_reducible refine (toInt64S_any A1 n1 c1 xs1 _ ((hr1.below B11).more B11.size) hn1).mono ?_); rintro e w12 ⟨rfl, oX1, hb12⟩)
  have z12 : (w10.alloc (.cells #[.int .i64 J0, .slice AX0 n0 n0] 33)).heap.size ≤ w12.heap.size := hb12.size
  have B12 : Below w.heap.size w w12 := B11.trans (hb12.mono B11.size)
  have cP0_0_12 : w12.cell? ⟨w.heap.size, 0, none⟩ = some (.int .i64 J0) := (hb12.cell (block_lt_of_cell cP0_0_11)).trans cP0_0_11
  have cP0_1_12 : w12.cell? ⟨w.heap.size, 1, none⟩ = some (.slice A0 n0 c0) := (hb12.cell (block_lt_of_cell cP0_1_11)).trans cP0_1_11
  clear cP0_0_11 cP0_1_11
  have cX0_0_12 : w12.cell? ⟨w10.heap.size, 0, none⟩ = some (.int .i64 J0) := (hb12.cell (block_lt_of_cell cX0_0_11)).trans cX0_0_11
  have cX0_1_12 : w12.cell? ⟨w10.heap.size, 1, none⟩ = some (.slice AX0 n0 n0) := (hb12.cell (block_lt_of_cell cX0_1_11)).trans cX0_1_11
  clear cX0_0_11 cX0_1_11
  have SW_12 := SW_11.below hb12 (by omega)
  have SX0_12 := SX0_11.below hb12 (by omega)
  rw [show (w10.alloc (.cells #[.int .i64 J0, .slice AX0 n0 n0] 33)).heap.size = (w10.heap.size + 1) by simp] at oX1
  have FX1_12 := own_mk oX1
  have SX1_12 := Same.refl (w10.heap.size + 1) w12.heap.size w12
  go_wp2_with fail; ((with_reducible refine (toFanS_any A2 n2 c2 xs2 _ ((hr2.below B12).more B12.size) hn2 hok2.out).mono ?_); rintro e w13 ⟨rsX2, rfl, oX2, DX2, MX2', hb13⟩)
  have z13 : w12.heap.size ≤ w13.heap.size := hb13.size
  have B13 : Below w.heap.size w w13 := B12.trans (hb13.mono B12.size)
  have cP0_0_13 : w13.cell? ⟨w.heap.size, 0, none⟩ = some (.int .i64 J0) := (hb13.cell (block_lt_of_cell cP0_0_12)).trans cP0_0_12
  have cP0_1_13 : w13.cell? ⟨w.heap.size, 1, none⟩ = some (.slice A0 n0 c0) := (hb13.cell (block_lt_of_cell cP0_1_12)).trans cP0_1_12
  clear cP0_0_12 cP0_1_12
  have cX0_0_13 : w13.cell? ⟨w10.heap.size, 0, none⟩ = some (.int .i64 J0) := (hb13.cell (block_lt_of_cell cX0_0_12)).trans cX0_0_12
  have cX0_1_13 : w13.cell? ⟨w10.heap.size, 1, none⟩ = some (.slice AX0 n0 n0) := (hb13.cell (block_lt_of_cell cX0_1_12)).trans cX0_1_12
  clear cX0_0_12 cX0_1_12
  have SW_13 := SW_12.below hb13 (by omega)
  have SX0_13 := SX0_12.below hb13 (by omega)
  have SX1_13 := SX1_12.below hb13 (by omega)
  have FX2_13 := oX2
  have MX2 := Lib.hid MX2'
  clear MX2'
  have TX2 : fansLen rsX2 ≤ 1048576 := by rw [fansLen_eq hr2 FX2_13.reads DX2]; omega
  have TMX2 := mksF_bnd rsX2
  have TLX2 := FX2_13.reads.len
  have HDX2 := Lib.hid DX2
  clear DX2
  have SX2_13 := Same.refl w12.heap.size w13.heap.size w13
  go_wp2_with fail; ((with_reducible refine (toInt64S_any A3 n3 c3 xs3 _ ((hr3.below B13).more B13.size) hn3).mono ?_); rintro e w14 ⟨rfl, oX3, hb14⟩)
  have z14 : w13.heap.size ≤ w14.heap.size := hb14.size
  have B14 : Below w.heap.size w w14 := B13.trans (hb14.mono B13.size)
  have cP0_0_14 : w14.cell? ⟨w.heap.size, 0, none⟩ = some (.int .i64 J0) := (hb14.cell (block_lt_of_cell cP0_0_13)).trans cP0_0_13
  have cP0_1_14 : w14.cell? ⟨w.heap.size, 1, none⟩ = some (.slice A0 n0 c0) := (hb14.cell (block_lt_of_cell cP0_1_13)).trans cP0_1_13
  clear cP0_0_13 cP0_1_13
  have cX0_0_14 : w14.cell? ⟨w10.heap.size, 0, none⟩ = some (.int .i64 J0) := (hb14.cell (block_lt_of_cell cX0_0_13)).trans cX0_0_13
  have cX0_1_14 : w14.cell? ⟨w10.heap.size, 1, none⟩ = some (.slice AX0 n0 n0) := (hb14.cell (block_lt_of_cell cX0_1_13)).trans cX0_1_13
  clear cX0_0_13 cX0_1_13
  have SW_14 := SW_13.below hb14 (by omega)
  have SX0_14 := SX0_13.below hb14 (by omega)
  have SX1_14 := SX1_13.below hb14 (by omega)
  have SX2_14 := SX2_13.below hb14 (by omega)
  have FX3_14 := own_mk oX3
  have SX3_14 := Same.refl w13.heap.size w14.heap.size w14
  go_wp2_with fail; ((with_reducible refine (toInt64S_any A4 n4 c4 xs4 _ ((hr4.below B14).more B14.size) hn4).mono ?_); rintro e w15 ⟨rfl, oX4, hb15⟩)
  have z15 : w14.heap.size ≤ w15.heap.size := hb15.size
  have B15 : Below w.heap.size w w15 := B14.trans (hb15.mono B14.size)
  have cP0_0_15 : w15.cell? ⟨w.heap.size, 0, none⟩ = some (.int .i64 J0) := (hb15.cell (block_lt_of_cell cP0_0_14)).trans cP0_0_14
  have cP0_1_15 : w15.cell? ⟨w.heap.size, 1, none⟩ = some (.slice A0 n0 c0) := (hb15.cell (block_lt_of_cell cP0_1_14)).trans cP0_1_14
  clear cP0_0_14 cP0_1_14
  have cX0_0_15 : w15.cell? ⟨w10.heap.size, 0, none⟩ = some (.int .i64 J0) := (hb15.cell (block_lt_of_cell cX0_0_14)).trans cX0_0_14
  have cX0_1_15 : w15.cell? ⟨w10.heap.size, 1, none⟩ = some (.slice AX0 n0 n0) := (hb15.cell (block_lt_of_cell cX0_1_14)).trans cX0_1_14
  clear cX0_0_14 cX0_1_14
  have SW_15 := SW_14.below hb15 (by omega)
  have SX0_15 := SX0_14.below hb15 (by omega)
  have SX1_15 := SX1_14.below hb15 (by omega)
  have SX2_15 := SX2_14.below hb15 (by omega)
  have SX3_15 := SX3_14.below hb15 (by omega)
  have FX4_15 := own_mk oX4
  have SX4_15 := Same.refl w14.heap.size w15.heap.size w15
  have cc16 := implSolveFlows_any J0 AX0 n0 n0 xs0 (some ⟨(w10.heap.size + 1), 0, none⟩) n1 n1 xs1 (some ⟨w12.heap.size, 0, none⟩) n2 n2 rsX2 (some ⟨w13.heap.size, 0, none⟩) n3 n3 xs3 (some ⟨w14.heap.size, 0, none⟩) n4 n4 xs4 a5 a6 w15 (FX0_10.same SX0_15).reads hn0 HM0.out (FX1_12.same SX1_15).reads hn1 (FX2_13.same SX2_15).reads hn2 MX2.out (FX3_14.same SX3_15).reads hn3 (FX4_15.same SX4_15).reads hn4
  rw [HDX2.out] at cc16
  go_wp2_with fail; ((with_reducible refine (cc16).mono ?_); rintro e w16 ⟨AG, nG, cG, rfl, oG, hnG, hb16⟩)
  have z16 : w15.heap.size ≤ w16.heap.size := hb16.size
  have B16 : Below w.heap.size w w16 := B15.trans (hb16.mono B15.size)
  have cP0_0_16 : w16.cell? ⟨w.heap.size, 0, none⟩ = some (.int .i64 J0) := (hb16.cell (block_lt_of_cell cP0_0_15)).trans cP0_0_15
  have cP0_1_16 : w16.cell? ⟨w.heap.size, 1, none⟩ = some (.slice A0 n0 c0) := (hb16.cell (block_lt_of_cell cP0_1_15)).trans cP0_1_15
  clear cP0_0_15 cP0_1_15
  have cX0_0_16 : w16.cell? ⟨w10.heap.size, 0, none⟩ = some (.int .i64 J0) := (hb16.cell (block_lt_of_cell cX0_0_15)).trans cX0_0_15
  have cX0_1_16 : w16.cell? ⟨w10.heap.size, 1, none⟩ = some (.slice AX0 n0 n0) := (hb16.cell (block_lt_of_cell cX0_1_15)).trans cX0_1_15
  clear cX0_0_15 cX0_1_15
  have SW_16 := SW_15.below hb16 (by omega)
  have SX0_16 := SX0_15.below hb16 (by omega)
  have SX1_16 := SX1_15.below hb16 (by omega)
  have SX2_16 := SX2_15.below hb16 (by omega)
  have SX3_16 := SX3_15.below hb16 (by omega)
  have SX4_16 := SX4_15.below hb16 (by omega)
  have FG_16 := own_mk oG
  have SG_16 := Same.refl w15.heap.size w16.heap.size w16
  clear cc16
  obtain rfl : nG = nW := by have h1 := FG_16.own.1; have h2 := FW_9.own.1; omega
  go_wp2_with fail; ((with_reducible refine (eqInt64S_b _ _ nG cG cW _ _ (FG_16.same SG_16).reads (FW_9.same SW_16).reads (by omega)).mono ?_); rintro e w17 ⟨rfl, hb17⟩)
  have z17 : w16.heap.size ≤ w17.heap.size := hb17.size
  have B17 : Below w.heap.size w w17 := B16.trans (hb17.mono B16.size)
  have cP0_0_17 : w17.cell? ⟨w.heap.size, 0, none⟩ = some (.int .i64 J0) := (hb17.cell (block_lt_of_cell cP0_0_16)).trans cP0_0_16
  have cP0_1_17 : w17.cell? ⟨w.heap.size, 1, none⟩ = some (.slice A0 n0 c0) := (hb17.cell (block_lt_of_cell cP0_1_16)).trans cP0_1_16
  clear cP0_0_16 cP0_1_16
  have cX0_0_17 : w17.cell? ⟨w10.heap.size, 0, none⟩ = some (.int .i64 J0) := (hb17.cell (block_lt_of_cell cX0_0_16)).trans cX0_0_16
  have cX0_1_17 : w17.cell? ⟨w10.heap.size, 1, none⟩ = some (.slice AX0 n0 n0) := (hb17.cell (block_lt_of_cell cX0_1_16)).trans cX0_1_16
  clear cX0_0_16 cX0_1_16
  have SW_17 := SW_16.below hb17 (by omega)
  have SX0_17 := SX0_16.below hb17 (by omega)
  have SX1_17 := SX1_16.below hb17 (by omega)
  have SX2_17 := SX2_16.below hb17 (by omega)
  have SX3_17 := SX3_16.below hb17 (by omega)
  have SX4_17 := SX4_16.below hb17 (by omega)
  have SG_17 := SG_16.below hb17 (by omega)
  have RDT0 := (hr0.below (below_drew B17)).more (below_drew B17).size
  have HZT0 : w10.heap.size ≤ w17.drew.heap.size := by show _ ≤ w17.heap.size; omega
  go_wp2_with fail
  go_region_held3 (fun w' => w'.cell? ⟨w.heap.size, 0, none⟩ = some (.int .i64 J0) ∧ w'.cell? ⟨w.heap.size, 1, none⟩ = some (.slice A0 n0 c0) ∧ w'.cell? ⟨w10.heap.size, 0, none⟩ = some (.int .i64 J0) ∧ w'.cell? ⟨w10.heap.size, 1, none⟩ = some (.slice AX0 n0 n0))
    (first | go_keep | (exact ⟨(hb18.cell (block_lt_of_cell cP0_0_17)).trans cP0_0_17, (hb18.cell (block_lt_of_cell cP0_1_17)).trans cP0_1_17, (hb18.cell (block_lt_of_cell cX0_0_17)).trans cX0_0_17, (hb18.cell (block_lt_of_cell cX0_1_17)).trans cX0_1_17⟩) | (exact ⟨(hb19.cell (block_lt_of_cell ((hb18.cell (block_lt_of_cell cP0_0_17)).trans cP0_0_17))).trans ((hb18.cell (block_lt_of_cell cP0_0_17)).trans cP0_0_17), (hb19.cell (block_lt_of_cell ((hb18.cell (block_lt_of_cell cP0_1_17)).trans cP0_1_17))).trans ((hb18.cell (block_lt_of_cell cP0_1_17)).trans cP0_1_17), (hb19.cell (block_lt_of_cell ((hb18.cell (block_lt_of_cell cX0_0_17)).trans cX0_0_17))).trans ((hb18.cell (block_lt_of_cell cX0_0_17)).trans cX0_0_17), (hb19.cell (block_lt_of_cell ((hb18.cell (block_lt_of_cell cX0_1_17)).trans cX0_1_17))).trans ((hb18.cell (block_lt_of_cell cX0_1_17)).trans cX0_1_17)⟩))
    ((first | (go_at_call 12; (with_reducible refine (eqMine_b J0 _ _ n0 n0 n0 xs0 _ (FX0_10.same ((SX0_17.drew).below hb18 HZT0)).reads (own_mk oT0).reads (by omega)).mono ?_); rintro e w19 ⟨rfl, hb19⟩) | (go_at_call 7; (with_reducible refine (toMine_any J0 A0 n0 c0 xs0 _ RDT0 hn0 HM0.out).mono ?_); rintro e w18 ⟨AT0, rfl, oT0, hb18⟩)))
  replace hb18 : Below w17.heap.size w17 w18 := below_undrew hb18
  have z18 : w17.heap.size ≤ w18.heap.size := hb18.size
  have B18 : Below w.heap.size w w18 := B17.trans (hb18.mono B17.size)
  have cP0_0_18 : w18.cell? ⟨w.heap.size, 0, none⟩ = some (.int .i64 J0) := (hb18.cell (block_lt_of_cell cP0_0_17)).trans cP0_0_17
  have cP0_1_18 : w18.cell? ⟨w.heap.size, 1, none⟩ = some (.slice A0 n0 c0) := (hb18.cell (block_lt_of_cell cP0_1_17)).trans cP0_1_17
  clear cP0_0_17 cP0_1_17
  have cX0_0_18 : w18.cell? ⟨w10.heap.size, 0, none⟩ = some (.int .i64 J0) := (hb18.cell (block_lt_of_cell cX0_0_17)).trans cX0_0_17
  have cX0_1_18 : w18.cell? ⟨w10.heap.size, 1, none⟩ = some (.slice AX0 n0 n0) := (hb18.cell (block_lt_of_cell cX0_1_17)).trans cX0_1_17
  clear cX0_0_17 cX0_1_17
  have SW_18 := SW_17.below hb18 (by omega)
  have SX0_18 := SX0_17.below hb18 (by omega)
  have SX1_18 := SX1_17.below hb18 (by omega)
  have SX2_18 := SX2_17.below hb18 (by omega)
  have SX3_18 := SX3_17.below hb18 (by omega)
  have SX4_18 := SX4_17.below hb18 (by omega)
  have SG_18 := SG_17.below hb18 (by omega)
  have z19 : w18.heap.size ≤ w19.heap.size := hb19.size
  have B19 : Below w.heap.size w w19 := B18.trans (hb19.mono B18.size)
  have cP0_0_19 : w19.cell? ⟨w.heap.size, 0, none⟩ = some (.int .i64 J0) := (hb19.cell (block_lt_of_cell cP0_0_18)).trans cP0_0_18
  have cP0_1_19 : w19.cell? ⟨w.heap.size, 1, none⟩ = some (.slice A0 n0 c0) := (hb19.cell (block_lt_of_cell cP0_1_18)).trans cP0_1_18
  clear cP0_0_18 cP0_1_18
  have cX0_0_19 : w19.cell? ⟨w10.heap.size, 0, none⟩ = some (.int .i64 J0) := (hb19.cell (block_lt_of_cell cX0_0_18)).trans cX0_0_18
  have cX0_1_19 : w19.cell? ⟨w10.heap.size, 1, none⟩ = some (.slice AX0 n0 n0) := (hb19.cell (block_lt_of_cell cX0_1_18)).trans cX0_1_18
  clear cX0_0_18 cX0_1_18
  have SW_19 := SW_18.below hb19 (by omega)
  have SX0_19 := SX0_18.below hb19 (by omega)
  have SX1_19 := SX1_18.below hb19 (by omega)
  have SX2_19 := SX2_18.below hb19 (by omega)
  have SX3_19 := SX3_18.below hb19 (by omega)
  have SX4_19 := SX4_18.below hb19 (by omega)
  have SG_19 := SG_18.below hb19 (by omega)
  go_wp2_with fail; ((with_reducible refine (toInt64S_any A1 n1 c1 xs1 _ ((hr1.below B19).more B19.size) hn1).mono ?_); rintro e w20 ⟨rfl, oT1, hb20⟩)
  have z20 : w19.heap.size ≤ w20.heap.size := hb20.size
  have B20 : Below w.heap.size w w20 := B19.trans (hb20.mono B19.size)
  have cP0_0_20 : w20.cell? ⟨w.heap.size, 0, none⟩ = some (.int .i64 J0) := (hb20.cell (block_lt_of_cell cP0_0_19)).trans cP0_0_19
  have cP0_1_20 : w20.cell? ⟨w.heap.size, 1, none⟩ = some (.slice A0 n0 c0) := (hb20.cell (block_lt_of_cell cP0_1_19)).trans cP0_1_19
  clear cP0_0_19 cP0_1_19
  have cX0_0_20 : w20.cell? ⟨w10.heap.size, 0, none⟩ = some (.int .i64 J0) := (hb20.cell (block_lt_of_cell cX0_0_19)).trans cX0_0_19
  have cX0_1_20 : w20.cell? ⟨w10.heap.size, 1, none⟩ = some (.slice AX0 n0 n0) := (hb20.cell (block_lt_of_cell cX0_1_19)).trans cX0_1_19
  clear cX0_0_19 cX0_1_19
  have SW_20 := SW_19.below hb20 (by omega)
  have SX0_20 := SX0_19.below hb20 (by omega)
  have SX1_20 := SX1_19.below hb20 (by omega)
  have SX2_20 := SX2_19.below hb20 (by omega)
  have SX3_20 := SX3_19.below hb20 (by omega)
  have SX4_20 := SX4_19.below hb20 (by omega)
  have SG_20 := SG_19.below hb20 (by omega)
  have FT1_20 := own_mk oT1
  have ST1_20 := Same.refl w19.heap.size w20.heap.size w20
  go_wp2_with fail; ((with_reducible refine (eqInt64S_b _ _ n1 n1 n1 xs1 _ (FX1_12.same SX1_20).reads (FT1_20.same ST1_20).reads (by omega)).mono ?_); rintro e w21 ⟨rfl, hb21⟩)
  have z21 : w20.heap.size ≤ w21.heap.size := hb21.size
  have B21 : Below w.heap.size w w21 := B20.trans (hb21.mono B20.size)
  have cP0_0_21 : w21.cell? ⟨w.heap.size, 0, none⟩ = some (.int .i64 J0) := (hb21.cell (block_lt_of_cell cP0_0_20)).trans cP0_0_20
  have cP0_1_21 : w21.cell? ⟨w.heap.size, 1, none⟩ = some (.slice A0 n0 c0) := (hb21.cell (block_lt_of_cell cP0_1_20)).trans cP0_1_20
  clear cP0_0_20 cP0_1_20
  have cX0_0_21 : w21.cell? ⟨w10.heap.size, 0, none⟩ = some (.int .i64 J0) := (hb21.cell (block_lt_of_cell cX0_0_20)).trans cX0_0_20
  have cX0_1_21 : w21.cell? ⟨w10.heap.size, 1, none⟩ = some (.slice AX0 n0 n0) := (hb21.cell (block_lt_of_cell cX0_1_20)).trans cX0_1_20
  clear cX0_0_20 cX0_1_20
  have SW_21 := SW_20.below hb21 (by omega)
  have SX0_21 := SX0_20.below hb21 (by omega)
  have SX1_21 := SX1_20.below hb21 (by omega)
  have SX2_21 := SX2_20.below hb21 (by omega)
  have SX3_21 := SX3_20.below hb21 (by omega)
  have SX4_21 := SX4_20.below hb21 (by omega)
  have SG_21 := SG_20.below hb21 (by omega)
  have ST1_21 := ST1_20.below hb21 (by omega)
  go_wp2_with fail; ((with_reducible refine (toFanS_any A2 n2 c2 xs2 _ ((hr2.below B21).more B21.size) hn2 hok2.out).mono ?_); rintro e w22 ⟨rsT2, rfl, oT2, DT2, MT2', hb22⟩)
  have z22 : w21.heap.size ≤ w22.heap.size := hb22.size
  have B22 : Below w.heap.size w w22 := B21.trans (hb22.mono B21.size)
  have cP0_0_22 : w22.cell? ⟨w.heap.size, 0, none⟩ = some (.int .i64 J0) := (hb22.cell (block_lt_of_cell cP0_0_21)).trans cP0_0_21
  have cP0_1_22 : w22.cell? ⟨w.heap.size, 1, none⟩ = some (.slice A0 n0 c0) := (hb22.cell (block_lt_of_cell cP0_1_21)).trans cP0_1_21
  clear cP0_0_21 cP0_1_21
  have cX0_0_22 : w22.cell? ⟨w10.heap.size, 0, none⟩ = some (.int .i64 J0) := (hb22.cell (block_lt_of_cell cX0_0_21)).trans cX0_0_21
  have cX0_1_22 : w22.cell? ⟨w10.heap.size, 1, none⟩ = some (.slice AX0 n0 n0) := (hb22.cell (block_lt_of_cell cX0_1_21)).trans cX0_1_21
  clear cX0_0_21 cX0_1_21
  have SW_22 := SW_21.below hb22 (by omega)
  have SX0_22 := SX0_21.below hb22 (by omega)
  have SX1_22 := SX1_21.below hb22 (by omega)
  have SX2_22 := SX2_21.below hb22 (by omega)
  have SX3_22 := SX3_21.below hb22 (by omega)
  have SX4_22 := SX4_21.below hb22 (by omega)
  have SG_22 := SG_21.below hb22 (by omega)
  have FT2_22 := oT2
  have MT2 := Lib.hid MT2'
  clear MT2'
  have TT2 : fansLen rsT2 ≤ 1048576 := by rw [fansLen_eq hr2 FT2_22.reads DT2]; omega
  have TMT2 := mksF_bnd rsT2
  have TLT2 := FT2_22.reads.len
  have HDT2 := Lib.hid DT2
  clear DT2
  have ST2_22 := Same.refl w21.heap.size w22.heap.size w22
  go_wp2_with fail; ((with_reducible refine (eqFanS_b _ _ n2 n2 n2 rsX2 rsT2 _ (FX2_13.same SX2_22).reads (FT2_22.same ST2_22).reads (HDX2.out.trans HDT2.out.symm) (by omega) MX2.out).mono ?_); rintro e w23 ⟨rfl, hb23⟩)
  have z23 : w22.heap.size ≤ w23.heap.size := hb23.size
  have B23 : Below w.heap.size w w23 := B22.trans (hb23.mono B22.size)
  have cP0_0_23 : w23.cell? ⟨w.heap.size, 0, none⟩ = some (.int .i64 J0) := (hb23.cell (block_lt_of_cell cP0_0_22)).trans cP0_0_22
  have cP0_1_23 : w23.cell? ⟨w.heap.size, 1, none⟩ = some (.slice A0 n0 c0) := (hb23.cell (block_lt_of_cell cP0_1_22)).trans cP0_1_22
  clear cP0_0_22 cP0_1_22
  have cX0_0_23 : w23.cell? ⟨w10.heap.size, 0, none⟩ = some (.int .i64 J0) := (hb23.cell (block_lt_of_cell cX0_0_22)).trans cX0_0_22
  have cX0_1_23 : w23.cell? ⟨w10.heap.size, 1, none⟩ = some (.slice AX0 n0 n0) := (hb23.cell (block_lt_of_cell cX0_1_22)).trans cX0_1_22
  clear cX0_0_22 cX0_1_22
  have SW_23 := SW_22.below hb23 (by omega)
  have SX0_23 := SX0_22.below hb23 (by omega)
  have SX1_23 := SX1_22.below hb23 (by omega)
  have SX2_23 := SX2_22.below hb23 (by omega)
  have SX3_23 := SX3_22.below hb23 (by omega)
  have SX4_23 := SX4_22.below hb23 (by omega)
  have SG_23 := SG_22.below hb23 (by omega)
  have ST2_23 := ST2_22.below hb23 (by omega)
  go_wp2_with fail; ((with_reducible refine (toInt64S_any A3 n3 c3 xs3 _ ((hr3.below B23).more B23.size) hn3).mono ?_); rintro e w24 ⟨rfl, oT3, hb24⟩)
  have z24 : w23.heap.size ≤ w24.heap.size := hb24.size
  have B24 : Below w.heap.size w w24 := B23.trans (hb24.mono B23.size)
  have cP0_0_24 : w24.cell? ⟨w.heap.size, 0, none⟩ = some (.int .i64 J0) := (hb24.cell (block_lt_of_cell cP0_0_23)).trans cP0_0_23
  have cP0_1_24 : w24.cell? ⟨w.heap.size, 1, none⟩ = some (.slice A0 n0 c0) := (hb24.cell (block_lt_of_cell cP0_1_23)).trans cP0_1_23
  clear cP0_0_23 cP0_1_23
  have cX0_0_24 : w24.cell? ⟨w10.heap.size, 0, none⟩ = some (.int .i64 J0) := (hb24.cell (block_lt_of_cell cX0_0_23)).trans cX0_0_23
  have cX0_1_24 : w24.cell? ⟨w10.heap.size, 1, none⟩ = some (.slice AX0 n0 n0) := (hb24.cell (block_lt_of_cell cX0_1_23)).trans cX0_1_23
  clear cX0_0_23 cX0_1_23
  have SW_24 := SW_23.below hb24 (by omega)
  have SX0_24 := SX0_23.below hb24 (by omega)
  have SX1_24 := SX1_23.below hb24 (by omega)
  have SX2_24 := SX2_23.below hb24 (by omega)
  have SX3_24 := SX3_23.below hb24 (by omega)
  have SX4_24 := SX4_23.below hb24 (by omega)
  have SG_24 := SG_23.below hb24 (by omega)
  have FT3_24 := own_mk oT3
  have ST3_24 := Same.refl w23.heap.size w24.heap.size w24
  go_wp2_with fail; ((with_reducible refine (eqInt64S_b _ _ n3 n3 n3 xs3 _ (FX3_14.same SX3_24).reads (FT3_24.same ST3_24).reads (by omega)).mono ?_); rintro e w25 ⟨rfl, hb25⟩)
  have z25 : w24.heap.size ≤ w25.heap.size := hb25.size
  have B25 : Below w.heap.size w w25 := B24.trans (hb25.mono B24.size)
  have cP0_0_25 : w25.cell? ⟨w.heap.size, 0, none⟩ = some (.int .i64 J0) := (hb25.cell (block_lt_of_cell cP0_0_24)).trans cP0_0_24
  have cP0_1_25 : w25.cell? ⟨w.heap.size, 1, none⟩ = some (.slice A0 n0 c0) := (hb25.cell (block_lt_of_cell cP0_1_24)).trans cP0_1_24
  clear cP0_0_24 cP0_1_24
  have cX0_0_25 : w25.cell? ⟨w10.heap.size, 0, none⟩ = some (.int .i64 J0) := (hb25.cell (block_lt_of_cell cX0_0_24)).trans cX0_0_24
  have cX0_1_25 : w25.cell? ⟨w10.heap.size, 1, none⟩ = some (.slice AX0 n0 n0) := (hb25.cell (block_lt_of_cell cX0_1_24)).trans cX0_1_24
  clear cX0_0_24 cX0_1_24
  have SW_25 := SW_24.below hb25 (by omega)
  have SX0_25 := SX0_24.below hb25 (by omega)
  have SX1_25 := SX1_24.below hb25 (by omega)
  have SX2_25 := SX2_24.below hb25 (by omega)
  have SX3_25 := SX3_24.below hb25 (by omega)
  have SX4_25 := SX4_24.below hb25 (by omega)
  have SG_25 := SG_24.below hb25 (by omega)
  have ST3_25 := ST3_24.below hb25 (by omega)
  go_wp2_with fail; ((with_reducible refine (toInt64S_any A4 n4 c4 xs4 _ ((hr4.below B25).more B25.size) hn4).mono ?_); rintro e w26 ⟨rfl, oT4, hb26⟩)
  have z26 : w25.heap.size ≤ w26.heap.size := hb26.size
  have B26 : Below w.heap.size w w26 := B25.trans (hb26.mono B25.size)
  have cP0_0_26 : w26.cell? ⟨w.heap.size, 0, none⟩ = some (.int .i64 J0) := (hb26.cell (block_lt_of_cell cP0_0_25)).trans cP0_0_25
  have cP0_1_26 : w26.cell? ⟨w.heap.size, 1, none⟩ = some (.slice A0 n0 c0) := (hb26.cell (block_lt_of_cell cP0_1_25)).trans cP0_1_25
  clear cP0_0_25 cP0_1_25
  have cX0_0_26 : w26.cell? ⟨w10.heap.size, 0, none⟩ = some (.int .i64 J0) := (hb26.cell (block_lt_of_cell cX0_0_25)).trans cX0_0_25
  have cX0_1_26 : w26.cell? ⟨w10.heap.size, 1, none⟩ = some (.slice AX0 n0 n0) := (hb26.cell (block_lt_of_cell cX0_1_25)).trans cX0_1_25
  clear cX0_0_25 cX0_1_25
  have SW_26 := SW_25.below hb26 (by omega)
  have SX0_26 := SX0_25.below hb26 (by omega)
  have SX1_26 := SX1_25.below hb26 (by omega)
  have SX2_26 := SX2_25.below hb26 (by omega)
  have SX3_26 := SX3_25.below hb26 (by omega)
  have SX4_26 := SX4_25.below hb26 (by omega)
  have SG_26 := SG_25.below hb26 (by omega)
  have FT4_26 := own_mk oT4
  have ST4_26 := Same.refl w25.heap.size w26.heap.size w26
  go_wp2_with fail; ((with_reducible refine (eqInt64S_b _ _ n4 n4 n4 xs4 _ (FX4_15.same SX4_26).reads (FT4_26.same ST4_26).reads (by omega)).mono ?_); rintro e w27 ⟨rfl, hb27⟩)
  have z27 : w26.heap.size ≤ w27.heap.size := hb27.size
  have B27 : Below w.heap.size w w27 := B26.trans (hb27.mono B26.size)
  have cP0_0_27 : w27.cell? ⟨w.heap.size, 0, none⟩ = some (.int .i64 J0) := (hb27.cell (block_lt_of_cell cP0_0_26)).trans cP0_0_26
  have cP0_1_27 : w27.cell? ⟨w.heap.size, 1, none⟩ = some (.slice A0 n0 c0) := (hb27.cell (block_lt_of_cell cP0_1_26)).trans cP0_1_26
  clear cP0_0_26 cP0_1_26
  have cX0_0_27 : w27.cell? ⟨w10.heap.size, 0, none⟩ = some (.int .i64 J0) := (hb27.cell (block_lt_of_cell cX0_0_26)).trans cX0_0_26
  have cX0_1_27 : w27.cell? ⟨w10.heap.size, 1, none⟩ = some (.slice AX0 n0 n0) := (hb27.cell (block_lt_of_cell cX0_1_26)).trans cX0_1_26
  clear cX0_0_26 cX0_1_26
  have SW_27 := SW_26.below hb27 (by omega)
  have SX0_27 := SX0_26.below hb27 (by omega)
  have SX1_27 := SX1_26.below hb27 (by omega)
  have SX2_27 := SX2_26.below hb27 (by omega)
  have SX3_27 := SX3_26.below hb27 (by omega)
  have SX4_27 := SX4_26.below hb27 (by omega)
  have SG_27 := SG_26.below hb27 (by omega)
  have ST4_27 := ST4_26.below hb27 (by omega)
  go_wp2_with fail; ((with_reducible refine (markMine_any J0 AX0 n0 n0 _ (1) _ w27 (FX0_10.same SX0_27).own (by omega) (by omega) (by omega)).mono ?_); rintro e w28 ⟨rfl, hb28⟩)
  have hc28 := Chg.of_grown hb28 (FX0_10.range)
  have z28 : w27.heap.size ≤ w28.heap.size := hc28.size
  have B28 : Below w.heap.size w w28 := below_chg B27 hc28 B9.size B27.size
  have SW_28 := SW_27.chg hc28 (by omega) (Or.inl (by omega))
  have SX1_28 := SX1_27.chg hc28 (by omega) (Or.inr (by omega))
  have SX2_28 := SX2_27.chg hc28 (by omega) (Or.inr (by omega))
  have SX3_28 := SX3_27.chg hc28 (by omega) (Or.inr (by omega))
  have SX4_28 := SX4_27.chg hc28 (by omega) (Or.inr (by omega))
  have SG_28 := SG_27.chg hc28 (by omega) (Or.inr (by omega))
  have cP0_0_28 : w28.cell? ⟨w.heap.size, 0, none⟩ = some (.int .i64 J0) := hc28.cell cP0_0_27 (Or.inl (by first | (show w.heap.size < _; omega) | (show w.heap.size + _ < _; omega)))
  have cP0_1_28 : w28.cell? ⟨w.heap.size, 1, none⟩ = some (.slice A0 n0 c0) := hc28.cell cP0_1_27 (Or.inl (by first | (show w.heap.size < _; omega) | (show w.heap.size + _ < _; omega)))
  clear cP0_0_27 cP0_1_27
  have cX0_0_28 : w28.cell? ⟨w10.heap.size, 0, none⟩ = some (.int .i64 J0) := hc28.cell cX0_0_27 (Or.inr (Nat.le_refl _))
  have cX0_1_28 : w28.cell? ⟨w10.heap.size, 1, none⟩ = some (.slice AX0 n0 n0) := hc28.cell cX0_1_27 (Or.inr (Nat.le_refl _))
  clear cX0_0_27 cX0_1_27
  go_wp2_with fail; ((with_reducible refine (markInt64S_any (some ⟨(w10.heap.size + 1), 0, none⟩) n1 n1 _ ((1) + 7 * n0) _ w28 (FX1_12.same SX1_28).own (by omega) (by omega) (by omega)).mono ?_); rintro e w29 ⟨rfl, oX129, hb29⟩)
  have hc29 := Chg.of_grown hb29 (FX1_12.range)
  have z29 : w28.heap.size ≤ w29.heap.size := hc29.size
  have B29 : Below w.heap.size w w29 := below_chg B28 hc29 (by omega) B28.size
  have SW_29 := SW_28.chg hc29 (by omega) (Or.inl (by omega))
  have SX2_29 := SX2_28.chg hc29 (by omega) (Or.inr (by omega))
  have SX3_29 := SX3_28.chg hc29 (by omega) (Or.inr (by omega))
  have SX4_29 := SX4_28.chg hc29 (by omega) (Or.inr (by omega))
  have SG_29 := SG_28.chg hc29 (by omega) (Or.inr (by omega))
  have cP0_0_29 : w29.cell? ⟨w.heap.size, 0, none⟩ = some (.int .i64 J0) := hc29.cell cP0_0_28 (Or.inl (by first | (show w.heap.size < _; omega) | (show w.heap.size + _ < _; omega)))
  have cP0_1_29 : w29.cell? ⟨w.heap.size, 1, none⟩ = some (.slice A0 n0 c0) := hc29.cell cP0_1_28 (Or.inl (by first | (show w.heap.size < _; omega) | (show w.heap.size + _ < _; omega)))
  clear cP0_0_28 cP0_1_28
  have cX0_0_29 : w29.cell? ⟨w10.heap.size, 0, none⟩ = some (.int .i64 J0) := hc29.cell cX0_0_28 (Or.inl (by show w10.heap.size < _; omega))
  have cX0_1_29 : w29.cell? ⟨w10.heap.size, 1, none⟩ = some (.slice AX0 n0 n0) := hc29.cell cX0_1_28 (Or.inl (by show w10.heap.size < _; omega))
  clear cX0_0_28 cX0_1_28
  have FX1_29 : Own w29 (w10.heap.size + 1) w12.heap.size _ _ _ _ _ _ := ⟨oX129, FX1_12.top⟩
  have SX1_29 := Same.refl (w10.heap.size + 1) w12.heap.size w29
  go_wp2_with fail; ((with_reducible refine (markFanS_any w12.heap.size w13.heap.size (some ⟨w12.heap.size, 0, none⟩) n2 n2 rsX2 (((1) + 7 * n0) + n1) w29 (FX2_13.same SX2_29) (by omega) MX2.out TX2 (by omega) (by omega) (by omega)).mono ?_); rintro e w30 ⟨rfl, hb30⟩)
  have hc30 := hb30
  have z30 : w29.heap.size ≤ w30.heap.size := hc30.size
  have B30 : Below w.heap.size w w30 := below_chg B29 hc30 B12.size B29.size
  have SW_30 := SW_29.chg hc30 (by omega) (Or.inl (by omega))
  have SX3_30 := SX3_29.chg hc30 (by omega) (Or.inr (by omega))
  have SX4_30 := SX4_29.chg hc30 (by omega) (Or.inr (by omega))
  have SG_30 := SG_29.chg hc30 (by omega) (Or.inr (by omega))
  have cP0_0_30 : w30.cell? ⟨w.heap.size, 0, none⟩ = some (.int .i64 J0) := hc30.cell cP0_0_29 (Or.inl (by first | (show w.heap.size < _; omega) | (show w.heap.size + _ < _; omega)))
  have cP0_1_30 : w30.cell? ⟨w.heap.size, 1, none⟩ = some (.slice A0 n0 c0) := hc30.cell cP0_1_29 (Or.inl (by first | (show w.heap.size < _; omega) | (show w.heap.size + _ < _; omega)))
  clear cP0_0_29 cP0_1_29
  have cX0_0_30 : w30.cell? ⟨w10.heap.size, 0, none⟩ = some (.int .i64 J0) := hc30.cell cX0_0_29 (Or.inl (by show w10.heap.size < _; omega))
  have cX0_1_30 : w30.cell? ⟨w10.heap.size, 1, none⟩ = some (.slice AX0 n0 n0) := hc30.cell cX0_1_29 (Or.inl (by show w10.heap.size < _; omega))
  clear cX0_0_29 cX0_1_29
  go_wp2_with fail; ((with_reducible refine (markInt64S_any (some ⟨w13.heap.size, 0, none⟩) n3 n3 _ ((((1) + 7 * n0) + n1) + mksF rsX2) _ w30 (FX3_14.same SX3_30).own (by omega) (by omega) (by omega)).mono ?_); rintro e w31 ⟨rfl, oX331, hb31⟩)
  have hc31 := Chg.of_grown hb31 (FX3_14.range)
  have z31 : w30.heap.size ≤ w31.heap.size := hc31.size
  have B31 : Below w.heap.size w w31 := below_chg B30 hc31 B13.size B30.size
  have SW_31 := SW_30.chg hc31 (by omega) (Or.inl (by omega))
  have SX4_31 := SX4_30.chg hc31 (by omega) (Or.inr (by omega))
  have SG_31 := SG_30.chg hc31 (by omega) (Or.inr (by omega))
  have cP0_0_31 : w31.cell? ⟨w.heap.size, 0, none⟩ = some (.int .i64 J0) := hc31.cell cP0_0_30 (Or.inl (by first | (show w.heap.size < _; omega) | (show w.heap.size + _ < _; omega)))
  have cP0_1_31 : w31.cell? ⟨w.heap.size, 1, none⟩ = some (.slice A0 n0 c0) := hc31.cell cP0_1_30 (Or.inl (by first | (show w.heap.size < _; omega) | (show w.heap.size + _ < _; omega)))
  clear cP0_0_30 cP0_1_30
  have cX0_0_31 : w31.cell? ⟨w10.heap.size, 0, none⟩ = some (.int .i64 J0) := hc31.cell cX0_0_30 (Or.inl (by show w10.heap.size < _; omega))
  have cX0_1_31 : w31.cell? ⟨w10.heap.size, 1, none⟩ = some (.slice AX0 n0 n0) := hc31.cell cX0_1_30 (Or.inl (by show w10.heap.size < _; omega))
  clear cX0_0_30 cX0_1_30
  have FX3_31 : Own w31 w13.heap.size w14.heap.size _ _ _ _ _ _ := ⟨oX331, FX3_14.top⟩
  have SX3_31 := Same.refl w13.heap.size w14.heap.size w31
  go_wp2_with fail; ((with_reducible refine (markInt64S_any (some ⟨w14.heap.size, 0, none⟩) n4 n4 _ (((((1) + 7 * n0) + n1) + mksF rsX2) + n3) _ w31 (FX4_15.same SX4_31).own (by omega) (by omega) (by omega)).mono ?_); rintro e w32 ⟨rfl, oX432, hb32⟩)
  have hc32 := Chg.of_grown hb32 (FX4_15.range)
  have z32 : w31.heap.size ≤ w32.heap.size := hc32.size
  have B32 : Below w.heap.size w w32 := below_chg B31 hc32 B14.size B31.size
  have SW_32 := SW_31.chg hc32 (by omega) (Or.inl (by omega))
  have SG_32 := SG_31.chg hc32 (by omega) (Or.inr (by omega))
  have cP0_0_32 : w32.cell? ⟨w.heap.size, 0, none⟩ = some (.int .i64 J0) := hc32.cell cP0_0_31 (Or.inl (by first | (show w.heap.size < _; omega) | (show w.heap.size + _ < _; omega)))
  have cP0_1_32 : w32.cell? ⟨w.heap.size, 1, none⟩ = some (.slice A0 n0 c0) := hc32.cell cP0_1_31 (Or.inl (by first | (show w.heap.size < _; omega) | (show w.heap.size + _ < _; omega)))
  clear cP0_0_31 cP0_1_31
  have cX0_0_32 : w32.cell? ⟨w10.heap.size, 0, none⟩ = some (.int .i64 J0) := hc32.cell cX0_0_31 (Or.inl (by show w10.heap.size < _; omega))
  have cX0_1_32 : w32.cell? ⟨w10.heap.size, 1, none⟩ = some (.slice AX0 n0 n0) := hc32.cell cX0_1_31 (Or.inl (by show w10.heap.size < _; omega))
  clear cX0_0_31 cX0_1_31
  have FX4_32 : Own w32 w14.heap.size w15.heap.size _ _ _ _ _ _ := ⟨oX432, FX4_15.top⟩
  have SX4_32 := Same.refl w14.heap.size w15.heap.size w32
  go_wp2_with fail; ((with_reducible refine (eqInt64S_b _ _ nG cG cW _ _ (FG_16.same SG_32).reads (FW_9.same SW_32).reads (by omega)).mono ?_); rintro e w33 ⟨rfl, hb33⟩)
  have z33 : w32.heap.size ≤ w33.heap.size := hb33.size
  have B33 : Below w.heap.size w w33 := B32.trans (hb33.mono B32.size)
  have cP0_0_33 : w33.cell? ⟨w.heap.size, 0, none⟩ = some (.int .i64 J0) := (hb33.cell (block_lt_of_cell cP0_0_32)).trans cP0_0_32
  have cP0_1_33 : w33.cell? ⟨w.heap.size, 1, none⟩ = some (.slice A0 n0 c0) := (hb33.cell (block_lt_of_cell cP0_1_32)).trans cP0_1_32
  clear cP0_0_32 cP0_1_32
  have cX0_0_33 : w33.cell? ⟨w10.heap.size, 0, none⟩ = some (.int .i64 J0) := (hb33.cell (block_lt_of_cell cX0_0_32)).trans cX0_0_32
  have cX0_1_33 : w33.cell? ⟨w10.heap.size, 1, none⟩ = some (.slice AX0 n0 n0) := (hb33.cell (block_lt_of_cell cX0_1_32)).trans cX0_1_32
  clear cX0_0_32 cX0_1_32
  have SW_33 := SW_32.below hb33 (by omega)
  have SG_33 := SG_32.below hb33 (by omega)
  go_wp2_with fail; ((with_reducible refine (markInt64S_any AG nG cG _ (1) _ w33 (FG_16.same SG_33).own (by omega) (by omega) (by omega)).mono ?_); rintro e w34 ⟨rfl, oG34, hb34⟩)
  have hc34 := Chg.of_grown hb34 (FG_16.range)
  have z34 : w33.heap.size ≤ w34.heap.size := hc34.size
  have B34 : Below w.heap.size w w34 := below_chg B33 hc34 B15.size B33.size
  have SW_34 := SW_33.chg hc34 (by omega) (Or.inl (by omega))
  have cP0_0_34 : w34.cell? ⟨w.heap.size, 0, none⟩ = some (.int .i64 J0) := hc34.cell cP0_0_33 (Or.inl (by first | (show w.heap.size < _; omega) | (show w.heap.size + _ < _; omega)))
  have cP0_1_34 : w34.cell? ⟨w.heap.size, 1, none⟩ = some (.slice A0 n0 c0) := hc34.cell cP0_1_33 (Or.inl (by first | (show w.heap.size < _; omega) | (show w.heap.size + _ < _; omega)))
  clear cP0_0_33 cP0_1_33
  have cX0_0_34 : w34.cell? ⟨w10.heap.size, 0, none⟩ = some (.int .i64 J0) := hc34.cell cX0_0_33 (Or.inl (by show w10.heap.size < _; omega))
  have cX0_1_34 : w34.cell? ⟨w10.heap.size, 1, none⟩ = some (.slice AX0 n0 n0) := hc34.cell cX0_1_33 (Or.inl (by show w10.heap.size < _; omega))
  clear cX0_0_33 cX0_1_33
  have FG_34 : Own w34 w15.heap.size w16.heap.size _ _ _ _ _ _ := ⟨oG34, FG_16.top⟩
  have SG_34 := Same.refl w15.heap.size w16.heap.size w34
  go_wp2_with fail; ((with_reducible refine (heldInt64S_any _ nG cG 1 w34 (FG_34.same SG_34).reads (by omega) (by omega) (by omega)).mono ?_); rintro e w' ⟨rfl, rfl⟩)
  go_wp2_with fail; ((with_reducible refine (toMine_any J0 A0 n0 c0 xs0 _ ((hr0.below B34).more B34.size) hn0 HM0.out).mono ?_); rintro e w35 ⟨AU0, rfl, oU0, hb35⟩)
  have z35 : w34.heap.size ≤ w35.heap.size := hb35.size
  have B35 : Below w.heap.size w w35 := B34.trans (hb35.mono B34.size)
  have cP0_0_35 : w35.cell? ⟨w.heap.size, 0, none⟩ = some (.int .i64 J0) := (hb35.cell (block_lt_of_cell cP0_0_34)).trans cP0_0_34
  have cP0_1_35 : w35.cell? ⟨w.heap.size, 1, none⟩ = some (.slice A0 n0 c0) := (hb35.cell (block_lt_of_cell cP0_1_34)).trans cP0_1_34
  clear cP0_0_34 cP0_1_34
  have cX0_0_35 : w35.cell? ⟨w10.heap.size, 0, none⟩ = some (.int .i64 J0) := (hb35.cell (block_lt_of_cell cX0_0_34)).trans cX0_0_34
  have cX0_1_35 : w35.cell? ⟨w10.heap.size, 1, none⟩ = some (.slice AX0 n0 n0) := (hb35.cell (block_lt_of_cell cX0_1_34)).trans cX0_1_34
  clear cX0_0_34 cX0_1_34
  have SW_35 := SW_34.below hb35 (by omega)
  have SG_35 := SG_34.below hb35 (by omega)
  have FU0_35 := own_mk oU0
  have SU0_35 := Same.refl w34.heap.size w35.heap.size w35
  go_wp2_with fail; ((with_reducible refine (toInt64S_any A1 n1 c1 xs1 _ ((hr1.below B35).more B35.size) hn1).mono ?_); rintro e w36 ⟨rfl, oU1, hb36⟩)
  have z36 : w35.heap.size ≤ w36.heap.size := hb36.size
  have B36 : Below w.heap.size w w36 := B35.trans (hb36.mono B35.size)
  have cP0_0_36 : w36.cell? ⟨w.heap.size, 0, none⟩ = some (.int .i64 J0) := (hb36.cell (block_lt_of_cell cP0_0_35)).trans cP0_0_35
  have cP0_1_36 : w36.cell? ⟨w.heap.size, 1, none⟩ = some (.slice A0 n0 c0) := (hb36.cell (block_lt_of_cell cP0_1_35)).trans cP0_1_35
  clear cP0_0_35 cP0_1_35
  have cX0_0_36 : w36.cell? ⟨w10.heap.size, 0, none⟩ = some (.int .i64 J0) := (hb36.cell (block_lt_of_cell cX0_0_35)).trans cX0_0_35
  have cX0_1_36 : w36.cell? ⟨w10.heap.size, 1, none⟩ = some (.slice AX0 n0 n0) := (hb36.cell (block_lt_of_cell cX0_1_35)).trans cX0_1_35
  clear cX0_0_35 cX0_1_35
  have SW_36 := SW_35.below hb36 (by omega)
  have SG_36 := SG_35.below hb36 (by omega)
  have SU0_36 := SU0_35.below hb36 (by omega)
  have FU1_36 := own_mk oU1
  have SU1_36 := Same.refl w35.heap.size w36.heap.size w36
  go_wp2_with fail; ((with_reducible refine (toFanS_any A2 n2 c2 xs2 _ ((hr2.below B36).more B36.size) hn2 hok2.out).mono ?_); rintro e w37 ⟨rsU2, rfl, oU2, DU2, MU2', hb37⟩)
  have z37 : w36.heap.size ≤ w37.heap.size := hb37.size
  have B37 : Below w.heap.size w w37 := B36.trans (hb37.mono B36.size)
  have cP0_0_37 : w37.cell? ⟨w.heap.size, 0, none⟩ = some (.int .i64 J0) := (hb37.cell (block_lt_of_cell cP0_0_36)).trans cP0_0_36
  have cP0_1_37 : w37.cell? ⟨w.heap.size, 1, none⟩ = some (.slice A0 n0 c0) := (hb37.cell (block_lt_of_cell cP0_1_36)).trans cP0_1_36
  clear cP0_0_36 cP0_1_36
  have cX0_0_37 : w37.cell? ⟨w10.heap.size, 0, none⟩ = some (.int .i64 J0) := (hb37.cell (block_lt_of_cell cX0_0_36)).trans cX0_0_36
  have cX0_1_37 : w37.cell? ⟨w10.heap.size, 1, none⟩ = some (.slice AX0 n0 n0) := (hb37.cell (block_lt_of_cell cX0_1_36)).trans cX0_1_36
  clear cX0_0_36 cX0_1_36
  have SW_37 := SW_36.below hb37 (by omega)
  have SG_37 := SG_36.below hb37 (by omega)
  have SU0_37 := SU0_36.below hb37 (by omega)
  have SU1_37 := SU1_36.below hb37 (by omega)
  have FU2_37 := oU2
  have MU2 := Lib.hid MU2'
  clear MU2'
  have TU2 : fansLen rsU2 ≤ 1048576 := by rw [fansLen_eq hr2 FU2_37.reads DU2]; omega
  have TMU2 := mksF_bnd rsU2
  have TLU2 := FU2_37.reads.len
  have HDU2 := Lib.hid DU2
  clear DU2
  have SU2_37 := Same.refl w36.heap.size w37.heap.size w37
  go_wp2_with fail; ((with_reducible refine (toInt64S_any A3 n3 c3 xs3 _ ((hr3.below B37).more B37.size) hn3).mono ?_); rintro e w38 ⟨rfl, oU3, hb38⟩)
  have z38 : w37.heap.size ≤ w38.heap.size := hb38.size
  have B38 : Below w.heap.size w w38 := B37.trans (hb38.mono B37.size)
  have cP0_0_38 : w38.cell? ⟨w.heap.size, 0, none⟩ = some (.int .i64 J0) := (hb38.cell (block_lt_of_cell cP0_0_37)).trans cP0_0_37
  have cP0_1_38 : w38.cell? ⟨w.heap.size, 1, none⟩ = some (.slice A0 n0 c0) := (hb38.cell (block_lt_of_cell cP0_1_37)).trans cP0_1_37
  clear cP0_0_37 cP0_1_37
  have cX0_0_38 : w38.cell? ⟨w10.heap.size, 0, none⟩ = some (.int .i64 J0) := (hb38.cell (block_lt_of_cell cX0_0_37)).trans cX0_0_37
  have cX0_1_38 : w38.cell? ⟨w10.heap.size, 1, none⟩ = some (.slice AX0 n0 n0) := (hb38.cell (block_lt_of_cell cX0_1_37)).trans cX0_1_37
  clear cX0_0_37 cX0_1_37
  have SW_38 := SW_37.below hb38 (by omega)
  have SG_38 := SG_37.below hb38 (by omega)
  have SU0_38 := SU0_37.below hb38 (by omega)
  have SU1_38 := SU1_37.below hb38 (by omega)
  have SU2_38 := SU2_37.below hb38 (by omega)
  have FU3_38 := own_mk oU3
  have SU3_38 := Same.refl w37.heap.size w38.heap.size w38
  go_wp2_with fail; ((with_reducible refine (toInt64S_any A4 n4 c4 xs4 _ ((hr4.below B38).more B38.size) hn4).mono ?_); rintro e w39 ⟨rfl, oU4, hb39⟩)
  have z39 : w38.heap.size ≤ w39.heap.size := hb39.size
  have B39 : Below w.heap.size w w39 := B38.trans (hb39.mono B38.size)
  have cP0_0_39 : w39.cell? ⟨w.heap.size, 0, none⟩ = some (.int .i64 J0) := (hb39.cell (block_lt_of_cell cP0_0_38)).trans cP0_0_38
  have cP0_1_39 : w39.cell? ⟨w.heap.size, 1, none⟩ = some (.slice A0 n0 c0) := (hb39.cell (block_lt_of_cell cP0_1_38)).trans cP0_1_38
  clear cP0_0_38 cP0_1_38
  have cX0_0_39 : w39.cell? ⟨w10.heap.size, 0, none⟩ = some (.int .i64 J0) := (hb39.cell (block_lt_of_cell cX0_0_38)).trans cX0_0_38
  have cX0_1_39 : w39.cell? ⟨w10.heap.size, 1, none⟩ = some (.slice AX0 n0 n0) := (hb39.cell (block_lt_of_cell cX0_1_38)).trans cX0_1_38
  clear cX0_0_38 cX0_1_38
  have SW_39 := SW_38.below hb39 (by omega)
  have SG_39 := SG_38.below hb39 (by omega)
  have SU0_39 := SU0_38.below hb39 (by omega)
  have SU1_39 := SU1_38.below hb39 (by omega)
  have SU2_39 := SU2_38.below hb39 (by omega)
  have SU3_39 := SU3_38.below hb39 (by omega)
  have FU4_39 := own_mk oU4
  have SU4_39 := Same.refl w38.heap.size w39.heap.size w39
  have cc40 := implSolveFlows_any J0 AU0 n0 n0 xs0 (some ⟨w35.heap.size, 0, none⟩) n1 n1 xs1 (some ⟨w36.heap.size, 0, none⟩) n2 n2 rsU2 (some ⟨w37.heap.size, 0, none⟩) n3 n3 xs3 (some ⟨w38.heap.size, 0, none⟩) n4 n4 xs4 a5 a6 w39 (FU0_35.same SU0_39).reads hn0 HM0.out (FU1_36.same SU1_39).reads hn1 (FU2_37.same SU2_39).reads hn2 MU2.out (FU3_38.same SU3_39).reads hn3 (FU4_39.same SU4_39).reads hn4
  rw [HDU2.out] at cc40
  go_wp2_with fail; ((with_reducible refine (cc40).mono ?_); rintro e w40 ⟨AH, nH, cH, rfl, oH, hnH, hb40⟩)
  have z40 : w39.heap.size ≤ w40.heap.size := hb40.size
  have B40 : Below w.heap.size w w40 := B39.trans (hb40.mono B39.size)
  have cP0_0_40 : w40.cell? ⟨w.heap.size, 0, none⟩ = some (.int .i64 J0) := (hb40.cell (block_lt_of_cell cP0_0_39)).trans cP0_0_39
  have cP0_1_40 : w40.cell? ⟨w.heap.size, 1, none⟩ = some (.slice A0 n0 c0) := (hb40.cell (block_lt_of_cell cP0_1_39)).trans cP0_1_39
  clear cP0_0_39 cP0_1_39
  have cX0_0_40 : w40.cell? ⟨w10.heap.size, 0, none⟩ = some (.int .i64 J0) := (hb40.cell (block_lt_of_cell cX0_0_39)).trans cX0_0_39
  have cX0_1_40 : w40.cell? ⟨w10.heap.size, 1, none⟩ = some (.slice AX0 n0 n0) := (hb40.cell (block_lt_of_cell cX0_1_39)).trans cX0_1_39
  clear cX0_0_39 cX0_1_39
  have SW_40 := SW_39.below hb40 (by omega)
  have SG_40 := SG_39.below hb40 (by omega)
  have SU0_40 := SU0_39.below hb40 (by omega)
  have SU1_40 := SU1_39.below hb40 (by omega)
  have SU2_40 := SU2_39.below hb40 (by omega)
  have SU3_40 := SU3_39.below hb40 (by omega)
  have SU4_40 := SU4_39.below hb40 (by omega)
  have FH_40 := own_mk oH
  have SH_40 := Same.refl w39.heap.size w40.heap.size w40
  clear cc40
  obtain rfl : nH = nG := by have h1 := FH_40.own.1; have h2 := FW_9.own.1; omega
  go_wp2_with fail; ((with_reducible refine (eqInt64S_b _ _ nH cH cW _ _ (FH_40.same SH_40).reads (FW_9.same SW_40).reads (by omega)).mono ?_); rintro e w41 ⟨rfl, hb41⟩)
  have z41 : w40.heap.size ≤ w41.heap.size := hb41.size
  have B41 : Below w.heap.size w w41 := B40.trans (hb41.mono B40.size)
  have cP0_0_41 : w41.cell? ⟨w.heap.size, 0, none⟩ = some (.int .i64 J0) := (hb41.cell (block_lt_of_cell cP0_0_40)).trans cP0_0_40
  have cP0_1_41 : w41.cell? ⟨w.heap.size, 1, none⟩ = some (.slice A0 n0 c0) := (hb41.cell (block_lt_of_cell cP0_1_40)).trans cP0_1_40
  clear cP0_0_40 cP0_1_40
  have cX0_0_41 : w41.cell? ⟨w10.heap.size, 0, none⟩ = some (.int .i64 J0) := (hb41.cell (block_lt_of_cell cX0_0_40)).trans cX0_0_40
  have cX0_1_41 : w41.cell? ⟨w10.heap.size, 1, none⟩ = some (.slice AX0 n0 n0) := (hb41.cell (block_lt_of_cell cX0_1_40)).trans cX0_1_40
  clear cX0_0_40 cX0_1_40
  have SW_41 := SW_40.below hb41 (by omega)
  have SG_41 := SG_40.below hb41 (by omega)
  have SH_41 := SH_40.below hb41 (by omega)
  go_wp2_with fail; ((with_reducible refine (heldInt64S_any _ nH cG 1 w41 (FG_34.same SG_41).reads (by omega) (by omega) (by omega)).mono ?_); rintro e w' ⟨rfl, rfl⟩)
  go_wp2
  go_ret
  exact ⟨rfl, B41⟩

set_option maxRecDepth 100000 in
theorem lifted (os : Os) (started : os.Started) (H : Type) (enc : TypeId × Value → H) :
    ReturnsInHanded {} Tryz.checked os 3 .any (Rows.fnExactSolveFlowsSpec.pre6 enc Tryz.prog Tryz.f3 Rows.fnExactSolveFlowsRow.domain false) (Rows.fnExactSolveFlowsSpec.post enc Tryz.prog Tryz.f3 false true false false) := by
  refine returnsInHanded_of_change (C := Tryz.checked) own_ started (by kernel_rfl) Tryz.func3
    (ChangeSpec.witness6 (enc := enc) (C := Tryz.checked) false ⟨#[], #[.agg #[.int .i64 0, .slice none 0 0], .slice none 0 0, .slice none 0 0, .slice none 0 0, .slice none 0 0, .int .i64 0, .int .i64 0], []⟩ 12 (by kernel_rfl) (by kernel_rfl) (by kernel_rfl) (by kernel_rfl)) ?_
  intro W base args ds gs before hval0 hW hcnd _
  have hval : ∀ (j : Nat) t v, Tryz.f3.params[j]? = some t → args[j]? = some v → Value.okWide Tryz.prog W .any base t v := hval0
  have hW' := hW
  obtain ⟨p, q, hA0, hV, rfl, hfz, hnd⟩ := hW
  have hA : DataW.TrodAll enc Tryz.prog W 0 (fun _ => true) true Tryz.f3.params.toList args.toList ds p := hA0
  rw [Tryz.params3] at hA hval
  obtain ⟨v0, vs0, d0, ds0, p0, q0, hargs, rfl, rfl, h0, r0⟩ := trodAll_cons hA
  obtain ⟨v1, vs1, d1, ds1, p1, q1, rfl, rfl, rfl, h1, r1⟩ := trodAll_cons r0
  obtain ⟨v2, vs2, d2, ds2, p2, q2, rfl, rfl, rfl, h2, r2⟩ := trodAll_cons r1
  obtain ⟨v3, vs3, d3, ds3, p3, q3, rfl, rfl, rfl, h3, r3⟩ := trodAll_cons r2
  obtain ⟨v4, vs4, d4, ds4, p4, q4, rfl, rfl, rfl, h4, r4⟩ := trodAll_cons r3
  obtain ⟨v5, vs5, d5, ds5, p5, q5, rfl, rfl, rfl, h5, r5⟩ := trodAll_cons r4
  obtain ⟨v6, vs6, d6, ds6, p6, q6, rfl, rfl, rfl, h6, r6⟩ := trodAll_cons r5
  obtain ⟨rfl, rfl, rfl⟩ := trodAll_nil r6
  obtain rfl : args = #[v0, v1, v2, v3, v4, v5, v6] := by cases args; simp_all
  obtain ⟨rfl, rfl⟩ := trodVars_none hV
  obtain ⟨J0, A0, n0, c0, xs0, rfl, lc0, gc0, hr0, hm0⟩ := op_mine Tryz.underlying24 (by kernel_rfl) (by kernel_rfl) Tryz.underlying2 Tryz.underlying22 Tryz.underlying76 (by kernel_rfl) (by kernel_rfl) Tryz.underlying9 Tryz.underlying2 Tryz.underlying2 Tryz.underlying2 Tryz.underlying2 Tryz.underlying2 Tryz.underlying2 (hval 0 24 v0 rfl rfl) h0
  obtain ⟨A1, n1, c1, xs1, rfl, lc1, gc1, hr1⟩ := op_ints Tryz.underlying25 Tryz.underlying2 (by kernel_rfl) (hval 1 25 v1 rfl rfl) h1
  obtain ⟨A2, n2, c2, xs2, rfl, lc2, gc2, hr2, hm2⟩ := op_fansS Tryz.underlying26 Tryz.underlying49 (by kernel_rfl) (by kernel_rfl) Tryz.underlying9 Tryz.underlying2 Tryz.underlying47 Tryz.underlying25 Tryz.underlying2 (by kernel_rfl) (by kernel_rfl) (hval 2 26 v2 rfl rfl) h2
  obtain ⟨A3, n3, c3, xs3, rfl, lc3, gc3, hr3⟩ := op_ints Tryz.underlying25 Tryz.underlying2 (by kernel_rfl) (hval 3 25 v3 rfl rfl) h3
  obtain ⟨A4, n4, c4, xs4, rfl, lc4, gc4, hr4⟩ := op_ints Tryz.underlying25 Tryz.underlying2 (by kernel_rfl) (hval 4 25 v4 rfl rfl) h4
  obtain ⟨a5, rfl, la5, ga5⟩ := op_int Tryz.underlying2 (hval 5 2 v5 rfl rfl) h5
  obtain ⟨a6, rfl, la6, ga6⟩ := op_int Tryz.underlying2 (hval 6 2 v6 rfl rfl) h6
  clear hA0 hval0
  refine (walk J0 A0 n0 c0 xs0 lc0 gc0 A1 n1 c1 xs1 lc1 gc1 A2 n2 c2 xs2 lc2 gc2 A3 n3 c3 xs3 lc3 gc3 A4 n4 c4 xs4 lc4 gc4 a5 la5 ga5 a6 la6 ga6 W hr0 hm0 hr1 hr2 hm2 hr3 hr4).mono fun e W' ⟨he, hb⟩ => ?_
  subst he
  exact ⟨_, rfl, law_post laidOut_ (by kernel_rfl) rfl rfl Tryz.underlying4 hW' rfl hb⟩

theorem over : Rows.fnExactSolveFlowsRow.holds Tryz.pinned (OpenSpec.ofChange Rows.fnExactSolveFlowsSpec) :=
  OpenClaim.holds_of_wide 3 Tryz.f3 rfl rfl rfl rfl rfl rfl rfl ⟨rfl, rfl, rfl, rfl, rfl⟩ rfl rfl rfl rfl rfl (by kernel_rfl) Tryz.func3 (by kernel_rfl)
    (of_decide_eq_true (by kernel_rfl)) (by unfold Func.isWrapper; first | (rw [if_pos (by decide +kernel)]; kernel_rfl) | (rw [if_neg (by decide +kernel)]; exact ⟨rfl, rfl⟩))
    (fun os started H enc _ => lifted os started H enc)

/-- The statement. -/
theorem proved : Rows.FnExactSolveFlowsSaid := over
#print axioms proved
end Go.Proofs.YtjmhhbjbmgpagaaGreat.lSolveFlows
