/- The law FnExactReadFan: for all arguments the program's ReadFan and the reference's return the same, and the result shares no memory with an argument or with the result of another call; no condition. -/
import Derived.Test.YtdooajiobpjihaaDoorFrame
import Derived.Test.YtdooajiobpjihaaDoorOwn
import Derived.Test.YtdooajiobpjihaaDoorFrN
import Derived.Test.YtdooajiobpjihaaDoorFanH
import Derived.Test.YtdooajiobpjihaaDoorMkR
import Derived.Test.YtdooajiobpjihaaDoorRfI
import Derived.Test.YtdooajiobpjihaaDoorCrd
import Derived.Lay
import Derived.Test.YtdooajiobpjihaaDoorTie
import Derived.Test.YtdooajiobpjihaaDoorCards
import Derived.ProofKit
import Derived.LaidMore
import Derived.OpenShut
import Derived.SevenTiedAt
import Derived.Stop.Joined
namespace Go.Proofs.YtdooajiobpjihaaDoor.lReadFan
set_option linter.unusedVariables false
set_option linter.unusedSimpArgs false
open Go.ChangeShapes Go.WideShapes Go.ChangeAt Go.RowKit
set_option maxHeartbeats 4000000 in
set_option maxRecDepth 100000 in
theorem walk (s0 : ByteArray) (ls0 : s0.size ≤ maxLen) (w : World)  (ht : Lib3 w) :
    Calls Tryd.prog 8 #[.string s0] w fun e w' => e = .returned (.bool true) ∧ Below w.heap.size w w' := by
  have HTP := Lib.hid (fun W (hb : Below w.heap.size w W) => lib3_below ht hb)
  clear ht
  by_cases big0 : 1048576 < s0.size
  · go_enter Tryd.func8, Tryd.ntmps8
    go_wp2
    go_ret
    exact ⟨rfl, by (repeat (first | exact Below.refl _ _ | assumption | (refine Below.alloc ?_ (by first | exact Nat.le_refl _ | (simp; done) | (simp; omega)) _) | (refine below_drewN ?_ _) | (refine Below.trans ?_ (Below.mono (by assumption) (by first | exact Nat.le_refl _ | (simp; done) | (simp; omega) | omega)))))⟩
  have hn0 : s0.size ≤ 1048576 := by omega
  go_enter Tryd.func8, Tryd.ntmps8
  obtain ⟨kR, HkR⟩ : ∃ x : Bool, Hid (rfB s0.data.toList = x) := ⟨_, rfl⟩
  obtain ⟨sR, HsR⟩ : ∃ x : ByteArray, Hid (rfS s0.data.toList = x) := ⟨_, rfl⟩
  obtain ⟨aR, HaR⟩ : ∃ x : Int, Hid (rfA s0.data.toList = x) := ⟨_, rfl⟩
  obtain ⟨cR, HcR⟩ : ∃ x : List (List Int), Hid (rfC s0.data.toList = x) := ⟨_, rfl⟩
  have cc1 := specReadFan_any s0 w ls0 hn0
  unfold rfPost at cc1
  rw [HkR.out, HsR.out, HaR.out, HcR.out] at cc1
  go_wp2_with fail; ((with_reducible refine (cc1).mono ?_); rintro e w1 ⟨AW, nW, cW, rsW, rfl, oW, DW, hnW, MW', TW, hb1⟩)
  have z1 : w.heap.size ≤ w1.heap.size := hb1.size
  have B1 : Below w.heap.size w w1 := hb1
  have FW_1 := oss_mk oW
  have MW := Lib.hid MW'
  clear MW'
  have TNW := tot_nonneg rsW
  have HDW := Lib.hid DW
  clear DW
  have SW_1 := Same.refl w.heap.size w1.heap.size w1
  have z2 : w1.heap.size + 1 ≤ (w1.alloc (.cells #[Value.string sR, .int .i64 aR, .slice AW nW cW] 38)).heap.size := by simp
  have B2 : Below w.heap.size w (w1.alloc (.cells #[Value.string sR, .int .i64 aR, .slice AW nW cW] 38)) := B1.alloc B1.size _
  have cW_0_2 : (w1.alloc (.cells #[Value.string sR, .int .i64 aR, .slice AW nW cW] 38)).cell? ⟨w1.heap.size, 0, none⟩ = some (Value.string sR) := ((Blk.new w1 38 #[Value.string sR, .int .i64 aR, .slice AW nW cW]).cell 0).trans rfl
  have cW_1_2 : (w1.alloc (.cells #[Value.string sR, .int .i64 aR, .slice AW nW cW] 38)).cell? ⟨w1.heap.size, 1, none⟩ = some (.int .i64 aR) := ((Blk.new w1 38 #[Value.string sR, .int .i64 aR, .slice AW nW cW]).cell 1).trans rfl
  have cW_2_2 : (w1.alloc (.cells #[Value.string sR, .int .i64 aR, .slice AW nW cW] 38)).cell? ⟨w1.heap.size, 2, none⟩ = some (.slice AW nW cW) := ((Blk.new w1 38 #[Value.string sR, .int .i64 aR, .slice AW nW cW]).cell 2).trans rfl
  have SW_2 := SW_1.below (show Below w1.heap.size w1 (w1.alloc (.cells #[Value.string sR, .int .i64 aR, .slice AW nW cW] 38)) from (Below.refl _ _).alloc (Nat.le_refl _) _) (by omega)
  clear cc1
  have cc3 := implReadFan_any s0 (w1.alloc (.cells #[Value.string sR, .int .i64 aR, .slice AW nW cW] 38)) ls0 hn0 (HTP.out _ B2)
  unfold rfPost at cc3
  rw [HkR.out, HsR.out, HaR.out, HcR.out] at cc3
  go_wp2_with fail; ((with_reducible refine (cc3).mono ?_); rintro e w3 ⟨AG, nG, cG, rsG, rfl, oG, DG, hnG, MG', TG, hb3⟩)
  have z3 : (w1.alloc (.cells #[Value.string sR, .int .i64 aR, .slice AW nW cW] 38)).heap.size ≤ w3.heap.size := hb3.size
  have B3 : Below w.heap.size w w3 := B2.trans (hb3.mono B2.size)
  have cW_0_3 : w3.cell? ⟨w1.heap.size, 0, none⟩ = some (Value.string sR) := (hb3.cell (block_lt_of_cell cW_0_2)).trans cW_0_2
  have cW_1_3 : w3.cell? ⟨w1.heap.size, 1, none⟩ = some (.int .i64 aR) := (hb3.cell (block_lt_of_cell cW_1_2)).trans cW_1_2
  have cW_2_3 : w3.cell? ⟨w1.heap.size, 2, none⟩ = some (.slice AW nW cW) := (hb3.cell (block_lt_of_cell cW_2_2)).trans cW_2_2
  clear cW_0_2 cW_1_2 cW_2_2
  have SW_3 := SW_2.below hb3 (by omega)
  rw [show (w1.alloc (.cells #[Value.string sR, .int .i64 aR, .slice AW nW cW] 38)).heap.size = (w1.heap.size + 1) by simp] at oG
  have FG_3 := oss_mk oG
  have MG := Lib.hid MG'
  clear MG'
  have TNG := tot_nonneg rsG
  have HDG := Lib.hid DG
  clear DG
  have SG_3 := Same.refl (w1.heap.size + 1) w3.heap.size w3
  have z4 : w3.heap.size + 1 ≤ (w3.alloc (.cells #[Value.string sR, .int .i64 aR, .slice AG nG cG] 38)).heap.size := by simp
  have B4 : Below w.heap.size w (w3.alloc (.cells #[Value.string sR, .int .i64 aR, .slice AG nG cG] 38)) := B3.alloc B3.size _
  have cW_0_4 : (w3.alloc (.cells #[Value.string sR, .int .i64 aR, .slice AG nG cG] 38)).cell? ⟨w1.heap.size, 0, none⟩ = some (Value.string sR) := (World.cell?_alloc_lt _ _ _ (block_lt_of_cell cW_0_3)).trans cW_0_3
  have cW_1_4 : (w3.alloc (.cells #[Value.string sR, .int .i64 aR, .slice AG nG cG] 38)).cell? ⟨w1.heap.size, 1, none⟩ = some (.int .i64 aR) := (World.cell?_alloc_lt _ _ _ (block_lt_of_cell cW_1_3)).trans cW_1_3
  have cW_2_4 : (w3.alloc (.cells #[Value.string sR, .int .i64 aR, .slice AG nG cG] 38)).cell? ⟨w1.heap.size, 2, none⟩ = some (.slice AW nW cW) := (World.cell?_alloc_lt _ _ _ (block_lt_of_cell cW_2_3)).trans cW_2_3
  clear cW_0_3 cW_1_3 cW_2_3
  have cG_0_4 : (w3.alloc (.cells #[Value.string sR, .int .i64 aR, .slice AG nG cG] 38)).cell? ⟨w3.heap.size, 0, none⟩ = some (Value.string sR) := ((Blk.new w3 38 #[Value.string sR, .int .i64 aR, .slice AG nG cG]).cell 0).trans rfl
  have cG_1_4 : (w3.alloc (.cells #[Value.string sR, .int .i64 aR, .slice AG nG cG] 38)).cell? ⟨w3.heap.size, 1, none⟩ = some (.int .i64 aR) := ((Blk.new w3 38 #[Value.string sR, .int .i64 aR, .slice AG nG cG]).cell 1).trans rfl
  have cG_2_4 : (w3.alloc (.cells #[Value.string sR, .int .i64 aR, .slice AG nG cG] 38)).cell? ⟨w3.heap.size, 2, none⟩ = some (.slice AG nG cG) := ((Blk.new w3 38 #[Value.string sR, .int .i64 aR, .slice AG nG cG]).cell 2).trans rfl
  have SW_4 := SW_3.below (show Below w3.heap.size w3 (w3.alloc (.cells #[Value.string sR, .int .i64 aR, .slice AG nG cG] 38)) from (Below.refl _ _).alloc (Nat.le_refl _) _) (by omega)
  have SG_4 := SG_3.below (show Below w3.heap.size w3 (w3.alloc (.cells #[Value.string sR, .int .i64 aR, .slice AG nG cG] 38)) from (Below.refl _ _).alloc (Nat.le_refl _) _) (by omega)
  clear cc3
  obtain rfl : nG = nW := by have h1 := FG_3.reads.len; have h2 := FW_1.reads.len; have h3 := dat_len rsG; have h4 := dat_len rsW; rw [HDG.out] at h3; rw [HDW.out] at h4; omega
  go_wp2_with fail; ((with_reducible refine (eqFan_b sR aR _ _ nG cG cW rsG rsW _ (FG_3.same SG_4).reads (FW_1.same SW_4).reads (HDG.out.trans HDW.out.symm) (by omega) (fun r hr => Nat.le_trans (MG.out r hr) (by omega))).mono ?_); rintro e w5 ⟨rfl, hb5⟩)
  have z5 : (w3.alloc (.cells #[Value.string sR, .int .i64 aR, .slice AG nG cG] 38)).heap.size ≤ w5.heap.size := hb5.size
  have B5 : Below w.heap.size w w5 := B4.trans (hb5.mono B4.size)
  have cW_0_5 : w5.cell? ⟨w1.heap.size, 0, none⟩ = some (Value.string sR) := (hb5.cell (block_lt_of_cell cW_0_4)).trans cW_0_4
  have cW_1_5 : w5.cell? ⟨w1.heap.size, 1, none⟩ = some (.int .i64 aR) := (hb5.cell (block_lt_of_cell cW_1_4)).trans cW_1_4
  have cW_2_5 : w5.cell? ⟨w1.heap.size, 2, none⟩ = some (.slice AW nG cW) := (hb5.cell (block_lt_of_cell cW_2_4)).trans cW_2_4
  clear cW_0_4 cW_1_4 cW_2_4
  have cG_0_5 : w5.cell? ⟨w3.heap.size, 0, none⟩ = some (Value.string sR) := (hb5.cell (block_lt_of_cell cG_0_4)).trans cG_0_4
  have cG_1_5 : w5.cell? ⟨w3.heap.size, 1, none⟩ = some (.int .i64 aR) := (hb5.cell (block_lt_of_cell cG_1_4)).trans cG_1_4
  have cG_2_5 : w5.cell? ⟨w3.heap.size, 2, none⟩ = some (.slice AG nG cG) := (hb5.cell (block_lt_of_cell cG_2_4)).trans cG_2_4
  clear cG_0_4 cG_1_4 cG_2_4
  have SW_5 := SW_4.below hb5 (by omega)
  have SG_5 := SG_4.below hb5 (by omega)
  go_wp2_with fail; ((with_reducible refine (markFan_any sR aR (w1.heap.size + 1) w3.heap.size AG nG cG rsG (1) w5 (FG_3.same SG_5) (by omega) MG.out TG (by omega) (by omega) (by omega)).mono ?_); rintro e w6 ⟨rfl, FG_6, hb6⟩)
  have hc6 := hb6
  have z6 : w5.heap.size ≤ w6.heap.size := hc6.size
  have B6 : Below w.heap.size w w6 := below_chg B5 hc6 (by omega) B5.size
  have SW_6 := SW_5.chg hc6 (by omega) (Or.inl (by omega))
  have cW_0_6 : w6.cell? ⟨w1.heap.size, 0, none⟩ = some (Value.string sR) := hc6.cell cW_0_5 (Or.inl (by show w1.heap.size < _; omega))
  have cW_1_6 : w6.cell? ⟨w1.heap.size, 1, none⟩ = some (.int .i64 aR) := hc6.cell cW_1_5 (Or.inl (by show w1.heap.size < _; omega))
  have cW_2_6 : w6.cell? ⟨w1.heap.size, 2, none⟩ = some (.slice AW nG cW) := hc6.cell cW_2_5 (Or.inl (by show w1.heap.size < _; omega))
  clear cW_0_5 cW_1_5 cW_2_5
  have cG_0_6 : w6.cell? ⟨w3.heap.size, 0, none⟩ = some (Value.string sR) := hc6.cell cG_0_5 (Or.inr (Nat.le_refl _))
  have cG_1_6 : w6.cell? ⟨w3.heap.size, 1, none⟩ = some (.int .i64 aR) := hc6.cell cG_1_5 (Or.inr (Nat.le_refl _))
  have cG_2_6 : w6.cell? ⟨w3.heap.size, 2, none⟩ = some (.slice AG nG cG) := hc6.cell cG_2_5 (Or.inr (Nat.le_refl _))
  clear cG_0_5 cG_1_5 cG_2_5
  have SG_6 := Same.refl (w1.heap.size + 1) w3.heap.size w6
  go_wp2_with fail; ((with_reducible refine (heldFan_any sR aR AG nG cG rsG 1 w6 (FG_6.same SG_6).reads (by omega) MG.out TG (by omega) (by omega)).mono ?_); rintro e w7 ⟨rfl, hb7⟩)
  have z7 : w6.heap.size ≤ w7.heap.size := hb7.size
  have B7 : Below w.heap.size w w7 := B6.trans (hb7.mono B6.size)
  have cW_0_7 : w7.cell? ⟨w1.heap.size, 0, none⟩ = some (Value.string sR) := (hb7.cell (block_lt_of_cell cW_0_6)).trans cW_0_6
  have cW_1_7 : w7.cell? ⟨w1.heap.size, 1, none⟩ = some (.int .i64 aR) := (hb7.cell (block_lt_of_cell cW_1_6)).trans cW_1_6
  have cW_2_7 : w7.cell? ⟨w1.heap.size, 2, none⟩ = some (.slice AW nG cW) := (hb7.cell (block_lt_of_cell cW_2_6)).trans cW_2_6
  clear cW_0_6 cW_1_6 cW_2_6
  have cG_0_7 : w7.cell? ⟨w3.heap.size, 0, none⟩ = some (Value.string sR) := (hb7.cell (block_lt_of_cell cG_0_6)).trans cG_0_6
  have cG_1_7 : w7.cell? ⟨w3.heap.size, 1, none⟩ = some (.int .i64 aR) := (hb7.cell (block_lt_of_cell cG_1_6)).trans cG_1_6
  have cG_2_7 : w7.cell? ⟨w3.heap.size, 2, none⟩ = some (.slice AG nG cG) := (hb7.cell (block_lt_of_cell cG_2_6)).trans cG_2_6
  clear cG_0_6 cG_1_6 cG_2_6
  have SW_7 := SW_6.below hb7 (by omega)
  have SG_7 := SG_6.below hb7 (by omega)
  have cc8 := implReadFan_any s0 w7 ls0 hn0 (HTP.out _ B7)
  unfold rfPost at cc8
  rw [HkR.out, HsR.out, HaR.out, HcR.out] at cc8
  go_wp2_with fail; ((with_reducible refine (cc8).mono ?_); rintro e w8 ⟨AH, nH, cH, rsH, rfl, oH, DH, hnH, MH', TH, hb8⟩)
  have z8 : w7.heap.size ≤ w8.heap.size := hb8.size
  have B8 : Below w.heap.size w w8 := B7.trans (hb8.mono B7.size)
  have cW_0_8 : w8.cell? ⟨w1.heap.size, 0, none⟩ = some (Value.string sR) := (hb8.cell (block_lt_of_cell cW_0_7)).trans cW_0_7
  have cW_1_8 : w8.cell? ⟨w1.heap.size, 1, none⟩ = some (.int .i64 aR) := (hb8.cell (block_lt_of_cell cW_1_7)).trans cW_1_7
  have cW_2_8 : w8.cell? ⟨w1.heap.size, 2, none⟩ = some (.slice AW nG cW) := (hb8.cell (block_lt_of_cell cW_2_7)).trans cW_2_7
  clear cW_0_7 cW_1_7 cW_2_7
  have cG_0_8 : w8.cell? ⟨w3.heap.size, 0, none⟩ = some (Value.string sR) := (hb8.cell (block_lt_of_cell cG_0_7)).trans cG_0_7
  have cG_1_8 : w8.cell? ⟨w3.heap.size, 1, none⟩ = some (.int .i64 aR) := (hb8.cell (block_lt_of_cell cG_1_7)).trans cG_1_7
  have cG_2_8 : w8.cell? ⟨w3.heap.size, 2, none⟩ = some (.slice AG nG cG) := (hb8.cell (block_lt_of_cell cG_2_7)).trans cG_2_7
  clear cG_0_7 cG_1_7 cG_2_7
  have SW_8 := SW_7.below hb8 (by omega)
  have SG_8 := SG_7.below hb8 (by omega)
  have FH_8 := oss_mk oH
  have MH := Lib.hid MH'
  clear MH'
  have TNH := tot_nonneg rsH
  have HDH := Lib.hid DH
  clear DH
  have SH_8 := Same.refl w7.heap.size w8.heap.size w8
  have z9 : w8.heap.size + 1 ≤ (w8.alloc (.cells #[Value.string sR, .int .i64 aR, .slice AH nH cH] 38)).heap.size := by simp
  have B9 : Below w.heap.size w (w8.alloc (.cells #[Value.string sR, .int .i64 aR, .slice AH nH cH] 38)) := B8.alloc B8.size _
  have cW_0_9 : (w8.alloc (.cells #[Value.string sR, .int .i64 aR, .slice AH nH cH] 38)).cell? ⟨w1.heap.size, 0, none⟩ = some (Value.string sR) := (World.cell?_alloc_lt _ _ _ (block_lt_of_cell cW_0_8)).trans cW_0_8
  have cW_1_9 : (w8.alloc (.cells #[Value.string sR, .int .i64 aR, .slice AH nH cH] 38)).cell? ⟨w1.heap.size, 1, none⟩ = some (.int .i64 aR) := (World.cell?_alloc_lt _ _ _ (block_lt_of_cell cW_1_8)).trans cW_1_8
  have cW_2_9 : (w8.alloc (.cells #[Value.string sR, .int .i64 aR, .slice AH nH cH] 38)).cell? ⟨w1.heap.size, 2, none⟩ = some (.slice AW nG cW) := (World.cell?_alloc_lt _ _ _ (block_lt_of_cell cW_2_8)).trans cW_2_8
  clear cW_0_8 cW_1_8 cW_2_8
  have cG_0_9 : (w8.alloc (.cells #[Value.string sR, .int .i64 aR, .slice AH nH cH] 38)).cell? ⟨w3.heap.size, 0, none⟩ = some (Value.string sR) := (World.cell?_alloc_lt _ _ _ (block_lt_of_cell cG_0_8)).trans cG_0_8
  have cG_1_9 : (w8.alloc (.cells #[Value.string sR, .int .i64 aR, .slice AH nH cH] 38)).cell? ⟨w3.heap.size, 1, none⟩ = some (.int .i64 aR) := (World.cell?_alloc_lt _ _ _ (block_lt_of_cell cG_1_8)).trans cG_1_8
  have cG_2_9 : (w8.alloc (.cells #[Value.string sR, .int .i64 aR, .slice AH nH cH] 38)).cell? ⟨w3.heap.size, 2, none⟩ = some (.slice AG nG cG) := (World.cell?_alloc_lt _ _ _ (block_lt_of_cell cG_2_8)).trans cG_2_8
  clear cG_0_8 cG_1_8 cG_2_8
  have cH_0_9 : (w8.alloc (.cells #[Value.string sR, .int .i64 aR, .slice AH nH cH] 38)).cell? ⟨w8.heap.size, 0, none⟩ = some (Value.string sR) := ((Blk.new w8 38 #[Value.string sR, .int .i64 aR, .slice AH nH cH]).cell 0).trans rfl
  have cH_1_9 : (w8.alloc (.cells #[Value.string sR, .int .i64 aR, .slice AH nH cH] 38)).cell? ⟨w8.heap.size, 1, none⟩ = some (.int .i64 aR) := ((Blk.new w8 38 #[Value.string sR, .int .i64 aR, .slice AH nH cH]).cell 1).trans rfl
  have cH_2_9 : (w8.alloc (.cells #[Value.string sR, .int .i64 aR, .slice AH nH cH] 38)).cell? ⟨w8.heap.size, 2, none⟩ = some (.slice AH nH cH) := ((Blk.new w8 38 #[Value.string sR, .int .i64 aR, .slice AH nH cH]).cell 2).trans rfl
  have SW_9 := SW_8.below (show Below w8.heap.size w8 (w8.alloc (.cells #[Value.string sR, .int .i64 aR, .slice AH nH cH] 38)) from (Below.refl _ _).alloc (Nat.le_refl _) _) (by omega)
  have SG_9 := SG_8.below (show Below w8.heap.size w8 (w8.alloc (.cells #[Value.string sR, .int .i64 aR, .slice AH nH cH] 38)) from (Below.refl _ _).alloc (Nat.le_refl _) _) (by omega)
  have SH_9 := SH_8.below (show Below w8.heap.size w8 (w8.alloc (.cells #[Value.string sR, .int .i64 aR, .slice AH nH cH] 38)) from (Below.refl _ _).alloc (Nat.le_refl _) _) (by omega)
  clear cc8
  obtain rfl : nH = nG := by have h1 := FH_8.reads.len; have h2 := FW_1.reads.len; have h3 := dat_len rsH; have h4 := dat_len rsW; rw [HDH.out] at h3; rw [HDW.out] at h4; omega
  go_wp2_with fail; ((with_reducible refine (eqFan_b sR aR _ _ nH cH cW rsH rsW _ (FH_8.same SH_9).reads (FW_1.same SW_9).reads (HDH.out.trans HDW.out.symm) (by omega) (fun r hr => Nat.le_trans (MH.out r hr) (by omega))).mono ?_); rintro e w10 ⟨rfl, hb10⟩)
  have z10 : (w8.alloc (.cells #[Value.string sR, .int .i64 aR, .slice AH nH cH] 38)).heap.size ≤ w10.heap.size := hb10.size
  have B10 : Below w.heap.size w w10 := B9.trans (hb10.mono B9.size)
  have cW_0_10 : w10.cell? ⟨w1.heap.size, 0, none⟩ = some (Value.string sR) := (hb10.cell (block_lt_of_cell cW_0_9)).trans cW_0_9
  have cW_1_10 : w10.cell? ⟨w1.heap.size, 1, none⟩ = some (.int .i64 aR) := (hb10.cell (block_lt_of_cell cW_1_9)).trans cW_1_9
  have cW_2_10 : w10.cell? ⟨w1.heap.size, 2, none⟩ = some (.slice AW nH cW) := (hb10.cell (block_lt_of_cell cW_2_9)).trans cW_2_9
  clear cW_0_9 cW_1_9 cW_2_9
  have cG_0_10 : w10.cell? ⟨w3.heap.size, 0, none⟩ = some (Value.string sR) := (hb10.cell (block_lt_of_cell cG_0_9)).trans cG_0_9
  have cG_1_10 : w10.cell? ⟨w3.heap.size, 1, none⟩ = some (.int .i64 aR) := (hb10.cell (block_lt_of_cell cG_1_9)).trans cG_1_9
  have cG_2_10 : w10.cell? ⟨w3.heap.size, 2, none⟩ = some (.slice AG nH cG) := (hb10.cell (block_lt_of_cell cG_2_9)).trans cG_2_9
  clear cG_0_9 cG_1_9 cG_2_9
  have cH_0_10 : w10.cell? ⟨w8.heap.size, 0, none⟩ = some (Value.string sR) := (hb10.cell (block_lt_of_cell cH_0_9)).trans cH_0_9
  have cH_1_10 : w10.cell? ⟨w8.heap.size, 1, none⟩ = some (.int .i64 aR) := (hb10.cell (block_lt_of_cell cH_1_9)).trans cH_1_9
  have cH_2_10 : w10.cell? ⟨w8.heap.size, 2, none⟩ = some (.slice AH nH cH) := (hb10.cell (block_lt_of_cell cH_2_9)).trans cH_2_9
  clear cH_0_9 cH_1_9 cH_2_9
  have SW_10 := SW_9.below hb10 (by omega)
  have SG_10 := SG_9.below hb10 (by omega)
  have SH_10 := SH_9.below hb10 (by omega)
  go_wp2_with fail; ((with_reducible refine (heldFan_any sR aR AG nH cG rsG 1 w10 (FG_6.same SG_10).reads (by omega) MG.out TG (by omega) (by omega)).mono ?_); rintro e w11 ⟨rfl, hb11⟩)
  have z11 : w10.heap.size ≤ w11.heap.size := hb11.size
  have B11 : Below w.heap.size w w11 := B10.trans (hb11.mono B10.size)
  have cW_0_11 : w11.cell? ⟨w1.heap.size, 0, none⟩ = some (Value.string sR) := (hb11.cell (block_lt_of_cell cW_0_10)).trans cW_0_10
  have cW_1_11 : w11.cell? ⟨w1.heap.size, 1, none⟩ = some (.int .i64 aR) := (hb11.cell (block_lt_of_cell cW_1_10)).trans cW_1_10
  have cW_2_11 : w11.cell? ⟨w1.heap.size, 2, none⟩ = some (.slice AW nH cW) := (hb11.cell (block_lt_of_cell cW_2_10)).trans cW_2_10
  clear cW_0_10 cW_1_10 cW_2_10
  have cG_0_11 : w11.cell? ⟨w3.heap.size, 0, none⟩ = some (Value.string sR) := (hb11.cell (block_lt_of_cell cG_0_10)).trans cG_0_10
  have cG_1_11 : w11.cell? ⟨w3.heap.size, 1, none⟩ = some (.int .i64 aR) := (hb11.cell (block_lt_of_cell cG_1_10)).trans cG_1_10
  have cG_2_11 : w11.cell? ⟨w3.heap.size, 2, none⟩ = some (.slice AG nH cG) := (hb11.cell (block_lt_of_cell cG_2_10)).trans cG_2_10
  clear cG_0_10 cG_1_10 cG_2_10
  have cH_0_11 : w11.cell? ⟨w8.heap.size, 0, none⟩ = some (Value.string sR) := (hb11.cell (block_lt_of_cell cH_0_10)).trans cH_0_10
  have cH_1_11 : w11.cell? ⟨w8.heap.size, 1, none⟩ = some (.int .i64 aR) := (hb11.cell (block_lt_of_cell cH_1_10)).trans cH_1_10
  have cH_2_11 : w11.cell? ⟨w8.heap.size, 2, none⟩ = some (.slice AH nH cH) := (hb11.cell (block_lt_of_cell cH_2_10)).trans cH_2_10
  clear cH_0_10 cH_1_10 cH_2_10
  have SW_11 := SW_10.below hb11 (by omega)
  have SG_11 := SG_10.below hb11 (by omega)
  have SH_11 := SH_10.below hb11 (by omega)
  go_wp2
  go_ret
  exact ⟨rfl, B11⟩

theorem door_met (os : Os) (args : Array Value) : laidMetH Tryd.prog Rows.fnExactReadFanRow.laid ((World.laidAll Tryd.prog os Rows.fnExactReadFanRow.laid).forCall (fun _ _ => 0) ⟨#[], args, []⟩).memory := by
  rw [MakeChecks.laidMetH_plain _ _ _ (by kernel_rfl)]
  exact laidMet_laidAll _ (by kernel_rfl) (by kernel_rfl)
theorem of_laid {W : World} (h : laidMetH Tryd.prog Rows.fnExactReadFanRow.laid W) (hsh : W.ShapedOpen Tryd.prog) : Lib3 W := by
  rw [MakeChecks.laidMetH_plain _ _ _ (by kernel_rfl)] at h
  obtain ⟨ps, ⟨g0, t0, cs0, f0, p0, q0, hg0, ht0, hv0, hd0, ⟨g1, t1, cs1, f1, p1, q1, hg1, ht1, hv1, hd1, ⟨g2, t2, cs2, f2, p2, q2, hg2, ht2, hv2, hd2, ⟨g3, t3, cs3, f3, p3, q3, hg3, ht3, hv3, hd3, ⟨g4, t4, cs4, f4, p4, q4, hg4, ht4, hv4, hd4, ⟨g5, t5, cs5, f5, p5, q5, hg5, ht5, hv5, hd5, _, _⟩, _⟩, _⟩, _⟩, _⟩, _⟩, _, _⟩ := h
  obtain rfl := Option.some.inj (gPow.symm.trans hg2)
  obtain rfl := Option.some.inj ((show (Tryd.prog.globals[1]?).map (·.type) = some 132 by kernel_rfl).symm.trans ht2)
  obtain rfl := Option.some.inj (gRng.symm.trans hg4)
  obtain rfl := Option.some.inj ((show (Tryd.prog.globals[3]?).map (·.type) = some 94 by kernel_rfl).symm.trans ht4)
  obtain rfl := Option.some.inj (gSyn.symm.trans hg5)
  obtain rfl := Option.some.inj ((show (Tryd.prog.globals[2]?).map (·.type) = some 94 by kernel_rfl).symm.trans ht5)
  have hP : Pow W := by
    unfold Pow Lib.TabIs
    rw [hv2, ← Lib.cells_of_tab (zs := Lib.pow10Tab) (k := .u64) Tryd.underlying132 (by kernel_rfl) (by kernel_rfl) (by kernel_rfl) hd2]
  exact lib3_of hP hv4 hd4 hv5 hd5 hsh

set_option maxRecDepth 100000 in
theorem lifted (os : Os) (started : os.Started) (H : Type) (enc : TypeId × Value → H) :
    ReturnsInHanded {} Tryd.checked os 8 .any (fun w args => (Rows.fnExactReadFanSpec.pre enc Tryd.prog Tryd.f8 [] false w args ∧ laidMetH Tryd.prog Rows.fnExactReadFanRow.laid w) ∧ sizedMet enc Tryd.prog Tryd.f8 (OpenSpec.ofChange Rows.fnExactReadFanSpec) false w args) (Rows.fnExactReadFanSpec.post enc Tryd.prog Tryd.f8 false true false false) := by
  refine handed_shaped (C := Tryd.checked) (X := fun w _ => laidMetH Tryd.prog Rows.fnExactReadFanRow.laid w) (fun _ _ _ hh h => h.of_heap hh) own_ started (by kernel_rfl) Tryd.func8
    (ChangeSpec.witness_shaped (enc := enc) (C := Tryd.checked) (os := os) (X := fun w _ => laidMetH Tryd.prog Rows.fnExactReadFanRow.laid w) false (World.laidAll Tryd.prog os Rows.fnExactReadFanRow.laid) #[.string ByteArray.empty] 12 (World.laidAll_os _ _ _) (World.shaped_of_ZipB (by kernel_rfl) (by kernel_rfl)) (by kernel_rfl) (by kernel_rfl) (by kernel_rfl) (door_met os _)) ?_
  intro W base args ds gs before hval0 hW hL hsh
  have hval : ∀ (j : Nat) t v, Tryd.f8.params[j]? = some t → args[j]? = some v → Value.okWide Tryd.prog W .any base t v := hval0
  have hW' := hW
  obtain ⟨p, q, hA0, hV, rfl, hfz, hnd⟩ := hW
  have hA : DataW.TrodAll enc Tryd.prog W 0 (fun _ => true) true Tryd.f8.params.toList args.toList ds p := hA0
  rw [Tryd.params8] at hA hval
  obtain ⟨v0, vs0, d0, ds0, p0, q0, hargs, rfl, rfl, h0, r0⟩ := trodAll_cons hA
  obtain ⟨rfl, rfl, rfl⟩ := trodAll_nil r0
  obtain rfl : args = #[v0] := by cases args; simp_all
  obtain ⟨rfl, rfl⟩ := trodVars_none hV
  obtain ⟨s0, rfl, ls0⟩ := op_str Tryd.underlying9 (hval 0 9 v0 rfl rfl) h0
  clear hA0 hval0
  refine (walk s0 ls0 W (of_laid hL hsh)).mono fun e W' ⟨he, hb⟩ => ?_
  subst he
  exact ⟨_, rfl, law_post laidOut_ (by kernel_rfl) rfl rfl Tryd.underlying4 hW' rfl hb⟩

theorem over : Rows.fnExactReadFanRow.holds Tryd.pinned (OpenSpec.ofChange Rows.fnExactReadFanSpec) :=
  OpenClaim.holds_of_wide 8 Tryd.f8 rfl rfl rfl rfl rfl rfl rfl ⟨rfl, rfl, rfl, rfl, rfl⟩ rfl rfl rfl rfl rfl (by kernel_rfl) Tryd.func8 (by kernel_rfl)
    (of_decide_eq_true (by kernel_rfl)) (by unfold Func.isWrapper; first | (rw [if_pos (by decide +kernel)]; kernel_rfl) | (rw [if_neg (by decide +kernel)]; exact ⟨rfl, rfl⟩))
    (fun os started H enc _ => lifted os started H enc)

/-- The card. -/
theorem proved : Rows.FnExactReadFanCardSaid :=
  Claim7.holds_tied_plain_at .later [] Rows.fnExactReadFanCard.laidKinds true (true, "aa79c08a9f025a9ab2f99bdb399bb02533aa464f12e30b200165edd2642db5f2") true
    over (fun _ h => by cases h) (by kernel_rfl) (fun _ h => by cases h) fnExactReadFan_row_tie rfl ⟨rfl, rfl⟩ (by kernel_rfl) rfl
    (fun f fn hf hfn => by
      obtain rfl : f = 8 := Option.some.inj ((show Tryd.prog.funcNamed "loop.example/g01021/laws.FnExactReadFan" = some 8 by kernel_rfl).symm.trans hf) |>.symm
      obtain rfl : fn = Tryd.f8 := (Option.some.inj (Tryd.func8.symm.trans hfn)).symm
      exact ⟨by kernel_rfl, fun j t ht => by
        rw [Tryd.params8] at ht
        have h3 : t = 9 := by
          rcases j with _ | j
          · simpa using ht.symm
          · simp at ht
        subst h3
        exact (show Tryd.prog.wantsStandIn 9 = false by kernel_rfl)⟩)
    (by kernel_rfl)
#print axioms proved
end Go.Proofs.YtdooajiobpjihaaDoor.lReadFan
