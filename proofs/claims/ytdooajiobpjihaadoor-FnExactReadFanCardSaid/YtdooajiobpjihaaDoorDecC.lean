/- Contracts of numbers in decimal, both sides. -/
import Derived.Test.YtdooajiobpjihaaDoorDec
import Derived.Test.YtdooajiobpjihaaDoorNum
import Derived.Test.YtdooajiobpjihaaDoorCopy
import Derived.Test.YtdooajiobpjihaaDoorShl
import Derived.Lib.AppendIntMem
import Derived.Lib.ItoaLen
import Derived.Deep.Cut
import Derived.Lib.LaidTab
namespace Go.Proofs.YtdooajiobpjihaaDoor
set_option linter.unusedVariables false
set_option linter.unusedSimpArgs false
open Go.RowKit
/-- The library's table of the powers of ten. -/
abbrev Pow (w : World) : Prop := Lib.TabIs Tryd.prog w "internal/strconv.uint64pow10" .u64 Lib.pow10Tab
theorem gPow : Tryd.prog.globalNamed "internal/strconv.uint64pow10" = some 1 := by kernel_rfl
theorem var_below {P : Program} {w w' : World} {n : String} {g B : Nat} {cs : Array Value} (h : w.var? P n = some cs) (hg : P.globalNamed n = some g) (hb : Below B w w') (hlt : g < B) : w'.var? P n = some cs := by
  unfold World.var? at h ⊢
  rw [hg] at h ⊢
  simp only [Option.bind_some] at h ⊢
  rw [hb.block g hlt]
  exact h
theorem pow_below {w w' : World} (h : Pow w) (hb : Below w.heap.size w w') : Pow w' :=
  var_below h gPow hb (block_lt_of_cell (Lib.TabIs.cell h gPow 0 (by decide)))
theorem decS_itoa (n : Int) : (⟨(Lib.itoa n).toArray⟩ : ByteArray) = decS n := ba_ext (by rw [decS_data])
theorem Decimal_any (n : Int) (w : World) (h1 : -9223372036854775808 ≤ n) (h2 : n ≤ 9223372036854775807) (ht : Pow w) :
    Calls Tryd.prog 42 #[.int .i64 n] w fun e w' => e = .returned (.string (decS n)) ∧ Below w.heap.size w w' := by
  have cc := Tryd.strconv_FormatInt_10 n h1 h2 w ht
  rw [decS_itoa] at cc
  have HC := Lib.hid cc
  clear cc ht
  go_enter Tryd.func42, Tryd.ntmps42
  go_wp2_with fail; ((with_reducible refine HC.out.mono ?_); rintro e w' ⟨rfl, k, os, rfl⟩)
  go_wp2
  go_ret
  exact ⟨rfl, Lib.below_grow _ _ (Nat.le_refl _) _ _⟩
theorem info_U8 : (Tryd.prog.info? 5).map (fun i => (i.zero, i.size, i.bytes)) = some (some (.int .u8 0), 1, 1) := by kernel_rfl
abbrev u8s (l : List Int) : List Value := l.map (Value.int .u8)
theorem u8s_at {xs : List Int} {k : Nat} {u : Value} (h : (u8s xs)[k]? = some u) : ∃ b, xs[k]? = some b ∧ u = .int .u8 b := by
  rw [List.getElem?_map] at h
  obtain ⟨b, hb, e⟩ := Option.map_eq_some_iff.1 h
  exact ⟨b, hb, e.symm⟩
theorem decS_n (n : Int) (h : n = 0) : decS n = ⟨#[48]⟩ := by subst h; rfl
theorem dgs_len (n : Int) (h1 : -9223372036854775808 ≤ n) (h2 : n ≤ 9223372036854775807) : (decI n).length ≤ 21 := by
  have := Lib.itoa_length_le n h1 h2
  rw [decI_itoa]; unfold nums; rw [List.length_map]; exact this
theorem conv_u8 {w : World} {B n c : Nat} {A : Option Addr} {xs : List Int} (h : Reads w B 1 A n (u8s xs)) (hn : 0 < n) :
    (convert 99 9 (.slice A n c)).run Tryd.prog w = .ok (.string (strOfNums xs)) w := by
  obtain ⟨ad, rfl, _, hc⟩ := h.2 (by omega)
  have hl : xs.length = n := by have := h.1; simpa using this
  have hld : (loadCells ad n).run Tryd.prog w = .ok (xs.map (Value.int .u8)).toArray w := by
    have := run_loadCells_list (P := Tryd.prog) w ad (xs.map (Value.int .u8)) (fun j v hj => hc j v hj)
    rw [List.length_map, hl] at this; exact this
  rw [run_convert_bytes_string w 99 9 5 _ n c Tryd.underlying99 Tryd.underlying5 Tryd.underlying9, run_bytesToString w _ n c xs hld, foldl_push_bytes]
  simp [strOfNums]
set_option maxHeartbeats 1600000 in
set_option maxRecDepth 100000 in
theorem l01Dec_any (n : Int) (w : World) (h1 : -9223372036854775808 ≤ n) (h2 : n ≤ 9223372036854775807) :
    Calls Tryd.prog 62 #[.int .i64 n] w fun e w' => e = .returned (.string (decS n)) ∧ Below w.heap.size w w' := by
  by_cases h0 : n = 0
  · have HD := Lib.hid (decS_n n h0)
    subst h0
    go_enter Tryd.func62, Tryd.ntmps62
    go_wp2
    go_ret
    exact ⟨by rw [HD.out]; rfl, Below.refl _ _⟩
  obtain ⟨i0, hi0, hz0, hz1, hz2⟩ := info_parts info_U8
  have HL := Lib.hid (dgs_len n h1 h2)
  have HI : Hid (decI n = (if n < 0 then [45] else []) ++ dgs n) := show _ = _ by unfold decI; rw [if_neg h0]
  have hd0 : (n == 0) = false := by simpa using h0
  have HDL : Hid ((dgs n).length ≤ 21) := by have h3 := HL.out; rw [HI.out, List.length_append] at h3; show _ ≤ 21; omega
  go_enter Tryd.func62, Tryd.ntmps62
  go_wp2
  go_loopw [3, 4] (fun o m wr => ∃ (A' : Option Addr) (c' : Nat) (l : List Int) (v : Int), o = .slice A' l.length c' ∧ m = .int .i64 v ∧ -9223372036854775808 ≤ v ∧ v ≤ 9223372036854775807 ∧ Hid (dgs v ++ l.reverse = dgs n) ∧ wr.ownsRow w.heap.size 5 1 (.slice A' l.length c') l.length (u8s l) ∧ Below w.heap.size w wr) (fun _ m _ => (intOf m).natAbs)
  case atStart => exact ⟨_, 0, [], n, rfl, rfl, h1, h2, (show _ = _ by simp), own_empty _ _ _, by (repeat (first | exact Below.refl _ _ | assumption | (refine Below.alloc ?_ (by first | exact Nat.le_refl _ | (simp; done) | (simp; omega)) _) | (refine below_drewN ?_ _) | (refine Below.trans ?_ (Below.mono (by assumption) (by first | exact Nat.le_refl _ | (simp; done) | (simp; omega) | omega)))))⟩
  case round =>
    obtain ⟨A', c', l, v, rfl, rfl, hv1, hv2, HE, hown, hbr⟩ := hrel
    have hlen : (dgs v).length + l.length = (dgs n).length := by have h3 := congrArg List.length HE.out; simpa using h3
    by_cases hv : v = 0
    · subst hv
      have hlr : l.reverse = dgs n := by have h3 := HE.out; rw [dgs_z, List.nil_append] at h3; exact h3
      have hz : (dgs n).length = l.length := by rw [← hlr]; simp
      have hl1 : 1 ≤ l.length := by rw [← hz, dgs_s h0]; simp
      have hl2 : l.length ≤ 21 := by rw [← hz]; exact HDL.out
      have HLR := Lib.hid hlr
      have HO := Lib.hid hown
      clear hlr hz hlen hown HE
      by_cases hn : n < 0
      · have HI2 : Hid ((l ++ [45]).reverse = decI n) := show _ = _ by rw [HI.out, if_pos hn, ← HLR.out]; simp
        go_wp2_with (at_builtin; (refine wpList_app _ rfl _ _ 99 rfl w.heap.size 5 i0 _ 1 1 Tryd.underlying99 hi0 hz0 hz1 hz2 rfl (by omega) A' _ c' _ rfl ((HO.out).alloc _) ⟨_, 0, none⟩ 1 1 [.int .u8 45] rfl rfl (cell_one_at (by simp) _ _) (by simp [Value.oneCell']) (by unfold maxLen; omega) (by omega) (by have hz := (hbr).size; simp at hz ⊢; omega) ?_); intro A1 c1 w2 ho2 hb2)
        have HOW := Lib.hid (show w2.ownsRow w.heap.size 5 1 (.slice A1 (l.length + 1) c1) (l.length + 1) (u8s (l ++ [45])) by simpa using ho2)
        have HB0 := Lib.hid ((hbr.alloc hbr.size _).trans hb2)
        have HRD := Lib.hid (Reads.of_own HOW.out)
        have hs0 := HB0.out.size
        have HLl : Hid ((l ++ [45]).length = l.length + 1) := show _ = _ by simp
        have HDI : Hid ((decI n).length = l.length + 1) := show _ = _ by rw [← HI2.out, List.length_reverse, HLl.out]
        have HAT : Hid (∀ t k : Nat, t + k + 1 = l.length + 1 → (l ++ [45])[t]? = (decI n)[k]?) := fun t k h => by rw [← HI2.out, List.getElem?_reverse (by rw [HLl.out]; omega), HLl.out]; congr 1; omega
        have hL2 : 1 ≤ l.length + 1 ∧ l.length + 1 ≤ 22 := by omega
        go_wp2
        go_loopw [6, 7] (fun o i wq => ∃ (k : Nat) (z : Int) (A2 : Option Addr) (c2 : Nat), z + k + 1 = ((l.length + 1 : Nat) : Int) ∧ -1 ≤ z ∧ o = .slice A2 k c2 ∧ i = .int .i64 z ∧ wq.ownsRow w2.heap.size 5 1 (.slice A2 k c2) k (u8s ((decI n).take k)) ∧ Below w2.heap.size w2 wq) (fun _ i _ => (intOf i + 1).toNat)
        case atStart => exact ⟨0, ((l.length + 1 : Nat) : Int) - 1, _, 0, by omega, by omega, rfl, by go_num, own_empty _ _ _, by (repeat (first | exact Below.refl _ _ | assumption | (refine Below.alloc ?_ (by first | exact Nat.le_refl _ | (simp; done) | (simp; omega)) _) | (refine below_drewN ?_ _) | (refine Below.trans ?_ (Below.mono (by assumption) (by first | exact Nat.le_refl _ | (simp; done) | (simp; omega) | omega)))))⟩
        case round =>
          obtain ⟨k, z, A2, c2, hzk, hzm, rfl, rfl, ho3, hb3⟩ := hrel
          obtain ⟨wo, rfl⟩ : ∃ wo : World, wo = wr := ⟨_, rfl⟩
          by_cases hlt : 0 ≤ z
          · obtain ⟨t, rfl⟩ : ∃ t : Nat, z = t := ⟨z.toNat, by omega⟩
            obtain ⟨ad, u, rfl, had, hx, hc⟩ := (HRD.out.below hb3).at_ (k := t) (by omega)
            obtain ⟨x, hxx, rfl⟩ := u8s_at hx
            have hkx : (decI n)[k]? = some x := by rw [← HAT.out t k (by omega)]; exact hxx
            have HN : Hid ((decI n).take (k + 1) = (decI n).take k ++ [x]) := show _ = _ by rw [List.take_add_one, hkx]; rfl
            have hk22 : k ≤ 21 := by omega
            have hdt : decide (0 ≤ (t : Int)) = true := decide_eq_true (by omega)
            have HO3 := Lib.hid ho3
            clear hx hxx hkx ho3
            go_wp2_with (at_builtin; (refine wpList_app _ rfl _ _ 99 rfl w2.heap.size 5 i0 _ 1 1 Tryd.underlying99 hi0 hz0 hz1 hz2 rfl (by omega) A2 _ c2 _ rfl ((HO3.out).alloc _) ⟨_, 0, none⟩ 1 1 [.int .u8 x] rfl rfl (cell_one_at (by simp) _ _) (by simp [Value.oneCell']) (by unfold maxLen; omega) (by omega) (by have hz := (hb3).size; simp at hz ⊢; omega) ?_); intro A4 c4 w4 ho4 hb4)
            go_roundw
            case rel => exact ⟨k + 1, (t : Int) - 1, A4, c4, by omega, by omega, rfl, by go_num, by rw [HN.out]; simpa using ho4, (hb3.alloc hb3.size _).trans hb4⟩
            case measure => simp [intOf] <;> omega
          · have e : k = l.length + 1 := by omega
            have HTK : Hid ((decI n).take k = decI n) := List.take_of_length_le (by rw [HDI.out]; omega)
            rw [HTK.out] at ho3
            have hcv := conv_u8 (c := c2) (Reads.of_own ho3) (by omega)
            have HBF := Lib.hid (HB0.out.trans (hb3.mono HB0.out.size))
            have hdf : decide (0 ≤ z) = false := decide_eq_false hlt
            clear ho3 e
            go_wp2
            go_ret
            exact ⟨rfl, HBF.out⟩
      · have HI2 : Hid (l.reverse = decI n) := show _ = _ by rw [HI.out, if_neg hn, HLR.out]; rfl
        obtain ⟨wy, rfl⟩ : ∃ wy : World, wy = wr := ⟨_, rfl⟩
        have hdn : decide (n < 0) = false := decide_eq_false hn
        have HOW := Lib.hid HO.out
        have HB0 := Lib.hid (hbr)
        have HRD := Lib.hid (Reads.of_own HOW.out)
        have hs0 := HB0.out.size
        have HLl : Hid ((l).length = l.length) := show _ = _ by simp
        have HDI : Hid ((decI n).length = l.length) := show _ = _ by rw [← HI2.out, List.length_reverse, HLl.out]
        have HAT : Hid (∀ t k : Nat, t + k + 1 = l.length → (l)[t]? = (decI n)[k]?) := fun t k h => by rw [← HI2.out, List.getElem?_reverse (by rw [HLl.out]; omega), HLl.out]; congr 1; omega
        have hL2 : 1 ≤ l.length ∧ l.length ≤ 22 := by omega
        go_wp2
        go_loopw [6, 7] (fun o i wq => ∃ (k : Nat) (z : Int) (A2 : Option Addr) (c2 : Nat), z + k + 1 = ((l.length : Nat) : Int) ∧ -1 ≤ z ∧ o = .slice A2 k c2 ∧ i = .int .i64 z ∧ wq.ownsRow wy.heap.size 5 1 (.slice A2 k c2) k (u8s ((decI n).take k)) ∧ Below wy.heap.size wy wq) (fun _ i _ => (intOf i + 1).toNat)
        case atStart => exact ⟨0, ((l.length : Nat) : Int) - 1, _, 0, by omega, by omega, rfl, by go_num, own_empty _ _ _, by (repeat (first | exact Below.refl _ _ | assumption | (refine Below.alloc ?_ (by first | exact Nat.le_refl _ | (simp; done) | (simp; omega)) _) | (refine below_drewN ?_ _) | (refine Below.trans ?_ (Below.mono (by assumption) (by first | exact Nat.le_refl _ | (simp; done) | (simp; omega) | omega)))))⟩
        case round =>
          obtain ⟨k, z, A2, c2, hzk, hzm, rfl, rfl, ho3, hb3⟩ := hrel
          obtain ⟨wo, rfl⟩ : ∃ wo : World, wo = wr := ⟨_, rfl⟩
          by_cases hlt : 0 ≤ z
          · obtain ⟨t, rfl⟩ : ∃ t : Nat, z = t := ⟨z.toNat, by omega⟩
            obtain ⟨ad, u, rfl, had, hx, hc⟩ := (HRD.out.below hb3).at_ (k := t) (by omega)
            obtain ⟨x, hxx, rfl⟩ := u8s_at hx
            have hkx : (decI n)[k]? = some x := by rw [← HAT.out t k (by omega)]; exact hxx
            have HN : Hid ((decI n).take (k + 1) = (decI n).take k ++ [x]) := show _ = _ by rw [List.take_add_one, hkx]; rfl
            have hk22 : k ≤ 21 := by omega
            have hdt : decide (0 ≤ (t : Int)) = true := decide_eq_true (by omega)
            have HO3 := Lib.hid ho3
            clear hx hxx hkx ho3
            go_wp2_with (at_builtin; (refine wpList_app _ rfl _ _ 99 rfl wy.heap.size 5 i0 _ 1 1 Tryd.underlying99 hi0 hz0 hz1 hz2 rfl (by omega) A2 _ c2 _ rfl ((HO3.out).alloc _) ⟨_, 0, none⟩ 1 1 [.int .u8 x] rfl rfl (cell_one_at (by simp) _ _) (by simp [Value.oneCell']) (by unfold maxLen; omega) (by omega) (by have hz := (hb3).size; simp at hz ⊢; omega) ?_); intro A4 c4 w4 ho4 hb4)
            go_roundw
            case rel => exact ⟨k + 1, (t : Int) - 1, A4, c4, by omega, by omega, rfl, by go_num, by rw [HN.out]; simpa using ho4, (hb3.alloc hb3.size _).trans hb4⟩
            case measure => simp [intOf] <;> omega
          · have e : k = l.length := by omega
            have HTK : Hid ((decI n).take k = decI n) := List.take_of_length_le (by rw [HDI.out]; omega)
            rw [HTK.out] at ho3
            have hcv := conv_u8 (c := c2) (Reads.of_own ho3) (by omega)
            have HBF := Lib.hid (HB0.out.trans (hb3.mono HB0.out.size))
            have hdf : decide (0 ≤ z) = false := decide_eq_false hlt
            clear ho3 e
            go_wp2
            go_ret
            exact ⟨rfl, HBF.out⟩
    · have HS := Lib.hid (dgs_s hv)
      have hln : l.length ≤ 20 := by have h4 := HDL.out; rw [HS.out] at hlen; simp at hlen; omega
      have hdv : (v == 0) = false := by simpa using hv
      have hdw : (v != 0) = true := by simpa using hv
      have hr0 : (v.tmod 10).natAbs = v.natAbs % 10 := by rw [Int.natAbs_tmod]; rfl
      have hr1 : -9 ≤ v.tmod 10 ∧ v.tmod 10 ≤ 9 := by omega
      have hq0 : (v.tdiv 10).natAbs = v.natAbs / 10 := by rw [Int.natAbs_tdiv]; rfl
      have hq1 : (v.tdiv 10).natAbs < v.natAbs := by omega
      have hq2 : -9223372036854775808 ≤ v.tdiv 10 ∧ v.tdiv 10 ≤ 9223372036854775807 := by omega
      have HQ1 : Hid (v.natAbs.div 10 < v.natAbs) := show v.natAbs / 10 < v.natAbs by omega
      have HE2 : Hid (dgs (v.tdiv 10) ++ (l ++ [48 + ((v.tmod 10).natAbs : Int)]).reverse = dgs n) := show _ = _ by rw [← HE.out, HS.out]; simp
      have HO := Lib.hid hown
      clear hlen hr0 hq0 hq1 hown
      by_cases hn : v.tmod 10 < 0
      · have hx : ((v.tmod 10).natAbs : Int) = -(v.tmod 10) := by omega
        rw [hx] at HE2
        have hw8 : IntKind.u8.wrap (48 + -(v.tmod 10)) = 48 + -(v.tmod 10) := IntWalk.u8_in _ (by omega)
        clear hx
        go_wp2_with (at_builtin; (refine wpList_app _ rfl _ _ 99 rfl w.heap.size 5 i0 _ 1 1 Tryd.underlying99 hi0 hz0 hz1 hz2 rfl (by omega) A' _ c' _ rfl ((HO.out).alloc _) ⟨_, 0, none⟩ 1 1 [.int .u8 (48 + -(v.tmod 10))] rfl rfl (cell_one_at (by simp) _ _) (by simp [Value.oneCell']) (by unfold maxLen; omega) (by omega) (by have hz := (hbr).size; simp at hz ⊢; omega) ?_); intro A1 c1 w2 ho2 hb2)
        go_roundw
        case rel => exact ⟨A1, c1, l ++ [48 + -(v.tmod 10)], v.tdiv 10, by simp, by go_num, by omega, by omega, HE2, by simpa using ho2, (hbr.alloc hbr.size _).trans hb2⟩
        case measure => simp [intOf]; exact HQ1.out
      · have hx : ((v.tmod 10).natAbs : Int) = v.tmod 10 := by omega
        rw [hx] at HE2
        have hw8 : IntKind.u8.wrap (48 + v.tmod 10) = 48 + v.tmod 10 := IntWalk.u8_in _ (by omega)
        clear hx
        go_wp2_with (at_builtin; (refine wpList_app _ rfl _ _ 99 rfl w.heap.size 5 i0 _ 1 1 Tryd.underlying99 hi0 hz0 hz1 hz2 rfl (by omega) A' _ c' _ rfl ((HO.out).alloc _) ⟨_, 0, none⟩ 1 1 [.int .u8 (48 + v.tmod 10)] rfl rfl (cell_one_at (by simp) _ _) (by simp [Value.oneCell']) (by unfold maxLen; omega) (by omega) (by have hz := (hbr).size; simp at hz ⊢; omega) ?_); intro A1 c1 w2 ho2 hb2)
        go_roundw
        case rel => exact ⟨A1, c1, l ++ [48 + v.tmod 10], v.tdiv 10, by simp, by go_num, by omega, by omega, HE2, by simpa using ho2, (hbr.alloc hbr.size _).trans hb2⟩
        case measure => simp [intOf]; exact HQ1.out
end Go.Proofs.YtdooajiobpjihaaDoor
