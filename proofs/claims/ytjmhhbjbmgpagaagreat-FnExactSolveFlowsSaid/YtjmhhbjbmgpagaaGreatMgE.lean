/- Several texts in one: FanL Wlk Psh PshR Grf Far Trs Tre. -/
import Derived.Test.YtjmhhbjbmgpagaaGreatMgC
import Derived.Test.YtjmhhbjbmgpagaaGreatMgD
import Derived.Test.YtjmhhbjbmgpagaaGreatMgA
import Derived.Below
import Derived.Test.YtjmhhbjbmgpagaaGreatMgB
/- Contracts of the test of fans and of the best fan, both sides. -/
namespace Go.Proofs.YtjmhhbjbmgpagaaGreat
set_option linter.unusedVariables false
set_option linter.unusedSimpArgs false
open Go.RowKit
abbrev FKey := ByteArray × Int × List (List Int)
def fkId (ks : List FKey) (k : Nat) : ByteArray := match ks[k]? with | some x => x.1 | none => ByteArray.empty
def fkAt (ks : List FKey) (k : Nat) : Bool :=
  match ks[k]? with
  | some x => fanOk x.1 x.2.1 x.2.2 && (decide (k = 0) || sLt (fkId ks (k - 1)) x.1)
  | none => false
def fansOk (ks : List FKey) : Bool := decide (ks.length ≤ 8) && allUpto ks.length (fkAt ks)
section
variable {ks : List FKey} {k j : Nat} {x y : FKey}
theorem fkId_eq (h : ks[k]? = some x) : fkId ks k = x.1 := by unfold fkId; rw [h]
theorem fk_eq (h : ks[k]? = some x) : fkAt ks k = (fanOk x.1 x.2.1 x.2.2 && (decide (k = 0) || sLt (fkId ks (k - 1)) x.1)) := by unfold fkAt; rw [h]
theorem fk_o (h : ks[k]? = some x) (h0 : fanOk x.1 x.2.1 x.2.2 = false) : fkAt ks k = false := by rw [fk_eq h, h0]; rfl
theorem fk_p (h : ks[k]? = some x) (hk : k = j + 1) (hy : ks[j]? = some y) (h0 : sLt y.1 x.1 = false) : fkAt ks k = false := by
  rw [fk_eq h, show k - 1 = j by omega, fkId_eq hy, h0, decide_eq_false (show ¬ k = 0 by omega)]; simp
theorem fk_z (h : ks[k]? = some x) (h0 : fanOk x.1 x.2.1 x.2.2 = true) (hk : k = 0) : fkAt ks k = true := by rw [fk_eq h, h0, decide_eq_true hk]; rfl
theorem fk_y (h : ks[k]? = some x) (h0 : fanOk x.1 x.2.1 x.2.2 = true) (hk : k = j + 1) (hy : ks[j]? = some y) (h2 : sLt y.1 x.1 = true) : fkAt ks k = true := by
  rw [fk_eq h, h0, show k - 1 = j by omega, fkId_eq hy, h2]; simp
theorem fansOk_l (h : 8 < ks.length) : fansOk ks = false := by unfold fansOk; rw [decide_eq_false (show ¬ ks.length ≤ 8 by omega)]; rfl
theorem fansOk_k (hk : k < ks.length) (h : fkAt ks k = false) : fansOk ks = false := by unfold fansOk; rw [allUpto_f hk h, Bool.and_false]
theorem fansOk_y (h1 : ∀ k, k < ks.length → fkAt ks k = true) : fansOk ks = decide (ks.length ≤ 8) := by unfold fansOk; rw [allUpto_t h1]; simp
theorem fansOk_t (h : fansOk ks = true) : ks.length ≤ 8 ∧ ∀ x ∈ ks, fanOk x.1 x.2.1 x.2.2 = true := by
  unfold fansOk at h
  simp only [Bool.and_eq_true, decide_eq_true_eq] at h
  refine ⟨h.1, fun x hx => ?_⟩
  obtain ⟨k, hk⟩ := List.getElem?_of_mem hx
  have hm := allUpto_get h.2 (len_of_at hk)
  rw [fk_eq hk] at hm
  simp only [Bool.and_eq_true] at hm
  exact hm.1
end
set_option maxHeartbeats 1600000 in
set_option maxRecDepth 100000 in
theorem l06List_any (A : Option Addr) (n c : Nat) (xs : List Fan) (w : World) (hr : FSS w w.heap.size A n xs) (hn : n ≤ 1048576) (hxs : ∀ x ∈ xs, x.ok) :
    Calls Tryz.prog 21 #[.slice A n c] w fun e w' => e = .returned (.bool (fansOk (fdat xs))) ∧ Below w.heap.size w w' := by
  have HM := Lib.hid hxs
  have HLn : Hid ((fdat xs).length = n) := show _ = _ by rw [fdat_len]; exact hr.len
  clear hxs
  go_enter Tryz.func21, Tryz.ntmps21
  go_wp2
  go_loopw [3] (fun i wr => ∃ (k : Nat), k ≤ n ∧ i = .int .i64 k ∧ Hid (∀ j, j < k → fkAt (fdat xs) j = true) ∧ Below w.heap.size w wr) (fun i _ => n - (intOf i).toNat)
  case atStart => exact ⟨0, by omega, rfl, fun j hj => absurd hj (Nat.not_lt_zero _), Below.refl _ _⟩
  case round =>
    obtain ⟨k, hk, rfl, HK, hbw⟩ := hrel
    by_cases hlt : k < n
    · obtain ⟨ad, x, rfl, had, hx, hc, hrx⟩ := (hr.below hbw).at_ hlt
      have HX := Lib.hid (fdat_at hx)
      have hm := HM.out x (List.mem_of_getElem? hx)
      have hlx : Hid (k < (fdat xs).length) := show k < _ by rw [HLn.out]; exact hlt
      have hltI : (k : Int) < (n : Int) := by omega
      obtain ⟨a0, a1, a2⟩ := Fan.open_ hc
      have HA0 : Hid (∀ (b : Bool) (p : Addr), p = ad.add (k * 3) → fanOk x.s x.a (dat x.rs) = b → ∀ t : NB wr, Calls Tryz.prog 54 #[.pointer (some p)] t.w fun e w' => e = .returned (.bool b) ∧ Below t.w.heap.size t.w w') :=
        fun b p hp hb t => hb ▸ l06Ok_any x.s x.a x.A x.n x.c x.rs p t.w hm.sm ((hrx.below (t.h.mono hbw.size)).more (Nat.le_trans hbw.size t.h.size)) hm.n hm.r (hp ▸ hc.below t.h (block_lt_of_cell a0))
      clear hm hrx
      rcases Bool.eq_false_or_eq_true (fanOk x.s x.a (dat x.rs)) with k0 | k0
      · rcases Nat.eq_zero_or_pos k with h0 | hpos
        · have HY := Lib.hid (fk_z HX.out k0 h0)
          subst h0
          have hcz : Cells wr ad x.cells := hc
          obtain ⟨b0, b1, b2⟩ := Fan.open_ hcz
          have HA := Lib.hid (HA0.out true ad rfl k0)
          clear hcz hc hx k0 HA0
          go_wp2
          have m3_0 := nb_cell b0 (block_lt_of_cell b0); (refine wp_region_nb (by kernel_rfl) (by kernel_rfl) ?_); (repeat (go_big_quiet_step (((go_at_call 54; exact nb_call (HA.out _)))))); (refine wpQuiet_nil ?_); intro w3 hw3; have hb3 := nb_out hw3; clear hw3 m3_0
          go_wp2
          go_roundw
          case rel => exact ⟨1, by omega, by go_num, upto_succ1 HK.out HY.out, hbw.trans (hb3.mono hbw.size)⟩
          case measure => simp [intOf]; omega
        · obtain ⟨j, hj⟩ : ∃ j, Hid (k = j + 1) := ⟨k - 1, show k = k - 1 + 1 by omega⟩
          have hjn : j < n := by have := hj.out; omega
          have hwj : IntKind.i64.wrap ((k : Int) - 1) = (j : Int) := by have := hj.out; rw [IntWalk.i64_in _ (by omega)]; omega
          have hk0 : decide ((0 : Int) < (k : Int)) = true := decide_eq_true (by omega)
          have hjI : (j : Int) < (n : Int) := by omega
          obtain ⟨ad', y, e1, had', hy, hcy, hry⟩ := (hr.below hbw).at_ hjn
          injection e1 with e1
          subst e1
          have HYy := Lib.hid (fdat_at hy)
          have b0 := hcy.z rfl
          have HA := Lib.hid (HA0.out true _ rfl k0)
          clear hy hcy hry hc hx HA0
          cases hl : Op.bytesLess y.s.toList x.s.toList
          · have HY := Lib.hid (fk_p HX.out hj.out HYy.out hl)
            clear k0
            go_wp2
            have m3_0 := nb_cell a0 (block_lt_of_cell a0); have m3_1 := nb_cell b0 (block_lt_of_cell b0); (refine wp_region_nb (by kernel_rfl) (by kernel_rfl) ?_); (repeat (go_big_quiet_step (((go_at_call 54; exact nb_call (HA.out _)))))); (refine wpQuiet_nil ?_); intro w3 hw3; have hb3 := nb_out hw3; clear hw3 m3_0 m3_1
            go_wp2
            go_ret
            exact ⟨ret_bool (fansOk_k hlx.out HY.out).symm, hbw.trans (hb3.mono hbw.size)⟩
          · have HY := Lib.hid (fk_y HX.out k0 hj.out HYy.out hl)
            clear k0
            go_wp2
            have m3_0 := nb_cell a0 (block_lt_of_cell a0); have m3_1 := nb_cell b0 (block_lt_of_cell b0); (refine wp_region_nb (by kernel_rfl) (by kernel_rfl) ?_); (repeat (go_big_quiet_step (((go_at_call 54; exact nb_call (HA.out _)))))); (refine wpQuiet_nil ?_); intro w3 hw3; have hb3 := nb_out hw3; clear hw3 m3_0 m3_1
            go_wp2
            go_roundw
            case rel => exact ⟨k + 1, by omega, by go_num, upto_succ1 HK.out HY.out, hbw.trans (hb3.mono hbw.size)⟩
            case measure => simp [intOf]; omega
      · have HA := Lib.hid (HA0.out false _ rfl k0)
        have HY := Lib.hid (fk_o HX.out k0)
        clear k0 hc hx HA0
        go_wp2
        have m3_0 := nb_cell a0 (block_lt_of_cell a0); (refine wp_region_nb (by kernel_rfl) (by kernel_rfl) ?_); (repeat (go_big_quiet_step (((go_at_call 54; exact nb_call (HA.out _)))))); (refine wpQuiet_nil ?_); intro w3 hw3; have hb3 := nb_out hw3; clear hw3 m3_0
        go_wp2
        go_ret
        exact ⟨ret_bool (fansOk_k hlx.out HY.out).symm, hbw.trans (hb3.mono hbw.size)⟩
    · have e : k = n := by omega
      have HV := Lib.hid (fansOk_y (by rw [HLn.out, ← e]; exact HK.out))
      clear e
      go_wp2
      go_ret
      exact ⟨ret_bool (by rw [HV.out, HLn.out]; exact Bool.eq_iff_iff.2 (by simp only [decide_eq_true_eq]; omega)), hbw⟩
set_option maxHeartbeats 1600000 in
set_option maxRecDepth 100000 in
theorem implValidFans_any (A : Option Addr) (n c : Nat) (xs : List Fan) (w : World) (hr : FSS w w.heap.size A n xs) (hn : n ≤ 1048576) (hxs : ∀ x ∈ xs, x.ok) :
    Calls Tryz.prog 32 #[.slice A n c] w fun e w' => e = .returned (.bool (fansOk (fdat xs))) ∧ Below w.heap.size w w' := by
  have HM := Lib.hid hxs
  have HLn : Hid ((fdat xs).length = n) := show _ = _ by rw [fdat_len]; exact hr.len
  clear hxs
  by_cases h8 : n ≤ 8
  · go_enter Tryz.func32, Tryz.ntmps32
    go_wp2
    go_loopw [10] (fun i wr => ∃ (k : Nat), k ≤ n ∧ i = .int .i64 k ∧ Hid (∀ j, j < k → fkAt (fdat xs) j = true) ∧ Below w.heap.size w wr) (fun i _ => n - (intOf i).toNat)
    case atStart => exact ⟨0, by omega, rfl, fun j hj => absurd hj (Nat.not_lt_zero _), Below.refl _ _⟩
    case round =>
      obtain ⟨k, hk, rfl, HK, hbw⟩ := hrel
      obtain ⟨wo, rfl⟩ : ∃ wo : World, wo = wr := ⟨_, rfl⟩
      by_cases hlt : k < n
      · obtain ⟨ad, x, rfl, had, hx, hc, hrx⟩ := (hr.below hbw).at_ hlt
        have HX := Lib.hid (fdat_at hx)
        have hm := HM.out x (List.mem_of_getElem? hx)
        have hlx : Hid (k < (fdat xs).length) := show k < _ by rw [HLn.out]; exact hlt
        have hltI : (k : Int) < (n : Int) := by omega
        obtain ⟨a0, a1, a2⟩ := Fan.open_ hc
        have hbo : Below wo.heap.size wo (wo.alloc (.cells #[.string x.s, .int .i64 x.a, .slice x.A x.n x.c] 58)) := (Below.refl _ _).alloc (Nat.le_refl _) _
        have f0 : (wo.alloc (.cells #[.string x.s, .int .i64 x.a, .slice x.A x.n x.c] 58)).cell? ⟨wo.heap.size, 0, none⟩ = some (.string x.s) := ((Blk.new wo _ _).cell 0).trans rfl
        have f1 : (wo.alloc (.cells #[.string x.s, .int .i64 x.a, .slice x.A x.n x.c] 58)).cell? ⟨wo.heap.size, 1, none⟩ = some (.int .i64 x.a) := ((Blk.new wo _ _).cell 1).trans rfl
        have f2 : (wo.alloc (.cells #[.string x.s, .int .i64 x.a, .slice x.A x.n x.c] 58)).cell? ⟨wo.heap.size, 2, none⟩ = some (.slice x.A x.n x.c) := ((Blk.new wo _ _).cell 2).trans rfl
        have HA0 : Hid (∀ (b : Bool), fanOk x.s x.a (dat x.rs) = b → ∀ t : NB (wo.alloc (.cells #[.string x.s, .int .i64 x.a, .slice x.A x.n x.c] 58)), Calls Tryz.prog 69 #[.agg #[.string x.s, .int .i64 x.a, .slice x.A x.n x.c]] t.w fun e w' => e = .returned (.bool b) ∧ Below t.w.heap.size t.w w') :=
          fun b hb t => hb ▸ implValidFan_any x.s x.a x.A x.n x.c x.rs t.w hm.sm (by
            have hbt := hbo.trans (t.h.mono hbo.size)
            exact (hrx.below (hbt.mono hbw.size)).more (Nat.le_trans hbw.size hbt.size)) hm.n hm.r
        clear hm hrx
        rcases Bool.eq_false_or_eq_true (fanOk x.s x.a (dat x.rs)) with k0 | k0
        · have HA := Lib.hid (HA0.out true k0)
          rcases Nat.eq_zero_or_pos k with h0 | hpos
          · have HY := Lib.hid (fk_z HX.out k0 h0)
            subst h0
            have hcz : Cells wo ad x.cells := hc
            obtain ⟨b0, b1, b2⟩ := Fan.open_ hcz
            clear hcz hc hx k0 HA0
            have HB := Lib.hid hbo
            clear hbo
            go_wp2
            have m3_0 := nb_cell f0 (block_lt_of_cell f0); have m3_1 := nb_cell f1 (block_lt_of_cell f1); have m3_2 := nb_cell f2 (block_lt_of_cell f2); (refine wp_region_nb (by kernel_rfl) (by kernel_rfl) ?_); (repeat (go_big_quiet_step (((go_at_call 69; exact nb_call (HA.out _)))))); (refine wpQuiet_nil ?_); intro w3 hw3; have hb3 := nb_out hw3; clear hw3 m3_0 m3_1 m3_2
            have hb4 := HB.out.trans (hb3.mono HB.out.size)
            go_wp2
            go_roundw
            case rel => exact ⟨1, by omega, by go_num, upto_succ1 HK.out HY.out, hbw.trans (hb4.mono hbw.size)⟩
            case measure => simp [intOf]; omega
          · obtain ⟨j, hj⟩ : ∃ j, Hid (k = j + 1) := ⟨k - 1, show k = k - 1 + 1 by omega⟩
            have hjn : j < n := by have := hj.out; omega
            have hwj : IntKind.i64.wrap ((k : Int) - 1) = (j : Int) := by have := hj.out; rw [IntWalk.i64_in _ (by omega)]; omega
            have hk0 : decide ((0 : Int) < (k : Int)) = true := decide_eq_true (by omega)
            have hjI : (j : Int) < (n : Int) := by omega
            obtain ⟨ad', y, e1, had', hy, hcy, hry⟩ := (hr.below hbw).at_ hjn
            injection e1 with e1
            subst e1
            have HYy := Lib.hid (fdat_at hy)
            have b0 := hcy.z rfl
            have f9 : (wo.alloc (.cells #[.string x.s, .int .i64 x.a, .slice x.A x.n x.c] 58)).cell? (ad.add (j * 3)) = some (.string y.s) := (World.cell?_alloc_lt _ _ _ (block_lt_of_cell b0)).trans b0
            have HB := Lib.hid hbo
            clear hy hcy hry hc hx HA0 hbo
            have hle := leq_lt y.s.toList x.s.toList
            cases hl : Op.bytesLess y.s.toList x.s.toList <;> rw [hl] at hle <;> cases q1 : Op.bytesLess x.s.toList y.s.toList <;> cases q2 : (x.s.toList == y.s.toList) <;> rw [q1, q2] at hle <;> first | (exact absurd hle (by decide)) | skip
            · have HY := Lib.hid (fk_p HX.out hj.out HYy.out hl)
              clear hle hl k0
              go_wp2
              have m3_0 := nb_cell f0 (block_lt_of_cell f0); have m3_1 := nb_cell f1 (block_lt_of_cell f1); have m3_2 := nb_cell f2 (block_lt_of_cell f2); have m3_3 := nb_cell f9 (block_lt_of_cell f9); (refine wp_region_nb (by kernel_rfl) (by kernel_rfl) ?_); (repeat (go_big_quiet_step (((go_at_call 69; exact nb_call (HA.out _)))))); (refine wpQuiet_nil ?_); intro w3 hw3; have hb3 := nb_out hw3; clear hw3 m3_0 m3_1 m3_2 m3_3
              have hb4 := HB.out.trans (hb3.mono HB.out.size)
              go_wp2
              go_ret
              exact ⟨ret_bool (fansOk_k hlx.out HY.out).symm, hbw.trans (hb4.mono hbw.size)⟩
            · have HY := Lib.hid (fk_p HX.out hj.out HYy.out hl)
              clear hle hl k0
              go_wp2
              have m3_0 := nb_cell f0 (block_lt_of_cell f0); have m3_1 := nb_cell f1 (block_lt_of_cell f1); have m3_2 := nb_cell f2 (block_lt_of_cell f2); have m3_3 := nb_cell f9 (block_lt_of_cell f9); (refine wp_region_nb (by kernel_rfl) (by kernel_rfl) ?_); (repeat (go_big_quiet_step (((go_at_call 69; exact nb_call (HA.out _)))))); (refine wpQuiet_nil ?_); intro w3 hw3; have hb3 := nb_out hw3; clear hw3 m3_0 m3_1 m3_2 m3_3
              have hb4 := HB.out.trans (hb3.mono HB.out.size)
              go_wp2
              go_ret
              exact ⟨ret_bool (fansOk_k hlx.out HY.out).symm, hbw.trans (hb4.mono hbw.size)⟩
            · have HY := Lib.hid (fk_p HX.out hj.out HYy.out hl)
              clear hle hl k0
              go_wp2
              have m3_0 := nb_cell f0 (block_lt_of_cell f0); have m3_1 := nb_cell f1 (block_lt_of_cell f1); have m3_2 := nb_cell f2 (block_lt_of_cell f2); have m3_3 := nb_cell f9 (block_lt_of_cell f9); (refine wp_region_nb (by kernel_rfl) (by kernel_rfl) ?_); (repeat (go_big_quiet_step (((go_at_call 69; exact nb_call (HA.out _)))))); (refine wpQuiet_nil ?_); intro w3 hw3; have hb3 := nb_out hw3; clear hw3 m3_0 m3_1 m3_2 m3_3
              have hb4 := HB.out.trans (hb3.mono HB.out.size)
              go_wp2
              go_ret
              exact ⟨ret_bool (fansOk_k hlx.out HY.out).symm, hbw.trans (hb4.mono hbw.size)⟩
            · have HY := Lib.hid (fk_y HX.out k0 hj.out HYy.out hl)
              clear hle hl k0
              go_wp2
              have m3_0 := nb_cell f0 (block_lt_of_cell f0); have m3_1 := nb_cell f1 (block_lt_of_cell f1); have m3_2 := nb_cell f2 (block_lt_of_cell f2); have m3_3 := nb_cell f9 (block_lt_of_cell f9); (refine wp_region_nb (by kernel_rfl) (by kernel_rfl) ?_); (repeat (go_big_quiet_step (((go_at_call 69; exact nb_call (HA.out _)))))); (refine wpQuiet_nil ?_); intro w3 hw3; have hb3 := nb_out hw3; clear hw3 m3_0 m3_1 m3_2 m3_3
              have hb4 := HB.out.trans (hb3.mono HB.out.size)
              go_wp2
              go_roundw
              case rel => exact ⟨k + 1, by omega, by go_num, upto_succ1 HK.out HY.out, hbw.trans (hb4.mono hbw.size)⟩
              case measure => simp [intOf]; omega
        · have HA := Lib.hid (HA0.out false k0)
          have HY := Lib.hid (fk_o HX.out k0)
          have HB := Lib.hid hbo
          clear k0 hc hx HA0 hbo
          go_wp2
          have m3_0 := nb_cell f0 (block_lt_of_cell f0); have m3_1 := nb_cell f1 (block_lt_of_cell f1); have m3_2 := nb_cell f2 (block_lt_of_cell f2); (refine wp_region_nb (by kernel_rfl) (by kernel_rfl) ?_); (repeat (go_big_quiet_step (((go_at_call 69; exact nb_call (HA.out _)))))); (refine wpQuiet_nil ?_); intro w3 hw3; have hb3 := nb_out hw3; clear hw3 m3_0 m3_1 m3_2
          have hb4 := HB.out.trans (hb3.mono HB.out.size)
          go_wp2
          go_ret
          exact ⟨ret_bool (fansOk_k hlx.out HY.out).symm, hbw.trans (hb4.mono hbw.size)⟩
      · have e : k = n := by omega
        have HV : Hid (fansOk (fdat xs) = true) := show _ = _ by rw [fansOk_y (by rw [HLn.out, ← e]; exact HK.out), HLn.out]; exact decide_eq_true h8
        clear e
        go_wp2
        go_ret
        exact ⟨ret_bool HV.out.symm, hbw⟩
  · have HV := Lib.hid (fansOk_l (ks := fdat xs) (by rw [HLn.out]; omega))
    go_enter Tryz.func32, Tryz.ntmps32
    go_wp2
    go_ret
    exact ⟨ret_bool HV.out.symm, Below.refl _ _⟩
end Go.Proofs.YtjmhhbjbmgpagaaGreat

/- Contracts of walks: their numbers, their ends, sums along them. -/
namespace Go.Proofs.YtjmhhbjbmgpagaaGreat
set_option linter.unusedVariables false
set_option linter.unusedSimpArgs false
open Go.RowKit
/-- A number of a walk through m airways. -/
def wkB (m : Nat) (x : Int) : Bool := !(x == 0) && inB x (-(m : Int)) m
theorem wkB_t {m : Nat} {x : Int} (h : wkB m x = true) : x ≠ 0 ∧ -(m : Int) ≤ x ∧ x ≤ m := by
  unfold wkB at h
  simp only [Bool.and_eq_true, Bool.not_eq_true', beq_eq_false_iff_ne] at h
  have := inB_t h.2
  exact ⟨h.1, this⟩
theorem wkB_z {m : Nat} : wkB m 0 = false := rfl
theorem wkB_in {m : Nat} {x : Int} (h : x ≠ 0) : wkB m x = inB x (-(m : Int)) m := by
  unfold wkB; rw [show (x == 0) = false from beq_eq_false_iff_ne.2 h]; rfl
def wkI (x : Int) : Nat := (absI x - 1).toNat
def wkS (x : Int) : Int := if 0 < x then 1 else -1
theorem wkI_pos {x : Int} (h : 0 < x) : wkI x = (x - 1).toNat := by unfold wkI absI; omega
theorem wkI_neg {x : Int} (h : x < 0) : wkI x = (-x - 1).toNat := by unfold wkI absI; omega
theorem wkI_lt {m : Nat} {x : Int} (h : wkB m x = true) : wkI x < m := by
  have := wkB_t h
  unfold wkI absI; omega
theorem wkI_int {x : Int} (h : x ≠ 0) : (wkI x : Int) = absI x - 1 := by unfold wkI absI; omega
def alTo (ds ws : List Int) : Nat → Int
  | 0 => 0
  | k + 1 => alTo ds ws k + wkS (ws.getD k 0) * ds.getD (wkI (ws.getD k 0)) 0
theorem getW_at {xs : List Int} {k : Nat} {b : Int} (h : xs[k]? = some b) : xs.getD k 0 = b := by rw [List.getD_eq_getElem?_getD, h]; rfl
theorem alTo_pos {ds ws : List Int} {k : Nat} {x d : Int} (hx : ws[k]? = some x) (hd : ds[wkI x]? = some d) (h : 0 < x) : alTo ds ws (k + 1) = alTo ds ws k + d := by
  simp only [alTo]; rw [getW_at hx, getW_at hd]; unfold wkS; rw [if_pos h]; omega
theorem alTo_neg {ds ws : List Int} {k : Nat} {x d : Int} (hx : ws[k]? = some x) (hd : ds[wkI x]? = some d) (h : ¬ 0 < x) : alTo ds ws (k + 1) = alTo ds ws k - d := by
  simp only [alTo]; rw [getW_at hx, getW_at hd]; unfold wkS; rw [if_neg h]; omega
theorem alTo_bnd {ds ws : List Int} {D : Int} (h0 : 0 ≤ D) (h : ∀ d ∈ ds, -D ≤ d ∧ d ≤ D) : ∀ k : Nat, -(D * (k : Int)) ≤ alTo ds ws k ∧ alTo ds ws k ≤ D * (k : Int)
  | 0 => by simp [alTo]
  | k + 1 => by
    have h1 := alTo_bnd (ws := ws) h0 h k
    have h2 : -D ≤ ds.getD (wkI (ws.getD k 0)) 0 ∧ ds.getD (wkI (ws.getD k 0)) 0 ≤ D := by
      rw [List.getD_eq_getElem?_getD]
      cases e : ds[wkI (ws.getD k 0)]? with
      | none => simp; omega
      | some d => exact h d (List.mem_of_getElem? e)
    have h3 : D * ((k + 1 : Nat) : Int) = D * k + D := by rw [show ((k + 1 : Nat) : Int) = (k : Int) + 1 by omega, Int.mul_add, Int.mul_one]
    rw [h3]
    simp only [alTo]
    unfold wkS
    split
    · rw [Int.one_mul]; omega
    · rw [Int.neg_mul, Int.one_mul]; omega
theorem drTo_bnd {J : Int} {xs : List Awy} {ls ts : List Int} (hl : lstOk J (-3000) 3000 ls = true) (ht : lstOk xs.length (-300) 600 ts = true) : ∀ d ∈ drTo xs ls ts xs.length, -100000000000000 ≤ d ∧ d ≤ 100000000000000 := by
  intro d hd
  unfold drTo at hd
  obtain ⟨k, hk, rfl⟩ := List.mem_map.1 hd
  have hk := List.mem_range.1 hk
  unfold drAt
  rw [List.getElem?_eq_getElem hk]
  dsimp only
  obtain ⟨t, htt, t1, t2⟩ := lst_at ht (k := k) (by omega)
  have hb := (lstOk_t hl).2
  have key : ∀ i : Nat, -3000 ≤ ls.getD i 0 ∧ ls.getD i 0 ≤ 3000 := fun i => by
    rw [List.getD_eq_getElem?_getD]
    cases e : ls[i]? with
    | none => simp
    | some d => exact hb d (List.mem_of_getElem? e)
  rw [getW_at htt]
  have k1 := key xs[k].b.toNat
  have k2 := key xs[k].a.toNat
  unfold columnT
  have h2 := column_bnd (ls.getD xs[k].b.toNat 0 - ls.getD xs[k].a.toNat 0) t (decide_eq_true (by omega)) (decide_eq_true (by omega))
  exact dr_bnd (by omega) (by omega) h2.2
theorem airwayOf_any (x : Int) (w : World) (h0 : x ≠ 0) (h1 : -1000000000 ≤ x) (h2 : x ≤ 1000000000) :
    Calls Tryz.prog 80 #[.int .i64 x] w fun e w' => e = .returned (.tuple #[.int .i64 (wkI x), .int .i64 (wkS x)]) ∧ w = w' := by
  have HI := Lib.hid (wkI_int h0)
  by_cases h : 0 < x
  · have HS : Hid (wkS x = 1) := if_pos h
    go_enter Tryz.func80, Tryz.ntmps80
    go_wp2
    go_ret2
    exact ⟨ret_int2 (by rw [HI.out]; unfold absI; omega) HS.out.symm, rfl⟩
  · have HS : Hid (wkS x = -1) := if_neg h
    go_enter Tryz.func80, Tryz.ntmps80
    go_wp2
    go_ret2
    exact ⟨ret_int2 (by rw [HI.out]; unfold absI; omega) HS.out.symm, rfl⟩
end Go.Proofs.YtjmhhbjbmgpagaaGreat

/- Contracts of the pushes of fans and draught. -/
namespace Go.Proofs.YtjmhhbjbmgpagaaGreat
set_option linter.unusedVariables false
set_option linter.unusedSimpArgs false
open Go.RowKit
/-- A number of a row of the call's own is written. -/
theorem own_upd {w : World} {base n c : Nat} {A : Option Addr} {xs : List Int} (h : w.ownsRow base 2 1 (.slice A n c) n (ints xs)) {k : Nat} (hk : k < n) (v : Int) :
    ∃ g, A = some ⟨g, 0, none⟩ ∧ base ≤ g ∧ g < w.heap.size ∧ w.cell? ⟨g, k, none⟩ = some (.int .i64 (xs.getD k 0)) ∧ w.frozen? ⟨g, k, none⟩ = false ∧
      (w.setCell ⟨g, k, none⟩ (.int .i64 v)).ownsRow base 2 1 (.slice A n c) n (ints (xs.set k v)) := by
  have hl : xs.length = n := by have := h.1; simpa [ints] using this
  rcases h.2 with ⟨_, h0⟩ | ⟨g, cap, cur, hv, hbg, hgb, hnc, hcm, hcs, htake⟩
  · exfalso
    have : n = 0 := by simpa [ints] using h0
    omega
  injection hv with hA _ hc
  subst hA
  subst hc
  have hBlk : Blk w g 2 cur := hgb
  have hkc : k < cur.size := by rw [hcs]; omega
  have hcell : cur[k]? = some (.int .i64 (xs.getD k 0)) := by
    have h1 : (cur.toList.take (n * 1))[k]? = (ints xs)[k]? := by rw [htake]
    rw [List.getElem?_take, if_pos (by omega), Array.getElem?_toList] at h1
    rw [h1]
    unfold ints
    rw [List.getElem?_map, List.getElem?_eq_getElem (by omega), List.getD_eq_getElem?_getD, List.getElem?_eq_getElem (by omega)]
    rfl
  refine ⟨g, rfl, hbg, hBlk.lt, (hBlk.cell k).trans hcell, hBlk.frozen k, ⟨by simp [ints]; omega, .inr ⟨g, _, _, rfl, hbg, hBlk.set_ k _, hnc, hcm, by simpa using hcs, ?_⟩⟩⟩
  apply List.ext_getElem?
  intro l
  have h1 : (cur.toList.take (n * 1))[l]? = (ints xs)[l]? := by rw [htake]
  rw [List.getElem?_take] at h1 ⊢
  unfold ints at *
  rw [List.getElem?_map, List.getElem?_set]
  rw [List.getElem?_map] at h1
  by_cases hln : l < n * 1
  · rw [if_pos hln] at h1 ⊢
    rw [Array.getElem?_toList, Array.getElem?_setIfInBounds]
    by_cases hkl : k = l
    · subst hkl
      rw [if_pos rfl, if_pos hkc, if_pos rfl, if_pos (by omega)]; rfl
    · rw [if_neg hkl, if_neg hkl, ← Array.getElem?_toList]; exact h1
  · rw [if_neg hln] at h1 ⊢
    by_cases hkl : k = l
    · subst hkl; omega
    · rw [if_neg hkl]; exact h1
/-- The pushes behind the first k fans. -/
def puTo (ks : List FKey) (ds fs : List Int) : Nat → List Int
  | 0 => ds
  | k + 1 => match ks[k]? with
    | some x => (puTo ks ds fs k).set x.2.1.toNat ((puTo ks ds fs k).getD x.2.1.toNat 0 + prT x.2.2 (fs.getD x.2.1.toNat 0))
    | none => puTo ks ds fs k
theorem puTo_snoc {ks : List FKey} {ds fs : List Int} {k t : Nat} {x : FKey} {f : Int} (h : ks[k]? = some x) (ht : x.2.1 = (t : Int)) (hf : fs[t]? = some f) :
    puTo ks ds fs (k + 1) = (puTo ks ds fs k).set t ((puTo ks ds fs k).getD t 0 + prT x.2.2 f) := by
  simp only [puTo]; rw [h]; simp only []
  rw [ht, Int.toNat_natCast, List.getD_eq_getElem?_getD (l := fs), hf]; rfl
theorem puTo_len (ks : List FKey) (ds fs : List Int) : ∀ k, (puTo ks ds fs k).length = ds.length
  | 0 => rfl
  | k + 1 => by
    simp only [puTo]
    cases ks[k]? with
    | none => exact puTo_len ks ds fs k
    | some x => simp only [List.length_set]; exact puTo_len ks ds fs k
theorem getD_bnd {xs : List Int} {D : Int} (h0 : 0 ≤ D) (h : ∀ d ∈ xs, -D ≤ d ∧ d ≤ D) (k : Nat) : -D ≤ xs.getD k 0 ∧ xs.getD k 0 ≤ D := by
  rw [List.getD_eq_getElem?_getD]
  cases e : xs[k]? with
  | none => simp; omega
  | some d => exact h d (List.mem_of_getElem? e)
theorem puTo_bnd {ks : List FKey} {ds fs : List Int} (hk : ∀ x ∈ ks, crvOk x.2.2 = true) (hd : ∀ d ∈ ds, -100000 ≤ d ∧ d ≤ 100000) : ∀ k : Nat, ∀ d ∈ puTo ks ds fs k, -(100000 + 10000 * (k : Int)) ≤ d ∧ d ≤ 100000 + 10000 * (k : Int)
  | 0 => fun d h => by have := hd d h; omega
  | k + 1 => fun d h => by
    have ih := puTo_bnd (fs := fs) hk hd k
    simp only [puTo] at h
    cases e : ks[k]? with
    | none => rw [e] at h; have := ih d h; omega
    | some x =>
      rw [e] at h
      have hp := prT_bnd (hk x (List.mem_of_getElem? e)) (fs.getD x.2.1.toNat 0)
      rcases List.mem_or_eq_of_mem_set h with h | rfl
      · have := ih d h; omega
      · have := getD_bnd (D := 100000 + 10000 * (k : Int)) (by omega) ih x.2.1.toNat
        omega
/-- Fans that stand in airways of a mine of m. -/
def fansIn (m : Nat) (ks : List FKey) : Bool := !ks.any fun x => !inB x.2.1 0 ((m : Int) - 1)
theorem fansIn_t {m : Nat} {ks : List FKey} (h : fansIn m ks = true) : ∀ x ∈ ks, 0 ≤ x.2.1 ∧ x.2.1 < m := by
  intro x hx
  unfold fansIn at h
  rw [Bool.not_eq_true', List.any_eq_false] at h
  have h1 := h x hx
  have h2 := inB_t (by simpa using h1 : inB x.2.1 0 ((m : Int) - 1) = true)
  omega
theorem any_key (xs : List Fan) (p : FKey → Bool) : (fdat xs).any p = xs.any fun x => p x.key := by
  unfold fdat; rw [List.any_map]; rfl
set_option maxHeartbeats 800000 in
theorem l07Fans_any (M : Option Addr) (m d : Nat) (A : Option Addr) (n c : Nat) (xs : List Fan) (p : Addr) (w : World) (hr : FSS w w.heap.size A n xs) (hn : n ≤ 1048576) (hm : m ≤ 1048576) (hok : fansOk (fdat xs) = true)
    (hp1 : w.cell? ⟨p.block, p.off + 1, none⟩ = some (.slice M m d)) :
    Calls Tryz.prog 24 #[.pointer (some p), .slice A n c] w fun e w' => e = .returned (.bool (fansIn m (fdat xs))) ∧ ∃ q, w' = w.drewN q := by
  have HL := Lib.hid hr.len
  have HOK := Lib.hid (fansOk_t hok).2
  clear hok
  go_enter Tryz.func24, Tryz.ntmps24
  go_wp2
  go_loopw [5] (fun i wr => ∃ (k q : Nat), k ≤ n ∧ i = .int .i64 k ∧ Hid ((xs.take k).any (fun x => !inB x.a 0 ((m : Int) - 1)) = false) ∧ wr = w.drewN q) (fun i _ => n - (intOf i).toNat)
  case atStart => exact ⟨0, 0, by omega, rfl, rfl, rfl⟩
  case round =>
    obtain ⟨k, q, hk, rfl, HK, rfl⟩ := hrel
    by_cases hlt : k < n
    · obtain ⟨ad, x, rfl, had, hx, hc, hrx⟩ := hr.at_ hlt
      have HX := Lib.hid hx
      have ha := (fanOk_t (HOK.out x.key (List.mem_of_getElem? (fdat_at hx)))).2.1
      simp only [Fan.key] at ha
      obtain ⟨a0, a1, a2⟩ := Fan.open_ hc
      have hltI : (k : Int) < (n : Int) := by omega
      clear hx hc hrx
      by_cases hg : (m : Int) ≤ x.a
      · have HF : Hid (fansIn m (fdat xs) = false) := by
          show _ = _
          unfold fansIn
          rw [any_key, show (xs.any fun x => !inB x.key.2.1 0 ((m : Int) - 1)) = true from List.any_eq_true.2 ⟨x, List.mem_of_getElem? HX.out, by show (!inB x.a 0 ((m : Int) - 1)) = true; unfold inB; rw [decide_eq_false (by omega)]; rfl⟩]; rfl
        go_wp2
        go_quiet (fail)
        go_wp2
        go_ret
        exact ⟨ret_bool HF.out.symm, _, by first | rfl | exact World.drewN_drewN _ _ _⟩
      · have HN := Lib.hid (any_take HX.out HK.out (by show (!inB x.a 0 ((m : Int) - 1)) = false; unfold inB; rw [decide_eq_true (by omega)]; rfl))
        go_wp2
        go_quiet (fail)
        go_wp2
        go_roundw
        case rel => exact ⟨k + 1, _, by omega, by go_num, HN.out, by first | rfl | exact World.drewN_drewN _ _ _⟩
        case measure => simp [intOf]; omega
    · have e : k = n := by omega
      have HF : Hid (fansIn m (fdat xs) = true) := by
        show _ = _
        have h := HK.out
        rw [List.take_of_length_le (by rw [HL.out]; omega)] at h
        unfold fansIn
        rw [any_key, show (xs.any fun x => !inB x.key.2.1 0 ((m : Int) - 1)) = false from h]; rfl
      clear e
      go_wp2
      go_ret
      exact ⟨ret_bool HF.out.symm, _, rfl⟩
theorem indexFan_any (A : Option Addr) (n c : Nat) (xs : List Fan) (g : Nat) (cb : Array Value) (p : Fan → Bool) (w : World) (eg : ∀ args W, (callFunc g args).run Tryz.prog W = .ok (.enter g args) W)
    (hr : FSS w w.heap.size A n xs) (hn : n ≤ 1099511627776)
    (hf : ∀ (W : World) (x : Fan), Below w.heap.size w W → x ∈ xs → Calls Tryz.prog g (#[.agg #[.string x.s, .int .i64 x.a, .slice x.A x.n x.c]] ++ cb) W fun e w' => e = .returned (.bool (p x)) ∧ Below W.heap.size W w') :
    Calls Tryz.prog 102 #[.slice A n c, .func (.func g) #[] cb] w fun e w' => e = .returned (.int .i64 (idxI p xs)) ∧ Below w.heap.size w w' := by
  have HF := Lib.hid hf
  have HL := Lib.hid hr.len
  clear hf
  go_enter Tryz.func102, Tryz.ntmps102
  go_wp2
  go_loopw [8] (fun i wr => ∃ k : Nat, k ≤ n ∧ i = .int .i64 k ∧ Hid ((xs.take k).any p = false) ∧ Below w.heap.size w wr) (fun i _ => n - (intOf i).toNat)
  case atStart => exact ⟨0, by omega, rfl, by simp [Hid], Below.refl _ _⟩
  case round =>
    obtain ⟨k, hk, rfl, HK, hbw⟩ := hrel
    by_cases hlt : k < n
    · obtain ⟨ad, x, rfl, had, hx, hc, hrx⟩ := (hr.below hbw).at_ hlt
      have hcall := HF.out wr x hbw (mem_of_at hx)
      have HX := Lib.hid hx
      obtain ⟨h0, h1, h2⟩ := Fan.open_ hc
      clear hx hc hrx
      cases hp : p x <;> rw [hp] at hcall
      · have HP := Lib.hid hp
        clear hp
        go_wp2_with (go_at_fn g; refine hcall.mono ?_; rintro e w' ⟨rfl, hb1⟩)
        go_roundw
        case rel => exact ⟨k + 1, by omega, by go_num, any_take HX.out HK.out HP.out, hbw.trans (hb1.mono hbw.size)⟩
        case measure => simp [intOf]; omega
      · have HP := Lib.hid hp
        clear hp
        go_wp2_with (go_at_fn g; refine hcall.mono ?_; rintro e w' ⟨rfl, hb1⟩)
        go_ret
        exact ⟨ret_int (idx_at HX.out HP.out HK.out).symm, hbw.trans (hb1.mono hbw.size)⟩
    · have e : k = n := by omega
      subst e
      go_wp2
      go_ret
      have hall : xs.any p = false := by have := HK.out; rwa [List.take_of_length_le (by rw [HL.out]; omega)] at this
      exact ⟨ret_int (idx_none hall).symm, hbw⟩
theorem containsFan_any (A : Option Addr) (n c : Nat) (xs : List Fan) (g : Nat) (cb : Array Value) (p : Fan → Bool) (w : World) (eg : ∀ args W, (callFunc g args).run Tryz.prog W = .ok (.enter g args) W)
    (hr : FSS w w.heap.size A n xs) (hn : n ≤ 1099511627776)
    (hf : ∀ (W : World) (x : Fan), Below w.heap.size w W → x ∈ xs → Calls Tryz.prog g (#[.agg #[.string x.s, .int .i64 x.a, .slice x.A x.n x.c]] ++ cb) W fun e w' => e = .returned (.bool (p x)) ∧ Below W.heap.size W w') :
    Calls Tryz.prog 71 #[.slice A n c, .func (.func g) #[] cb] w fun e w' => e = .returned (.bool (xs.any p)) ∧ Below w.heap.size w w' := by
  have hc := indexFan_any A n c xs g cb p w eg hr hn hf
  have HD := Lib.hid (idx_any (p := p) (xs := xs))
  clear hf
  go_enter Tryz.func71, Tryz.ntmps71
  go_wp2_with fail; ((with_reducible refine hc.mono ?_); rintro e w1 ⟨rfl, hb1⟩)
  go_wp2
  go_ret
  exact ⟨ret_bool HD.out, hb1⟩
theorem indexValidA_any (M : Option Addr) (m d : Nat) (k : Int) (w : World) (hm : m ≤ 1048576) :
    Calls Tryz.prog 73 #[.slice M m d, .int .i64 k] w fun e w' => e = .returned (.bool (inB k 0 ((m : Int) - 1))) ∧ w = w' := by
  go_enter Tryz.func73, Tryz.ntmps73
  go_wp2_with (go_at_call 33; refine (within_any _ _ _ _).mono ?_; rintro e w' ⟨rfl, rfl⟩)
  go_ret
  exact ⟨rfl, rfl⟩
theorem hasFansClosure_any (M : Option Addr) (m d : Nat) (x : Fan) (b1 : Nat) (w : World) (hm : m ≤ 1048576) (c1 : w.cell? ⟨b1, 1, none⟩ = some (.slice M m d)) :
    Calls Tryz.prog 72 #[.agg #[.string x.s, .int .i64 x.a, .slice x.A x.n x.c], .pointer (some ⟨b1, 0, none⟩)] w fun e w' => e = .returned (.bool (!inB x.a 0 ((m : Int) - 1))) ∧ Below w.heap.size w w' := by
  have hl : b1 < w.heap.size := block_lt_of_cell (a := ⟨b1, 1, none⟩) c1
  go_enter Tryz.func72, Tryz.ntmps72
  go_wp2_with fail; ((with_reducible refine (indexValidA_any M m d x.a _ hm).mono ?_); rintro e w' ⟨rfl, rfl⟩)
  go_wp2
  go_ret
  exact ⟨rfl, by (repeat (first | exact Below.refl _ _ | assumption | (refine Below.alloc ?_ (by first | exact Nat.le_refl _ | (simp; done) | (simp; omega)) _) | (refine below_drewN ?_ _) | (refine Below.trans ?_ (Below.mono (by assumption) (by first | exact Nat.le_refl _ | (simp; done) | (simp; omega) | omega)))))⟩
set_option maxRecDepth 100000 in
theorem hasFans_any (J : Int) (M : Option Addr) (m d : Nat) (A : Option Addr) (n c : Nat) (xs : List Fan) (w : World) (hr : FSS w w.heap.size A n xs) (hn : n ≤ 1048576) (hm : m ≤ 1048576) :
    Calls Tryz.prog 35 #[.agg #[.int .i64 J, .slice M m d], .slice A n c] w fun e w' => e = .returned (.bool (fansIn m (fdat xs))) ∧ Below w.heap.size w w' := by
  have hb0 : Below w.heap.size w (w.alloc (.cells #[.int .i64 J, .slice M m d] 33)) := (Below.refl _ _).alloc (Nat.le_refl _) _
  have cc := containsFan_any A n c xs 72 #[.pointer (some ⟨w.heap.size, 0, none⟩)] (fun x => !inB x.a 0 ((m : Int) - 1)) (w.alloc (.cells #[.int .i64 J, .slice M m d] 33)) (fun _ _ => rfl) ((hr.below hb0).more hb0.size) (by omega)
    (fun W x hb hx => hasFansClosure_any M m d x w.heap.size W hm ((hb.cell (p := ⟨w.heap.size, 1, none⟩) (by simp)).trans (((Blk.new w _ _).cell 1).trans rfl)))
  rw [show (xs.any fun x => !inB x.a 0 ((m : Int) - 1)) = !fansIn m (fdat xs) by unfold fansIn; rw [any_key, Bool.not_not]; rfl] at cc
  have HC := Lib.hid cc
  clear cc hb0
  go_enter Tryz.func35, Tryz.ntmps35
  go_wp2_with fail; ((with_reducible refine HC.out.mono ?_); rintro e w1 ⟨rfl, hb1⟩)
  go_wp2
  go_ret
  exact ⟨ret_bool rfl, ((Below.refl _ _).alloc (Nat.le_refl _) _).trans (hb1.mono (by simp))⟩
set_option maxHeartbeats 3200000 in
set_option maxRecDepth 100000 in
theorem l07Pushes_any (A : Option Addr) (n c : Nat) (xs : List Fan) (B : Option Addr) (m d : Nat) (ds : List Int) (D : Option Addr) (e : Nat) (fs : List Int) (w : World) (hr : FSS w w.heap.size A n xs) (hok : fansOk (fdat xs) = true) (hin : fansIn m (fdat xs) = true)
    (hB : Reads w w.heap.size 1 B m (ints ds)) (hD : Reads w w.heap.size 1 D m (ints fs)) (hmn : m ≤ 1048576) (hds : ∀ d ∈ ds, -100000 ≤ d ∧ d ≤ 100000) (hfs : ∀ f ∈ fs, -100000 ≤ f ∧ f ≤ 100000) :
    Calls Tryz.prog 62 #[.slice A n c, .slice B m d, .slice D m e] w fun e w' => ∃ A' c', e = .returned (.slice A' m c') ∧ w'.ownsRow w.heap.size 2 1 (.slice A' m c') m (ints (puTo (fdat xs) ds fs n)) ∧ Below w.heap.size w w' := by
  have HL := Lib.hid hr.len
  have HLd := Lib.hid (ints_len hB)
  have HLf := Lib.hid (ints_len hD)
  have HOK := Lib.hid (fansOk_t hok)
  have n8 : n ≤ 8 := by have h := HOK.out.1; rw [fdat_len, HL.out] at h; exact h
  have HIN := Lib.hid (fansIn_t hin)
  have HCV : Hid (∀ x ∈ fdat xs, crvOk x.2.2 = true) := fun x hx => (fanOk_t (HOK.out.2 x hx)).2.2
  have HDS := Lib.hid hds
  have HFS := Lib.hid hfs
  have co := l00Own_any B m d ds w hB hmn
  clear hok hin hds hfs
  go_enter Tryz.func62, Tryz.ntmps62
  go_wp2_with fail; ((with_reducible refine co.mono ?_); rintro e' w1 ⟨A', c', rfl, ho1, hb1⟩)
  clear co
  go_wp2
  go_loopw [8] (fun i wr => ∃ k : Nat, k ≤ n ∧ i = .int .i64 k ∧ wr.ownsRow w.heap.size 2 1 (.slice A' m c') m (ints (puTo (fdat xs) ds fs k)) ∧ Below w.heap.size w wr) (fun i _ => n - (intOf i).toNat)
  case atStart => exact ⟨0, by omega, rfl, ho1, hb1⟩
  case round =>
    obtain ⟨k, hk, rfl, hown, hbr⟩ := hrel
    obtain ⟨wo, rfl⟩ : ∃ wo : World, wo = wr := ⟨_, rfl⟩
    by_cases hlt : k < n
    · obtain ⟨ad, x, rfl, had, hx, hc, hrx⟩ := (hr.below hbr).at_ hlt
      have hkey := fdat_at hx
      have hmem := List.mem_of_getElem? hkey
      obtain ⟨t, ht⟩ : ∃ t : Nat, x.a = t := ⟨x.a.toNat, by have := HIN.out x.key hmem; simp only [Fan.key] at this; omega⟩
      have htm : t < m := by have := HIN.out x.key hmem; simp only [Fan.key] at this; omega
      obtain ⟨f, hf⟩ : ∃ f, fs[t]? = some f := ⟨_, List.getElem?_eq_getElem (by rw [HLf.out]; exact htm)⟩
      have hfb := HFS.out f (List.mem_of_getElem? hf)
      have hcv := HCV.out x.key hmem
      have hpb := prT_bnd hcv f
      have hcb := getD_bnd (D := 100000 + 10000 * (k : Int)) (by omega) (puTo_bnd (fs := fs) HCV.out HDS.out k) t
      have HSN := Lib.hid (puTo_snoc (ds := ds) hkey ht hf)
      simp only [Fan.key] at hcv hpb
      obtain ⟨a0, a1, a2⟩ := Fan.open_ hc
      rw [ht] at a1
      obtain ⟨fd, rfl, hfd, hfn, hcf⟩ := (hD.below hbr).int_at hf
      obtain ⟨g, rfl, hg1, hg2, gc, gf, _⟩ := own_upd hown htm 0
      have HOWN := Lib.hid hown
      have hltI : (k : Int) < (n : Int) := by omega
      have htI : (t : Int) < (m : Int) := by omega
      have HA : Hid (∀ s : NB wo, Calls Tryz.prog 94 #[.pointer (some (ad.add (k * 3))), .int .i64 f] s.w fun e w' => e = .returned (.int .i64 (prT (dat x.rs) f)) ∧ Below s.w.heap.size s.w w') :=
        fun s => l06Pressure_any x.A x.n x.c x.rs f (ad.add (k * 3)) s.w ((hrx.below (s.h.mono hbr.size)).more (Nat.le_trans hbr.size s.h.size)) hcv hfb ((s.h.cell (block_lt_of_cell a2)).trans a2)
      have HSN2 : Hid (puTo (fdat xs) ds fs (k + 1) = (puTo (fdat xs) ds fs k).set t ((puTo (fdat xs) ds fs k).getD t 0 + prT (dat x.rs) f)) := HSN.out
      generalize hcur : (puTo (fdat xs) ds fs k).getD t 0 = cur at *
      generalize hprv : prT (dat x.rs) f = prv at *
      have hws : IntKind.i64.wrap (cur + prv) = cur + prv := IntWalk.i64_in _ (by omega)
      clear hx hc hrx hkey hmem hcv hf ht hown hcur hprv HSN
      go_wp2
      have m3_0 := nb_cell a1 (block_lt_of_cell a1); have m3_1 := nb_cell gc (block_lt_of_cell gc); have m3_2 := nb_cell hcf (block_lt_of_cell hcf); (refine wp_region_nbt 22 (by kernel_rfl) (by kernel_rfl) ?_); simp only [List.take_succ_cons, List.take_zero, List.drop_succ_cons, List.drop_zero]; (repeat (go_big_quiet_step (((go_at_call 94; exact nb_call (HA.out _)))))); (refine wpQuiet_nil ?_); intro w3 hw3; have hb3 := nb_out hw3; clear hw3 m3_0 m3_1 m3_2
      have gc3 := (hb3.cell (p := ⟨g, t, none⟩) hg2).trans gc
      have gf3 := (hb3.frozen (p := ⟨g, t, none⟩) hg2).trans gf
      obtain ⟨g', e1, _, _, _, _, hup⟩ := own_upd (own_below HOWN.out hb3) htm (cur + prv)
      have HUP : Hid ((w3.setCell ⟨g, t, none⟩ (.int .i64 (cur + prv))).ownsRow w.heap.size 2 1 (.slice (some ⟨g, 0, none⟩) m c') m (ints (puTo (fdat xs) ds fs (k + 1)))) := by
        injection e1 with e1
        injection e1 with e1
        subst e1
        show World.ownsRow _ _ _ _ _ _ _
        rw [HSN2.out]; exact hup
      have B3 := (hbr.trans (hb3.mono hbr.size)).setCell (p := ⟨g, t, none⟩) hg1 (.int .i64 (cur + prv))
      have HB3 := Lib.hid B3
      clear hup e1 B3
      go_wp2
      go_roundw
      case rel => exact ⟨k + 1, by omega, by go_num, HUP.out, HB3.out⟩
      case measure => simp [intOf]; omega
    · have e : k = n := by omega
      subst e
      go_wp2
      go_ret
      exact ⟨A', c', rfl, hown, hbr⟩
set_option maxHeartbeats 3200000 in
set_option maxRecDepth 100000 in
theorem pushesOf_any (A : Option Addr) (n c : Nat) (xs : List Fan) (B : Option Addr) (m d : Nat) (ds : List Int) (D : Option Addr) (e : Nat) (fs : List Int) (w : World) (hr : FSS w w.heap.size A n xs) (hok : fansOk (fdat xs) = true) (hin : fansIn m (fdat xs) = true)
    (hB : Reads w w.heap.size 1 B m (ints ds)) (hD : Reads w w.heap.size 1 D m (ints fs)) (hmn : m ≤ 1048576) (hds : ∀ d ∈ ds, -100000 ≤ d ∧ d ≤ 100000) (hfs : ∀ f ∈ fs, -100000 ≤ f ∧ f ≤ 100000) :
    Calls Tryz.prog 40 #[.slice A n c, .slice B m d, .slice D m e] w fun e w' => ∃ A' c', e = .returned (.slice A' m c') ∧ w'.ownsRow w.heap.size 2 1 (.slice A' m c') m (ints (puTo (fdat xs) ds fs n)) ∧ Below w.heap.size w w' := by
  have HL := Lib.hid hr.len
  have HLd := Lib.hid (ints_len hB)
  have HLf := Lib.hid (ints_len hD)
  have HOK := Lib.hid (fansOk_t hok)
  have n8 : n ≤ 8 := by have h := HOK.out.1; rw [fdat_len, HL.out] at h; exact h
  have HIN := Lib.hid (fansIn_t hin)
  have HCV : Hid (∀ x ∈ fdat xs, crvOk x.2.2 = true) := fun x hx => (fanOk_t (HOK.out.2 x hx)).2.2
  have HDS := Lib.hid hds
  have HFS := Lib.hid hfs
  have co := clone_any B m d ds w hB hmn
  clear hok hin hds hfs
  go_enter Tryz.func40, Tryz.ntmps40
  go_wp2_with fail; ((with_reducible refine co.mono ?_); rintro e' w1 ⟨A', c', rfl, ho1, hb1⟩)
  clear co
  go_wp2
  go_loopw [14] (fun i wr => ∃ k : Nat, k ≤ n ∧ i = .int .i64 k ∧ wr.ownsRow w.heap.size 2 1 (.slice A' m c') m (ints (puTo (fdat xs) ds fs k)) ∧ Below w.heap.size w wr) (fun i _ => n - (intOf i).toNat)
  case atStart => exact ⟨0, by omega, rfl, ho1, hb1⟩
  case round =>
    obtain ⟨k, hk, rfl, hown, hbr⟩ := hrel
    obtain ⟨wo, rfl⟩ : ∃ wo : World, wo = wr := ⟨_, rfl⟩
    by_cases hlt : k < n
    · obtain ⟨ad, x, rfl, had, hx, hc, hrx⟩ := (hr.below hbr).at_ hlt
      have hkey := fdat_at hx
      have hmem := List.mem_of_getElem? hkey
      obtain ⟨t, ht⟩ : ∃ t : Nat, x.a = t := ⟨x.a.toNat, by have := HIN.out x.key hmem; simp only [Fan.key] at this; omega⟩
      have htm : t < m := by have := HIN.out x.key hmem; simp only [Fan.key] at this; omega
      obtain ⟨f, hf⟩ : ∃ f, fs[t]? = some f := ⟨_, List.getElem?_eq_getElem (by rw [HLf.out]; exact htm)⟩
      have hfb := HFS.out f (List.mem_of_getElem? hf)
      have hcv := HCV.out x.key hmem
      have hpb := prT_bnd hcv f
      have hcb := getD_bnd (D := 100000 + 10000 * (k : Int)) (by omega) (puTo_bnd (fs := fs) HCV.out HDS.out k) t
      have HSN := Lib.hid (puTo_snoc (ds := ds) hkey ht hf)
      simp only [Fan.key] at hcv hpb
      obtain ⟨a0, a1, a2⟩ := Fan.open_ hc
      rw [ht] at a1
      obtain ⟨fd, rfl, hfd, hfn, hcf⟩ := (hD.below hbr).int_at hf
      obtain ⟨g, rfl, hg1, hg2, gc0, gf0, _⟩ := own_upd hown htm 0
      have HOWN := Lib.hid hown
      have hltI : (k : Int) < (n : Int) := by omega
      have htI : (t : Int) < (m : Int) := by omega
      have hbo : Below wo.heap.size wo (wo.alloc (.cells #[.string x.s, .int .i64 t, .slice x.A x.n x.c] 58)) := (Below.refl _ _).alloc (Nat.le_refl _) _
      have f0 : (wo.alloc (.cells #[.string x.s, .int .i64 t, .slice x.A x.n x.c] 58)).cell? ⟨wo.heap.size, 0, none⟩ = some (.string x.s) := ((Blk.new wo _ _).cell 0).trans rfl
      have f1 : (wo.alloc (.cells #[.string x.s, .int .i64 t, .slice x.A x.n x.c] 58)).cell? ⟨wo.heap.size, 1, none⟩ = some (.int .i64 t) := ((Blk.new wo _ _).cell 1).trans rfl
      have f2 : (wo.alloc (.cells #[.string x.s, .int .i64 t, .slice x.A x.n x.c] 58)).cell? ⟨wo.heap.size, 2, none⟩ = some (.slice x.A x.n x.c) := ((Blk.new wo _ _).cell 2).trans rfl
      have gc := (hbo.cell (p := ⟨g, t, none⟩) hg2).trans gc0
      have hcf1 := (hbo.cell (block_lt_of_cell hcf)).trans hcf
      have HA : Hid (∀ s : NB (wo.alloc (.cells #[.string x.s, .int .i64 t, .slice x.A x.n x.c] 58)), Calls Tryz.prog 79 #[.agg #[.string x.s, .int .i64 t, .slice x.A x.n x.c], .int .i64 f] s.w fun e w' => e = .returned (.int .i64 (prT (dat x.rs) f)) ∧ Below s.w.heap.size s.w w') :=
        fun s => pressure_any x.s t x.A x.n x.c x.rs f s.w (by
          have hbt := hbo.trans (s.h.mono hbo.size)
          exact (hrx.below (hbt.mono hbr.size)).more (Nat.le_trans hbr.size hbt.size)) hcv hfb
      have HSN2 : Hid (puTo (fdat xs) ds fs (k + 1) = (puTo (fdat xs) ds fs k).set t ((puTo (fdat xs) ds fs k).getD t 0 + prT (dat x.rs) f)) := HSN.out
      generalize hcur : (puTo (fdat xs) ds fs k).getD t 0 = cur at *
      generalize hprv : prT (dat x.rs) f = prv at *
      have hws : IntKind.i64.wrap (cur + prv) = cur + prv := IntWalk.i64_in _ (by omega)
      have HBO := Lib.hid hbo
      have HGF := Lib.hid gf0
      clear hx hc hrx hkey hmem hcv hf ht hown hcur hprv HSN gc0 gf0 hcf hbo
      go_wp2
      have m3_0 := nb_cell f0 (block_lt_of_cell f0); have m3_1 := nb_cell f1 (block_lt_of_cell f1); have m3_2 := nb_cell f2 (block_lt_of_cell f2); have m3_3 := nb_cell gc (block_lt_of_cell gc); have m3_4 := nb_cell hcf1 (block_lt_of_cell hcf1); (refine wp_region_nbt 14 (by kernel_rfl) (by kernel_rfl) ?_); simp only [List.take_succ_cons, List.take_zero, List.drop_succ_cons, List.drop_zero]; (repeat (go_big_quiet_step (((go_at_call 79; exact nb_call (HA.out _)))))); (refine wpQuiet_nil ?_); intro w3 hw3; have hb3 := nb_out hw3; clear hw3 m3_0 m3_1 m3_2 m3_3 m3_4
      have hb4 := HBO.out.trans (hb3.mono HBO.out.size)
      have gc3 := (hb3.cell (block_lt_of_cell gc)).trans gc
      have gf3 := (hb4.frozen (p := ⟨g, t, none⟩) hg2).trans HGF.out
      obtain ⟨g', e1, _, _, _, _, hup⟩ := own_upd (own_below HOWN.out hb4) htm (cur + prv)
      have HUP : Hid ((w3.setCell ⟨g, t, none⟩ (.int .i64 (cur + prv))).ownsRow w.heap.size 2 1 (.slice (some ⟨g, 0, none⟩) m c') m (ints (puTo (fdat xs) ds fs (k + 1)))) := by
        injection e1 with e1
        injection e1 with e1
        subst e1
        show World.ownsRow _ _ _ _ _ _ _
        rw [HSN2.out]; exact hup
      have B3 := (hbr.trans (hb4.mono hbr.size)).setCell (p := ⟨g, t, none⟩) hg1 (.int .i64 (cur + prv))
      have HB3 := Lib.hid B3
      clear hup e1 B3
      go_wp2
      go_roundw
      case rel => exact ⟨k + 1, by omega, by go_num, HUP.out, HB3.out⟩
      case measure => simp [intOf]; omega
    · have e : k = n := by omega
      subst e
      go_wp2
      go_ret
      exact ⟨A', c', rfl, hown, hbr⟩
end Go.Proofs.YtjmhhbjbmgpagaaGreat

/- Contracts of the pushes of all airways, both sides. -/
namespace Go.Proofs.YtjmhhbjbmgpagaaGreat
set_option linter.unusedVariables false
set_option linter.unusedSimpArgs false
open Go.RowKit
def puR (J : Int) (xs : List Awy) (ks : List FKey) (ds fs : List Int) : List Int × Int :=
  if mineOk J xs = true ∧ fansOk ks = true then (if fansIn xs.length ks = true ∧ lstOk xs.length (-100000) 100000 ds = true ∧ lstOk xs.length (-100000) 100000 fs = true then (puTo ks ds fs ks.length, 0) else ([], 7)) else ([], 1)
theorem puR_1 {J : Int} {xs : List Awy} {ks : List FKey} {ds fs : List Int} (h : ¬ (mineOk J xs = true ∧ fansOk ks = true)) : puR J xs ks ds fs = ([], 1) := if_neg h
theorem puR_7 {J : Int} {xs : List Awy} {ks : List FKey} {ds fs : List Int} (h : mineOk J xs = true) (h1 : fansOk ks = true) (h2 : ¬ (fansIn xs.length ks = true ∧ lstOk xs.length (-100000) 100000 ds = true ∧ lstOk xs.length (-100000) 100000 fs = true)) : puR J xs ks ds fs = ([], 7) := by
  unfold puR; rw [if_pos ⟨h, h1⟩, if_neg h2]
theorem puR_0 {J : Int} {xs : List Awy} {ks : List FKey} {ds fs : List Int} (h : mineOk J xs = true) (h1 : fansOk ks = true) (h2 : fansIn xs.length ks = true) (h3 : lstOk xs.length (-100000) 100000 ds = true) (h4 : lstOk xs.length (-100000) 100000 fs = true) : puR J xs ks ds fs = (puTo ks ds fs ks.length, 0) := by
  unfold puR; rw [if_pos ⟨h, h1⟩, if_pos ⟨h2, h3, h4⟩]
set_option maxHeartbeats 800000 in
theorem l07Pressures_any (m : Nat) (M : Option Addr) (d : Nat) (p : Addr) (A : Option Addr) (n c : Nat) (xs : List Int) (w : World) (hr : Reads w w.heap.size 1 A n (ints xs)) (hn : n ≤ 1048576) (h0 : w.cell? ⟨p.block, p.off + 1, none⟩ = some (.slice M m d)) :
    Calls Tryz.prog 25 #[.pointer (some p), .slice A n c] w fun e w' => e = .returned (.bool (lstOk (m : Int) (-100000) 100000 xs)) ∧ w = w' := by
  have HL := Lib.hid (ints_len hr)
  rcases Bool.eq_false_or_eq_true ((n : Int) == (m : Int)) with hnj | hnj
  all_goals
    have HN := Lib.hid hnj
    go_enter Tryz.func25, Tryz.ntmps25
    go_wp2
    go_loop [5] (fun i => ∃ k : Nat, k ≤ n ∧ i = .int .i64 k ∧ Hid ((xs.take k).all (fun x => inB x (-100000) 100000) = true)) (fun i => n - (intOf i).toNat)
    case atStart => exact ⟨0, by omega, rfl, rfl⟩
    case round =>
      obtain ⟨k, hk, rfl, HK⟩ := hrel
      by_cases hlt : k < n
      · obtain ⟨ad, u, rfl, had, hx, hc⟩ := hr.at_ hlt
        obtain ⟨b, hb, rfl⟩ := ints_at hx
        have HX := Lib.hid hb
        clear hb hx
        cases hp : inB b (-100000) 100000
        · have HP : Hid (inB b (-100000) 100000 = false) := hp
          go_wp2_with (go_at_call 22; refine (l00In_any _ _ _ _).mono ?_; rintro e w' ⟨rfl, rfl⟩)
          go_ret
          exact ⟨ret_bool (by unfold lstOk allIn; rw [all_false (p := fun x => inB x (-100000) 100000) HX.out HP.out, Bool.false_and]), rfl⟩
        · have HP : Hid (inB b (-100000) 100000 = true) := hp
          go_wp2_with (go_at_call 22; refine (l00In_any _ _ _ _).mono ?_; rintro e w' ⟨rfl, rfl⟩)
          go_round
          case rel => exact ⟨k + 1, by omega, by go_num, all_take HX.out HK.out HP.out⟩
          case measure => simp [intOf]; omega
      · have e : k = n := by omega
        subst e
        have HA : Hid (allIn (-100000) 100000 xs = true) := all_whole HL.out HK.out
        go_wp2
        go_ret
        exact ⟨ret_bool (by unfold lstOk; rw [HA.out, HL.out, HN.out]; first | rfl | simp_all), rfl⟩
end Go.Proofs.YtjmhhbjbmgpagaaGreat

/- Junctions that airways join: plain laws. Nothing of the program is named here. -/
namespace Go.Proofs.YtjmhhbjbmgpagaaGreat
set_option linter.unusedVariables false
set_option linter.unusedSimpArgs false
abbrev Edges := List (Nat × Nat)
def eA (E : Edges) (i : Nat) : Nat := (E.getD i (0, 0)).1
def eB (E : Edges) (i : Nat) : Nat := (E.getD i (0, 0)).2
/-- From u one comes to v along airways of T. -/
inductive Conn (E : Edges) (T : List Nat) (u : Nat) : Nat → Prop
  | refl : Conn E T u u
  | fwd {i : Nat} : Conn E T u (eA E i) → i ∈ T → Conn E T u (eB E i)
  | bwd {i : Nat} : Conn E T u (eB E i) → i ∈ T → Conn E T u (eA E i)
section
variable {E : Edges} {T : List Nat} {u v x : Nat}
theorem Conn.trans (h : Conn E T u v) (k : Conn E T v x) : Conn E T u x := by
  induction k with
  | refl => exact h
  | fwd _ hi ih => exact ih.fwd hi
  | bwd _ hi ih => exact ih.bwd hi
theorem Conn.symm (h : Conn E T u v) : Conn E T v u := by
  induction h with
  | refl => exact .refl
  | fwd _ hi ih => exact (Conn.bwd .refl hi).trans ih
  | bwd _ hi ih => exact (Conn.fwd .refl hi).trans ih
theorem conn_nil : Conn E [] u v ↔ u = v := by
  constructor
  · intro h
    cases h with
    | refl => rfl
    | fwd _ hi => simp at hi
    | bwd _ hi => simp at hi
  · rintro rfl; exact .refl
theorem Conn.mono {T' : List Nat} (h : Conn E T u v) (hs : ∀ i ∈ T, i ∈ T') : Conn E T' u v := by
  induction h with
  | refl => exact .refl
  | fwd _ hi ih => exact ih.fwd (hs _ hi)
  | bwd _ hi ih => exact ih.bwd (hs _ hi)
theorem conn_snoc {i : Nat} : Conn E (T ++ [i]) u v ↔ Conn E T u v ∨ (Conn E T u (eA E i) ∧ Conn E T (eB E i) v) ∨ (Conn E T u (eB E i) ∧ Conn E T (eA E i) v) := by
  constructor
  · intro h
    induction h with
    | refl => exact .inl .refl
    | @fwd j _ hj ih =>
      rcases List.mem_append.1 hj with hj | hj
      · rcases ih with h | ⟨h1, h2⟩ | ⟨h1, h2⟩
        · exact .inl (h.fwd hj)
        · exact .inr (.inl ⟨h1, h2.fwd hj⟩)
        · exact .inr (.inr ⟨h1, h2.fwd hj⟩)
      · rw [List.mem_singleton] at hj
        subst hj
        rcases ih with h | ⟨h1, h2⟩ | ⟨h1, h2⟩
        · exact .inr (.inl ⟨h, .refl⟩)
        · exact .inr (.inl ⟨h1, .refl⟩)
        · exact .inl h1
    | @bwd j _ hj ih =>
      rcases List.mem_append.1 hj with hj | hj
      · rcases ih with h | ⟨h1, h2⟩ | ⟨h1, h2⟩
        · exact .inl (h.bwd hj)
        · exact .inr (.inl ⟨h1, h2.bwd hj⟩)
        · exact .inr (.inr ⟨h1, h2.bwd hj⟩)
      · rw [List.mem_singleton] at hj
        subst hj
        rcases ih with h | ⟨h1, h2⟩ | ⟨h1, h2⟩
        · exact .inr (.inr ⟨h, .refl⟩)
        · exact .inl h1
        · exact .inr (.inr ⟨h1, .refl⟩)
  · have hm : ∀ j ∈ T, j ∈ T ++ [i] := fun j hj => List.mem_append_left _ hj
    have hi : i ∈ T ++ [i] := List.mem_append_right _ (List.mem_singleton.2 rfl)
    rintro (h | ⟨h1, h2⟩ | ⟨h1, h2⟩)
    · exact h.mono hm
    · exact ((h1.mono hm).fwd hi).trans (h2.mono hm)
    · exact ((h1.mono hm).bwd hi).trans (h2.mono hm)
end
theorem getD_map {p : List Nat} {f : Nat → Nat} {u : Nat} (h : u < p.length) : (p.map f).getD u 0 = f (p.getD u 0) := by
  rw [List.getD_eq_getElem?_getD, List.getD_eq_getElem?_getD, List.getElem?_map, List.getElem?_eq_getElem h]; rfl
/-- Labels x and y become one. -/
def mrg (p : List Nat) (x y : Nat) : List Nat := p.map fun l => if l = max x y then min x y else l
def stepP (E : Edges) (p : List Nat) (i : Nat) : List Nat := mrg p (p.getD (eA E i) 0) (p.getD (eB E i) 0)
def partsL (E : Edges) (J : Nat) (T : List Nat) : List Nat := T.foldl (stepP E) (List.range J)
theorem mrg_eq (x y s t : Nat) : ((if s = max x y then min x y else s) = if t = max x y then min x y else t) ↔ s = t ∨ (s = x ∧ t = y) ∨ (s = y ∧ t = x) := by
  split <;> split <;> omega
structure IsParts (E : Edges) (J : Nat) (T : List Nat) (p : List Nat) : Prop where
  len : p.length = J
  iff : ∀ u v, u < J → v < J → (p.getD u 0 = p.getD v 0 ↔ Conn E T u v)
theorem isParts_step {E : Edges} {J : Nat} {T p : List Nat} {i : Nat} (h : IsParts E J T p) (ha : eA E i < J) (hb : eB E i < J) : IsParts E J (T ++ [i]) (stepP E p i) := by
  refine ⟨by unfold stepP mrg; rw [List.length_map, h.len], fun u v hu hv => ?_⟩
  unfold stepP mrg
  rw [getD_map (by rw [h.len]; exact hu), getD_map (by rw [h.len]; exact hv), mrg_eq, conn_snoc, h.iff u v hu hv, h.iff u _ hu ha, h.iff u _ hu hb]
  rw [show (p.getD v 0 = p.getD (eB E i) 0) ↔ Conn E T (eB E i) v from ⟨fun e => (h.iff _ v hb hv).1 e.symm, fun e => ((h.iff _ v hb hv).2 e).symm⟩]
  rw [show (p.getD v 0 = p.getD (eA E i) 0) ↔ Conn E T (eA E i) v from ⟨fun e => (h.iff _ v ha hv).1 e.symm, fun e => ((h.iff _ v ha hv).2 e).symm⟩]
theorem isParts_fold {E : Edges} {J : Nat} : ∀ {T T0 p : List Nat}, IsParts E J T0 p → (∀ i ∈ T, eA E i < J ∧ eB E i < J) → IsParts E J (T0 ++ T) (T.foldl (stepP E) p)
  | [], T0, p, h, _ => by simpa using h
  | i :: t, T0, p, h, hr => by
    have h1 := hr i (List.mem_cons_self ..)
    have h2 := isParts_fold (T := t) (isParts_step h h1.1 h1.2) fun j hj => hr j (List.mem_cons_of_mem _ hj)
    rw [List.append_assoc] at h2
    exact h2
theorem parts_char {E : Edges} {J : Nat} {T : List Nat} (hr : ∀ i ∈ T, eA E i < J ∧ eB E i < J) : IsParts E J T (partsL E J T) := by
  have h0 : IsParts E J [] (List.range J) := by
    refine ⟨by simp, fun u v hu hv => ?_⟩
    rw [conn_nil, List.getD_eq_getElem?_getD, List.getD_eq_getElem?_getD, List.getElem?_range hu, List.getElem?_range hv]; rfl
  have h := isParts_fold h0 hr
  rw [List.nil_append] at h
  exact h
/-- The airways that join junctions that were not joined yet, among the first k. -/
def treeL (E : Edges) (J : Nat) : Nat → List Nat
  | 0 => []
  | k + 1 => if (partsL E J (treeL E J k)).getD (eA E k) 0 = (partsL E J (treeL E J k)).getD (eB E k) 0 then treeL E J k else treeL E J k ++ [k]
theorem treeL_lt (E : Edges) (J : Nat) : ∀ k, ∀ i ∈ treeL E J k, i < k
  | 0, i, h => by simp [treeL] at h
  | k + 1, i, h => by
    simp only [treeL] at h
    split at h
    · have := treeL_lt E J k i h; omega
    · rcases List.mem_append.1 h with h | h
      · have := treeL_lt E J k i h; omega
      · rw [List.mem_singleton] at h; omega
theorem treeL_len (E : Edges) (J : Nat) : ∀ k, (treeL E J k).length ≤ k
  | 0 => by simp [treeL]
  | k + 1 => by
    have := treeL_len E J k
    simp only [treeL]
    split
    · omega
    · simp; omega
theorem treeL_y {E : Edges} {J k : Nat} (h : Conn E (treeL E J k) (eA E k) (eB E k)) (hr : ∀ i, i ≤ k → eA E i < J ∧ eB E i < J) : treeL E J (k + 1) = treeL E J k := by
  have hp := parts_char (E := E) (J := J) (T := treeL E J k) fun i hi => hr i (Nat.le_of_lt (treeL_lt E J k i hi))
  simp only [treeL]
  rw [if_pos ((hp.iff _ _ (hr k (Nat.le_refl _)).1 (hr k (Nat.le_refl _)).2).2 h)]
theorem treeL_n {E : Edges} {J k : Nat} (h : ¬ Conn E (treeL E J k) (eA E k) (eB E k)) (hr : ∀ i, i ≤ k → eA E i < J ∧ eB E i < J) : treeL E J (k + 1) = treeL E J k ++ [k] := by
  have hp := parts_char (E := E) (J := J) (T := treeL E J k) fun i hi => hr i (Nat.le_of_lt (treeL_lt E J k i hi))
  simp only [treeL]
  rw [if_neg fun e => h ((hp.iff _ _ (hr k (Nat.le_refl _)).1 (hr k (Nat.le_refl _)).2).1 e)]
/-- The whole tree joins the ends of each airway. -/
theorem treeL_sub (E : Edges) (J : Nat) {k l : Nat} (h : k ≤ l) : ∀ i ∈ treeL E J k, i ∈ treeL E J l := by
  induction l with
  | zero => obtain rfl : k = 0 := by omega
            exact fun i hi => hi
  | succ l ih =>
    intro i hi
    rcases Nat.lt_or_ge l k with h1 | h1
    · obtain rfl : k = l + 1 := by omega
      exact hi
    · have h2 := ih h1 i hi
      simp only [treeL]
      split
      · exact h2
      · exact List.mem_append_left _ h2
theorem tree_conn {E : Edges} {J n k : Nat} (hk : k < n) (hr : ∀ i, i < n → eA E i < J ∧ eB E i < J) : Conn E (treeL E J n) (eA E k) (eB E k) := by
  have h1 : Conn E (treeL E J (k + 1)) (eA E k) (eB E k) := by
    by_cases h : Conn E (treeL E J k) (eA E k) (eB E k)
    · rw [treeL_y h fun i hi => hr i (by omega)]; exact h
    · rw [treeL_n h fun i hi => hr i (by omega)]
      exact (Conn.refl).fwd (List.mem_append_right _ (List.mem_singleton.2 rfl))
  exact h1.mono (treeL_sub E J (by omega))
/-- A walk of n airways of T leads from u to the end. -/
inductive Wlk (E : Edges) (T : List Nat) (to : Nat) : Nat → Nat → Prop
  | zero : Wlk E T to 0 to
  | fwd {n i : Nat} : Wlk E T to n (eA E i) → i ∈ T → Wlk E T to (n + 1) (eB E i)
  | bwd {n i : Nat} : Wlk E T to n (eB E i) → i ∈ T → Wlk E T to (n + 1) (eA E i)
def isDist (E : Edges) (T : List Nat) (to n u : Nat) : Prop := Wlk E T to n u ∧ ∀ m, m < n → ¬ Wlk E T to m u
section
variable {E : Edges} {T : List Nat} {to u v n m : Nat}
theorem dist_unique (h : isDist E T to n u) (k : isDist E T to m u) : n = m := by
  rcases Nat.lt_trichotomy n m with g | g | g
  · exact absurd h.1 (k.2 n g)
  · exact g
  · exact absurd k.1 (h.2 m g)
theorem dist_exists : ∀ n, Wlk E T to n u → ∃ m, m ≤ n ∧ isDist E T to m u := by
  intro n
  induction n using Nat.strongRecOn with
  | _ n ih =>
    intro h
    by_cases hx : ∃ m, m < n ∧ Wlk E T to m u
    · obtain ⟨m, hm, hw⟩ := hx
      obtain ⟨q, hq, hd⟩ := ih m hm hw
      exact ⟨q, by omega, hd⟩
    · exact ⟨n, Nat.le_refl _, h, fun m hm hw => hx ⟨m, hm, hw⟩⟩
theorem dist_zero : isDist E T to 0 u ↔ u = to := by
  constructor
  · intro h
    generalize hz : 0 = z at h
    cases h.1 with
    | zero => rfl
    | fwd _ _ => cases hz
    | bwd _ _ => cases hz
  · rintro rfl; exact ⟨.zero, fun m hm => absurd hm (Nat.not_lt_zero _)⟩
theorem wlk_of_conn (h : Conn E T to u) : ∃ n, Wlk E T to n u := by
  induction h with
  | refl => exact ⟨0, .zero⟩
  | fwd _ hi ih => obtain ⟨n, hn⟩ := ih; exact ⟨n + 1, hn.fwd hi⟩
  | bwd _ hi ih => obtain ⟨n, hn⟩ := ih; exact ⟨n + 1, hn.bwd hi⟩
/-- The next junction on a shortest walk. -/
theorem dist_pred (h : isDist E T to (n + 1) u) : ∃ i, i ∈ T ∧ ∃ v, isDist E T to n v ∧ ((u = eB E i ∧ v = eA E i) ∨ (u = eA E i ∧ v = eB E i)) := by
  obtain ⟨h1, h2⟩ := h
  generalize hz : n + 1 = z at h1 h2
  cases h1 with
  | zero => cases hz
  | @fwd n' i hw hi =>
    obtain rfl : n = n' := by omega
    refine ⟨i, hi, _, ⟨hw, fun m hm hm' => h2 (m + 1) (by omega) (hm'.fwd hi)⟩, .inl ⟨rfl, rfl⟩⟩
  | @bwd n' i hw hi =>
    obtain rfl : n = n' := by omega
    refine ⟨i, hi, _, ⟨hw, fun m hm hm' => h2 (m + 1) (by omega) (hm'.bwd hi)⟩, .inr ⟨rfl, rfl⟩⟩
/-- Distances of neighbours differ by one at most. -/
theorem dist_near (h : isDist E T to n u) (hw : Wlk E T to (n + 1) v) : ∃ m, m ≤ n + 1 ∧ isDist E T to m v := dist_exists _ hw
theorem dist_down (h : isDist E T to n u) : ∀ m, m ≤ n → ∃ v, isDist E T to m v := by
  induction n generalizing u with
  | zero => intro m hm; obtain rfl : m = 0 := by omega
            exact ⟨u, h⟩
  | succ n ih =>
    intro m hm
    rcases Nat.lt_or_ge n m with h1 | h1
    · obtain rfl : m = n + 1 := by omega
      exact ⟨u, h⟩
    · obtain ⟨i, _, v, hv, _⟩ := dist_pred h
      exact ih hv m h1
end
theorem nodup_le : ∀ (J : Nat) (l : List Nat), l.Nodup → (∀ x ∈ l, x < J) → l.length ≤ J
  | 0, l, _, h => by
    cases l with
    | nil => simp
    | cons x t => exact absurd (h x (List.mem_cons_self ..)) (Nat.not_lt_zero _)
  | J + 1, l, hn, h => by
    have h1 := nodup_le J (l.erase J) (hn.erase J) fun x hx => by
      have h2 := h x (List.mem_of_mem_erase hx)
      have h3 : x ≠ J := by rintro rfl; exact hn.not_mem_erase hx
      omega
    by_cases hm : J ∈ l
    · rw [List.length_erase_of_mem hm] at h1; omega
    · rw [List.erase_of_not_mem hm] at h1; omega
/-- A distance is less than the number of junctions. -/
theorem dist_lt {E : Edges} {T : List Nat} {to J n u : Nat} (hto : to < J) (hr : ∀ i ∈ T, eA E i < J ∧ eB E i < J) (h : isDist E T to n u) : n < J := by
  have hin : ∀ m v, Wlk E T to m v → v < J := fun m v hw => by
    cases hw with
    | zero => exact hto
    | fwd _ hi => exact (hr _ hi).2
    | bwd _ hi => exact (hr _ hi).1
  have key : ∀ k, k ≤ n + 1 → ∃ l : List Nat, l.length = k ∧ l.Nodup ∧ ∀ x ∈ l, x < J ∧ ∃ m, m < k ∧ isDist E T to m x := by
    intro k
    induction k with
    | zero => exact fun _ => ⟨[], rfl, List.nodup_nil, fun x hx => by simp at hx⟩
    | succ k ih =>
      intro hk
      obtain ⟨l, h1, h2, h3⟩ := ih (by omega)
      obtain ⟨v, hv⟩ := dist_down h k (by omega)
      refine ⟨v :: l, by simp [h1], List.nodup_cons.2 ⟨fun hm => ?_, h2⟩, fun x hx => ?_⟩
      · obtain ⟨_, m, hm1, hm2⟩ := h3 v hm
        have := dist_unique hv hm2
        omega
      · rcases List.mem_cons.1 hx with rfl | hx
        · exact ⟨hin _ _ hv.1, k, by omega, hv⟩
        · obtain ⟨g1, m, g2, g3⟩ := h3 x hx
          exact ⟨g1, m, by omega, g3⟩
  obtain ⟨l, h1, h2, h3⟩ := key (n + 1) (Nat.le_refl _)
  have := nodup_le J l h2 fun x hx => (h3 x hx).1
  omega
end Go.Proofs.YtjmhhbjbmgpagaaGreat

/- Distances along airways, found level by level; the walk that they lead. Plain laws. -/
namespace Go.Proofs.YtjmhhbjbmgpagaaGreat
set_option linter.unusedVariables false
set_option linter.unusedSimpArgs false
/-- One airway at one level: an end without a distance gets one. -/
def relax1 (f : List Int) (s : Int) (u v : Nat) : List Int := if f.getD u 0 = s ∧ f.getD v 0 < 0 then f.set v (s + 1) else f
def relax (E : Edges) (s : Int) (f : List Int) (i : Nat) : List Int := relax1 (relax1 f s (eA E i) (eB E i)) s (eB E i) (eA E i)
def levelL (E : Edges) (T : List Nat) (f : List Int) (s : Nat) : List Int := T.foldl (relax E (s : Int)) f
def far0 (J to : Nat) : List Int := (List.replicate J (-1 : Int)).set to 0
def farTo (E : Edges) (J : Nat) (T : List Nat) (to : Nat) (k : Nat) : List Int := (List.range k).foldl (levelL E T) (far0 J to)
def farL (E : Edges) (J : Nat) (T : List Nat) (to : Nat) : List Int := farTo E J T to J
theorem farTo_succ (E : Edges) (J : Nat) (T : List Nat) (to k : Nat) : farTo E J T to (k + 1) = levelL E T (farTo E J T to k) k := by
  unfold farTo; rw [List.range_succ, List.foldl_append]; rfl
theorem relax1_len (f : List Int) (s : Int) (u v : Nat) : (relax1 f s u v).length = f.length := by unfold relax1; split <;> simp
theorem relax_len (E : Edges) (s : Int) (f : List Int) (i : Nat) : (relax E s f i).length = f.length := by unfold relax; rw [relax1_len, relax1_len]
theorem level_len (E : Edges) (s : Int) : ∀ (T : List Nat) (f : List Int), (T.foldl (relax E s) f).length = f.length
  | [], f => rfl
  | i :: t, f => by rw [List.foldl_cons, level_len E s t, relax_len]
theorem far0_len (J to : Nat) : (far0 J to).length = J := by unfold far0; simp
theorem farTo_len (E : Edges) (J : Nat) (T : List Nat) (to : Nat) : ∀ k, (farTo E J T to k).length = J
  | 0 => far0_len J to
  | k + 1 => by rw [farTo_succ]; unfold levelL; rw [level_len, farTo_len E J T to k]
theorem getD_set {f : List Int} {v u : Nat} {x : Int} (hv : v < f.length) : (f.set v x).getD u 0 = if v = u then x else f.getD u 0 := by
  rw [List.getD_eq_getElem?_getD, List.getElem?_set, List.getD_eq_getElem?_getD]
  split
  · first | rfl | (rw [if_pos hv]; rfl)
  · rfl
/-- All distances found are right, and all up to level s are found. -/
structure FarInv (E : Edges) (J : Nat) (T : List Nat) (to : Nat) (s : Nat) (f : List Int) : Prop where
  len : f.length = J
  lo : ∀ u, u < J → -1 ≤ f.getD u 0
  right : ∀ u, u < J → 0 ≤ f.getD u 0 → isDist E T to (f.getD u 0).toNat u
  known : ∀ u, u < J → ∀ m, m ≤ s → isDist E T to m u → f.getD u 0 = m
  top : ∀ u, u < J → f.getD u 0 ≤ s + 1
section
variable {E : Edges} {J : Nat} {T : List Nat} {to s : Nat} {f : List Int}
/-- What one step keeps. -/
theorem relax1_inv (h : FarInv E J T to s f) {u v : Nat} (hu : u < J) (hv : v < J) (hw : ∀ n, Wlk E T to n u → Wlk E T to (n + 1) v) :
    FarInv E J T to s (relax1 f s u v) ∧ (∀ x, x < J → 0 ≤ f.getD x 0 → (relax1 f s u v).getD x 0 = f.getD x 0) ∧ (∀ x, x < J → f.getD x 0 < 0 → (relax1 f s u v).getD x 0 = f.getD x 0 ∨ (relax1 f s u v).getD x 0 = s + 1) ∧ (f.getD u 0 = s → 0 ≤ (relax1 f s u v).getD v 0) := by
  unfold relax1
  by_cases hc : f.getD u 0 = s ∧ f.getD v 0 < 0
  · rw [if_pos hc]
    have hvl : v < f.length := by rw [h.len]; exact hv
    refine ⟨⟨by simp [h.len], fun x hx => ?_, fun x hx => ?_, fun x hx m hm hd => ?_, fun x hx => ?_⟩, fun x hx h0 => ?_, fun x hx h0 => ?_, fun _ => ?_⟩
    · rw [getD_set hvl]; split
      · omega
      · exact h.lo x hx
    · rw [getD_set hvl]
      split
      · rename_i he
        subst he
        intro _
        have h1 := h.right u hu (by omega)
        rw [hc.1, Int.toNat_natCast] at h1
        refine ⟨by rw [show ((s : Int) + 1).toNat = s + 1 by omega]; exact hw _ h1.1, fun m hm hwm => ?_⟩
        obtain ⟨q, hq, hd⟩ := dist_exists _ hwm
        have h2 := h.known v hx q (by omega) hd
        omega
      · exact h.right x hx
    · rw [getD_set hvl]
      split
      · rename_i he
        subst he
        have h2 := h.known v hx m hm hd
        omega
      · exact h.known x hx m hm hd
    · rw [getD_set hvl]; split
      · exact Int.le_refl _
      · exact h.top x hx
    · rw [getD_set hvl]; split
      · rename_i he; subst he; omega
      · rfl
    · rw [getD_set hvl]; split
      · exact .inr rfl
      · exact .inl rfl
    · rw [getD_set hvl, if_pos rfl]; omega
  · rw [if_neg hc]
    exact ⟨h, fun x _ _ => rfl, fun x _ _ => .inl rfl, fun h1 => by
      rcases Int.lt_or_le (f.getD v 0) 0 with h2 | h2
      · exact absurd ⟨h1, h2⟩ hc
      · exact h2⟩
theorem relax_inv (h : FarInv E J T to s f) {i : Nat} (hi : i ∈ T) (ha : eA E i < J) (hb : eB E i < J) :
    FarInv E J T to s (relax E s f i) ∧ (∀ x, x < J → 0 ≤ f.getD x 0 → (relax E s f i).getD x 0 = f.getD x 0) ∧ (∀ x, x < J → f.getD x 0 < 0 → (relax E s f i).getD x 0 = f.getD x 0 ∨ (relax E s f i).getD x 0 = s + 1) ∧
      ((relax E s f i).getD (eA E i) 0 = s → 0 ≤ (relax E s f i).getD (eB E i) 0) ∧ ((relax E s f i).getD (eB E i) 0 = s → 0 ≤ (relax E s f i).getD (eA E i) 0) := by
  obtain ⟨a1, a2, a3, a4⟩ := relax1_inv h ha hb fun n hn => hn.fwd hi
  obtain ⟨b1, b2, b3, b4⟩ := relax1_inv a1 hb ha fun n hn => hn.bwd hi
  have keep : ∀ x, x < J → 0 ≤ f.getD x 0 → (relax E s f i).getD x 0 = f.getD x 0 := fun x hx h0 => by
    have h1 := a2 x hx h0
    exact (b2 x hx (by omega)).trans h1
  have neg : ∀ x, x < J → f.getD x 0 < 0 → (relax E s f i).getD x 0 = f.getD x 0 ∨ (relax E s f i).getD x 0 = s + 1 := fun x hx h0 => by
    rcases a3 x hx h0 with h1 | h1
    · rcases b3 x hx (by omega) with h2 | h2
      · exact .inl (h2.trans h1)
      · exact .inr h2
    · exact .inr ((b2 x hx (by omega)).trans h1)
  have back : ∀ x, x < J → (relax E s f i).getD x 0 = s → f.getD x 0 = s := fun x hx h0 => by
    rcases Int.lt_or_le (f.getD x 0) 0 with h1 | h1
    · rcases neg x hx h1 with h2 | h2 <;> omega
    · rw [← keep x hx h1]; exact h0
  refine ⟨b1, keep, neg, fun h0 => ?_, fun h0 => ?_⟩
  · have h1 := a4 (back _ ha h0)
    have h2 := b2 _ hb h1
    show 0 ≤ (relax1 (relax1 f s (eA E i) (eB E i)) s (eB E i) (eA E i)).getD (eB E i) 0
    omega
  · have h1 := back _ hb h0
    have h2 : (relax1 f s (eA E i) (eB E i)).getD (eB E i) 0 = s := (a2 _ hb (by omega)).trans h1
    exact b4 h2
theorem level_inv (hr : ∀ i ∈ T, eA E i < J ∧ eB E i < J) : ∀ (R : List Nat), (∀ i ∈ R, i ∈ T) → ∀ f, FarInv E J T to s f →
    FarInv E J T to s (R.foldl (relax E s) f) ∧ (∀ x, x < J → 0 ≤ f.getD x 0 → (R.foldl (relax E s) f).getD x 0 = f.getD x 0) ∧ (∀ x, x < J → f.getD x 0 < 0 → (R.foldl (relax E s) f).getD x 0 = f.getD x 0 ∨ (R.foldl (relax E s) f).getD x 0 = s + 1) ∧
      ∀ i ∈ R, ((R.foldl (relax E s) f).getD (eA E i) 0 = s → 0 ≤ (R.foldl (relax E s) f).getD (eB E i) 0) ∧ ((R.foldl (relax E s) f).getD (eB E i) 0 = s → 0 ≤ (R.foldl (relax E s) f).getD (eA E i) 0)
  | [], _, f, h => ⟨h, fun x _ _ => rfl, fun x _ _ => .inl rfl, fun i hi => by simp at hi⟩
  | i :: t, hR, f, h => by
    have hi := hR i (List.mem_cons_self ..)
    obtain ⟨ha, hb⟩ := hr i hi
    obtain ⟨a1, a2, a3, a4, a5⟩ := relax_inv h hi ha hb
    obtain ⟨b1, b2, b3, b4⟩ := level_inv hr t (fun j hj => hR j (List.mem_cons_of_mem _ hj)) _ a1
    rw [List.foldl_cons]
    have keep : ∀ x, x < J → 0 ≤ f.getD x 0 → (t.foldl (relax E s) (relax E s f i)).getD x 0 = f.getD x 0 := fun x hx h0 => by
      have h1 := a2 x hx h0
      exact (b2 x hx (by omega)).trans h1
    have back : ∀ x, x < J → (t.foldl (relax E s) (relax E s f i)).getD x 0 = s → (relax E s f i).getD x 0 = s := fun x hx h0 => by
      rcases Int.lt_or_le ((relax E s f i).getD x 0) 0 with h1 | h1
      · rcases b3 x hx h1 with h2 | h2 <;> omega
      · rw [← b2 x hx h1]; exact h0
    refine ⟨b1, keep, fun x hx h0 => ?_, fun j hj => ?_⟩
    · rcases a3 x hx h0 with h1 | h1
      · rcases b3 x hx (by omega) with h2 | h2
        · exact .inl (h2.trans h1)
        · exact .inr h2
      · exact .inr ((b2 x hx (by omega)).trans h1)
    · rcases List.mem_cons.1 hj with rfl | hj
      · refine ⟨fun h0 => ?_, fun h0 => ?_⟩
        · have h1 := a4 (back _ ha h0)
          have h2 := b2 _ hb h1
          omega
        · have h1 := a5 (back _ hb h0)
          have h2 := b2 _ ha h1
          omega
      · exact b4 j hj
theorem level_next (hr : ∀ i ∈ T, eA E i < J ∧ eB E i < J) (h : FarInv E J T to s f) : FarInv E J T to (s + 1) (levelL E T f s) := by
  obtain ⟨b1, b2, b3, b4⟩ := level_inv hr T (fun _ hi => hi) f h
  refine ⟨b1.len, b1.lo, b1.right, fun u hu m hm hd => ?_, fun u hu => by have := b1.top u hu; unfold levelL; omega⟩
  rcases Nat.lt_or_ge s m with h1 | h1
  · obtain rfl : m = s + 1 := by omega
    obtain ⟨i, hi, v, hv, he⟩ := dist_pred hd
    obtain ⟨ha, hb⟩ := hr i hi
    have key : 0 ≤ (levelL E T f s).getD u 0 := by
      rcases he with ⟨rfl, rfl⟩ | ⟨rfl, rfl⟩
      · exact (b4 i hi).1 (b1.known _ ha s (Nat.le_refl _) hv)
      · exact (b4 i hi).2 (b1.known _ hb s (Nat.le_refl _) hv)
    have h2 := dist_unique (b1.right u hu key) hd
    unfold levelL at key ⊢
    omega
  · exact b1.known u hu m h1 hd
theorem far0_inv (hto : to < J) : FarInv E J T to 0 (far0 J to) := by
  have hg : ∀ u, u < J → (far0 J to).getD u 0 = if to = u then 0 else -1 := fun u hu => by
    unfold far0
    rw [getD_set (by simpa using hto), List.getD_eq_getElem?_getD, List.getElem?_replicate, if_pos hu]; rfl
  refine ⟨far0_len J to, fun u hu => ?_, fun u hu h0 => ?_, fun u hu m hm hd => ?_, fun u hu => ?_⟩
  · rw [hg u hu]; split <;> omega
  · rw [hg u hu] at h0 ⊢
    split at h0
    · rename_i he; rw [if_pos he]; exact dist_zero.2 he.symm
    · omega
  · obtain rfl : m = 0 := by omega
    rw [hg u hu, if_pos (dist_zero.1 hd).symm]; rfl
  · rw [hg u hu]; split <;> omega
theorem farTo_inv (hto : to < J) (hr : ∀ i ∈ T, eA E i < J ∧ eB E i < J) : ∀ k, FarInv E J T to k (farTo E J T to k)
  | 0 => far0_inv hto
  | k + 1 => by rw [farTo_succ]; exact level_next hr (farTo_inv hto hr k)
/-- What the levels find: the distances. -/
theorem far_char (hto : to < J) (hr : ∀ i ∈ T, eA E i < J ∧ eB E i < J) {u : Nat} (hu : u < J) :
    -1 ≤ (farL E J T to).getD u 0 ∧ (farL E J T to).getD u 0 ≤ J + 1 ∧ ∀ d : Nat, (farL E J T to).getD u 0 = d ↔ isDist E T to d u := by
  have h := farTo_inv (to := to) hto hr J
  refine ⟨h.lo u hu, h.top u hu, fun d => ⟨fun e => ?_, fun hd => ?_⟩⟩
  · have h1 := h.right u hu (by unfold farL at e; omega)
    unfold farL at e
    rw [e, Int.toNat_natCast] at h1
    exact h1
  · exact h.known u hu d (Nat.le_of_lt (dist_lt hto hr hd)) hd
end
/-- An airway that lowers the distance by one, seen from a junction. -/
def downB (E : Edges) (f : List Int) (at_ : Nat) (i : Nat) : Bool :=
  (eA E i == at_ && (f.getD (eB E i) 0 == f.getD at_ 0 - 1)) || (eB E i == at_ && (f.getD (eA E i) 0 == f.getD at_ 0 - 1))
/-- The number of an airway in a walk, and where it leads. -/
def stepN (E : Edges) (at_ i : Nat) : Int := if eA E i = at_ then (i : Int) + 1 else -(i : Int) - 1
def stepTo (E : Edges) (at_ i : Nat) : Nat := if eA E i = at_ then eB E i else eA E i
def walkL (E : Edges) (T : List Nat) (f : List Int) (to : Nat) : Nat → Nat → List Int
  | 0, _ => []
  | n + 1, at_ => if at_ = to then [] else match T.find? (downB E f at_) with
    | some i => stepN E at_ i :: walkL E T f to n (stepTo E at_ i)
    | none => []
/-- The way back from one junction to another. -/
def backL (E : Edges) (J : Nat) (T : List Nat) (fr to : Nat) : List Int := walkL E T (farL E J T to) to ((farL E J T to).getD fr 0).toNat fr
/-- The meshes among the first k airways. -/
def meshTo (E : Edges) (J : Nat) (T : List Nat) : Nat → List (List Int)
  | 0 => []
  | k + 1 => if k ∈ T then meshTo E J T k else meshTo E J T k ++ [((k : Int) + 1) :: backL E J T (eB E k) (eA E k)]
theorem meshTo_y {E : Edges} {J : Nat} {T : List Nat} {k : Nat} (h : k ∈ T) : meshTo E J T (k + 1) = meshTo E J T k := by simp only [meshTo]; rw [if_pos h]
theorem meshTo_n {E : Edges} {J : Nat} {T : List Nat} {k : Nat} (h : k ∉ T) : meshTo E J T (k + 1) = meshTo E J T k ++ [((k : Int) + 1) :: backL E J T (eB E k) (eA E k)] := by simp only [meshTo]; rw [if_neg h]
section
variable {E : Edges} {J : Nat} {T : List Nat} {to at_ i d : Nat}
theorem step_wlk (hi : i ∈ T) (hn : eA E i = at_ ∨ eB E i = at_) : (∀ n, Wlk E T to n at_ → Wlk E T to (n + 1) (stepTo E at_ i)) ∧ (∀ n, Wlk E T to n (stepTo E at_ i) → Wlk E T to (n + 1) at_) := by
  unfold stepTo
  by_cases h : eA E i = at_
  · rw [if_pos h]; subst h
    exact ⟨fun n hw => hw.fwd hi, fun n hw => hw.bwd hi⟩
  · rw [if_neg h]
    rcases hn with h1 | h1
    · exact absurd h1 h
    · subst h1
      exact ⟨fun n hw => hw.bwd hi, fun n hw => hw.fwd hi⟩
/-- The one that is found leads a step nearer. -/
theorem down_t (hto : to < J) (hr : ∀ i ∈ T, eA E i < J ∧ eB E i < J) (hat : at_ < J) (hd : isDist E T to (d + 1) at_) (hi : i ∈ T) (hb : downB E (farL E J T to) at_ i = true) :
    (eA E i = at_ ∨ eB E i = at_) ∧ stepTo E at_ i < J ∧ isDist E T to d (stepTo E at_ i) := by
  have hf := (((far_char hto hr hat).2.2 (d + 1)).2 hd)
  have ⟨ha, hbj⟩ := hr i hi
  unfold downB at hb
  simp only [Bool.or_eq_true, Bool.and_eq_true, beq_iff_eq] at hb
  have self : eA E i = at_ → (farL E J T to).getD (eA E i) 0 = (farL E J T to).getD at_ 0 := fun h => by rw [h]
  unfold stepTo
  rcases hb with ⟨h1, h2⟩ | ⟨h1, h2⟩
  · rw [if_pos h1]
    exact ⟨.inl h1, hbj, ((far_char hto hr hbj).2.2 d).1 (by rw [h2, hf]; omega)⟩
  · have hne : eA E i ≠ at_ := fun h => by have := self h; omega
    rw [if_neg hne]
    exact ⟨.inr h1, ha, ((far_char hto hr ha).2.2 d).1 (by rw [h2, hf]; omega)⟩
/-- There is one. -/
theorem down_ex (hto : to < J) (hr : ∀ i ∈ T, eA E i < J ∧ eB E i < J) (hat : at_ < J) (hd : isDist E T to (d + 1) at_) : ∃ i, i ∈ T ∧ downB E (farL E J T to) at_ i = true := by
  have hf := (((far_char hto hr hat).2.2 (d + 1)).2 hd)
  obtain ⟨i, hi, v, hv, he⟩ := dist_pred hd
  have ⟨ha, hb⟩ := hr i hi
  refine ⟨i, hi, ?_⟩
  unfold downB
  rcases he with ⟨rfl, rfl⟩ | ⟨rfl, rfl⟩
  · have h1 := ((far_char hto hr ha).2.2 d).2 hv
    rw [h1, hf]
    simp
  · have h1 := ((far_char hto hr hb).2.2 d).2 hv
    rw [h1, hf]
    simp
end
end Go.Proofs.YtjmhhbjbmgpagaaGreat

/- Contracts of the reference's parts and tree of a mine. -/
namespace Go.Proofs.YtjmhhbjbmgpagaaGreat
set_option linter.unusedVariables false
set_option linter.unusedSimpArgs false
open Go.RowKit
def edgesOf (xs : List Awy) : Edges := xs.map fun x => (x.a.toNat, x.b.toNat)
def nI (T : List Nat) : List Int := T.map fun i : Nat => (i : Int)
theorem edge_at {xs : List Awy} {i : Nat} {x : Awy} (h : xs[i]? = some x) : eA (edgesOf xs) i = x.a.toNat ∧ eB (edgesOf xs) i = x.b.toNat := by
  unfold eA eB edgesOf
  rw [List.getD_eq_getElem?_getD, List.getElem?_map, h]
  exact ⟨rfl, rfl⟩
/-- The ends of an airway of a valid mine. -/
theorem edge_ok {J : Int} {xs : List Awy} (hok : mineOk J xs = true) {i : Nat} {x : Awy} (h : xs[i]? = some x) :
    x.a = (eA (edgesOf xs) i : Nat) ∧ x.b = (eB (edgesOf xs) i : Nat) ∧ eA (edgesOf xs) i < J.toNat ∧ eB (edgesOf xs) i < J.toNat := by
  obtain ⟨_, _, h3⟩ := mineOk_t hok
  have h4 := h3 x (List.mem_of_getElem? h)
  obtain ⟨e1, e2⟩ := edge_at h
  rw [e1, e2]
  omega
theorem edge_lt {J : Int} {xs : List Awy} (hok : mineOk J xs = true) {i : Nat} (h : i < xs.length) : eA (edgesOf xs) i < J.toNat ∧ eB (edgesOf xs) i < J.toNat := by
  have := edge_ok hok (List.getElem?_eq_getElem h)
  exact this.2.2
theorem nI_len (T : List Nat) : (nI T).length = T.length := by simp [nI]
theorem nI_at {T : List Nat} {k : Nat} {t : Nat} (h : T[k]? = some t) : (nI T)[k]? = some (t : Int) := by unfold nI; rw [List.getElem?_map, h]; rfl
theorem nI_getD {p : List Nat} {k : Nat} (h : k < p.length) : (nI p)[k]? = some ((p.getD k 0 : Nat) : Int) := by
  rw [List.getD_eq_getElem?_getD, List.getElem?_eq_getElem h]; exact nI_at (List.getElem?_eq_getElem h)
theorem nI_snoc (T : List Nat) (k : Nat) : nI (T ++ [k]) = nI T ++ [(k : Int)] := by simp [nI]
theorem nI_mem {T : List Nat} {k : Nat} : (k : Int) ∈ nI T ↔ k ∈ T := by
  unfold nI
  rw [List.mem_map]
  constructor
  · rintro ⟨a, ha, e⟩
    obtain rfl : a = k := by omega
    exact ha
  · exact fun h => ⟨k, h, rfl⟩
/-- Labels x and y become one, in the first j places. -/
def mrgTo (p : List Nat) (x y j : Nat) : List Nat := mrg (p.take j) x y ++ p.drop j
theorem mrgTo_zero (p : List Nat) (x y : Nat) : mrgTo p x y 0 = p := by simp [mrgTo, mrg]
theorem mrgTo_all {p : List Nat} {n : Nat} (h : p.length = n) (x y : Nat) : mrgTo p x y n = mrg p x y := by
  unfold mrgTo; rw [List.take_of_length_le (by omega), List.drop_eq_nil_of_le (by omega), List.append_nil]
theorem mrgTo_len (p : List Nat) (x y j : Nat) : (mrgTo p x y j).length = p.length := by
  unfold mrgTo mrg; rw [List.length_append, List.length_map, List.length_take, List.length_drop]; omega
theorem mrgTo_at {p : List Nat} {x y j : Nat} (h : j < p.length) : (mrgTo p x y j)[j]? = some (p.getD j 0) := by
  unfold mrgTo mrg
  rw [List.getElem?_append_right (by rw [List.length_map, List.length_take]; omega), List.length_map, List.length_take, Nat.min_eq_left (by omega), Nat.sub_self, List.getElem?_drop, Nat.add_zero, List.getElem?_eq_getElem h,
    List.getD_eq_getElem?_getD, List.getElem?_eq_getElem h]; rfl
theorem mrgTo_succ {p : List Nat} {x y j : Nat} (h : j < p.length) : mrgTo p x y (j + 1) = (mrgTo p x y j).set j (if p.getD j 0 = max x y then min x y else p.getD j 0) := by
  have hd : p.drop j = p[j] :: p.drop (j + 1) := List.drop_eq_getElem_cons h
  have hg : p.getD j 0 = p[j] := by rw [List.getD_eq_getElem?_getD, List.getElem?_eq_getElem h]; rfl
  have hl : (mrg (p.take j) x y).length = j := by unfold mrg; rw [List.length_map, List.length_take]; omega
  unfold mrgTo
  rw [List.set_append_right _ _ (by rw [hl]; exact Nat.le_refl _), hl, Nat.sub_self, hd, List.set_cons_zero, hg, List.take_add_one, List.getElem?_eq_getElem h]
  unfold mrg
  rw [List.map_append, List.append_assoc]; rfl
theorem nI_set (p : List Nat) (j v : Nat) : nI (p.set j v) = (nI p).set j (v : Int) := by unfold nI; rw [List.map_set]
theorem mrgTo_y {p : List Nat} {x y j : Nat} (h : j < p.length) (e : p.getD j 0 = max x y) : nI (mrgTo p x y (j + 1)) = (nI (mrgTo p x y j)).set j ((min x y : Nat) : Int) := by
  rw [mrgTo_succ h, if_pos e, nI_set]
theorem mrgTo_n {p : List Nat} {x y j : Nat} (h : j < p.length) (e : ¬ p.getD j 0 = max x y) : mrgTo p x y (j + 1) = mrgTo p x y j := by
  rw [mrgTo_succ h, if_neg e]
  apply List.ext_getElem?
  intro l
  rw [List.getElem?_set]
  split
  · rename_i hl
    subst hl
    rw [if_pos (by rw [mrgTo_len]; exact h), mrgTo_at h]
  · rfl
theorem fold_snoc {α β : Type} {f : β → α → β} {b : β} {xs : List α} {k : Nat} {x : α} (h : xs[k]? = some x) : (xs.take (k + 1)).foldl f b = f ((xs.take k).foldl f b) x := by
  rw [take_snoc h, List.foldl_append]; rfl
theorem stepP_len (E : Edges) (p : List Nat) (i : Nat) : (stepP E p i).length = p.length := by unfold stepP mrg; rw [List.length_map]
theorem foldP_len (E : Edges) : ∀ (T : List Nat) (p : List Nat), (T.foldl (stepP E) p).length = p.length
  | [], p => rfl
  | i :: t, p => by rw [List.foldl_cons, foldP_len E t, stepP_len]
theorem stepP_lt {E : Edges} {J : Nat} {p : List Nat} {i : Nat} (hp : ∀ x ∈ p, x < J) (h0 : 0 < J) : ∀ x ∈ stepP E p i, x < J := by
  have hg : ∀ k, p.getD k 0 < J := fun k => by
    rw [List.getD_eq_getElem?_getD]
    cases e : p[k]? with
    | none => exact h0
    | some d => exact hp d (List.mem_of_getElem? e)
  intro x hx
  unfold stepP mrg at hx
  obtain ⟨l, hl, rfl⟩ := List.mem_map.1 hx
  have h1 := hg (eA E i)
  have h2 := hg (eB E i)
  have h3 := hp l hl
  split <;> omega
theorem foldP_lt {E : Edges} {J : Nat} (h0 : 0 < J) : ∀ (T : List Nat) (p : List Nat), (∀ x ∈ p, x < J) → ∀ x ∈ T.foldl (stepP E) p, x < J
  | [], p, h => h
  | i :: t, p, h => by rw [List.foldl_cons]; exact foldP_lt h0 t _ (stepP_lt h h0)
/-- Numbers of a row of the call's own, read. -/
theorem own_at {w : World} {base n c : Nat} {A : Option Addr} {p : List Nat} (h : w.ownsRow base 2 1 (.slice A n c) n (ints (nI p))) {k : Nat} (hk : k < n) :
    ∃ g, A = some ⟨g, 0, none⟩ ∧ base ≤ g ∧ g < w.heap.size ∧ w.cell? ⟨g, k, none⟩ = some (.int .i64 (p.getD k 0 : Nat)) ∧ w.frozen? ⟨g, k, none⟩ = false ∧
      ∀ v : Nat, (w.setCell ⟨g, k, none⟩ (.int .i64 v)).ownsRow base 2 1 (.slice A n c) n (ints ((nI p).set k (v : Int))) := by
  have hl : p.length = n := by have := h.1; simpa [ints, nI] using this
  obtain ⟨g, e1, e2, e3, e4, e5, e6⟩ := own_upd h hk 0
  refine ⟨g, e1, e2, e3, ?_, e5, fun v => ?_⟩
  · rw [e4, getD_at (nI_getD (by omega))]
  · obtain ⟨g', f1, f2, f3, f4, f5, f6⟩ := own_upd h hk (v : Int)
    rw [e1] at f1
    injection f1 with f1
    injection f1 with f1
    subst f1
    exact f6
theorem own_at' {w : World} {base n c g : Nat} {p : List Nat} (h : w.ownsRow base 2 1 (.slice (some ⟨g, 0, none⟩) n c) n (ints (nI p))) {k : Nat} (hk : k < n) :
    base ≤ g ∧ g < w.heap.size ∧ w.cell? ⟨g, k, none⟩ = some (.int .i64 (p.getD k 0 : Nat)) ∧ w.frozen? ⟨g, k, none⟩ = false ∧
      ∀ v : Nat, (w.setCell ⟨g, k, none⟩ (.int .i64 v)).ownsRow base 2 1 (.slice (some ⟨g, 0, none⟩) n c) n (ints ((nI p).set k (v : Int))) := by
  obtain ⟨g', e1, e2, e3, e4, e5, e6⟩ := own_at h hk
  injection e1 with e1
  injection e1 with e1
  subst e1
  exact ⟨e2, e3, e4, e5, e6⟩
set_option maxHeartbeats 6400000 in
set_option maxRecDepth 100000 in
theorem l04Parts_any (J : Int) (M : Option Addr) (m d : Nat) (xs : List Awy) (A : Option Addr) (n c : Nat) (T : List Nat) (p : Addr) (w : World) (hm : Reads w w.heap.size 7 M m (Awy.recs xs)) (hT : Reads w w.heap.size 1 A n (ints (nI T))) (hok : mineOk J xs = true) (hn : n ≤ 1000) (hTl : ∀ i ∈ T, i < xs.length)
    (hp0 : w.cell? p = some (.int .i64 J)) (hp1 : w.cell? ⟨p.block, p.off + 1, none⟩ = some (.slice M m d)) :
    Calls Tryz.prog 113 #[.pointer (some p), .slice A n c] w fun e w' => ∃ A' c', e = .returned (.slice A' J.toNat c') ∧ w'.ownsRow w.heap.size 2 1 (.slice A' J.toNat c') J.toNat (ints (nI (partsL (edgesOf xs) J.toNat T))) ∧ Below w.heap.size w w' := by
  obtain ⟨i0, hi0, hz0, hz1, hz2⟩ := info_parts info_Int64S
  obtain ⟨⟨j1, j2⟩, hx24, _⟩ := mineOk_t hok
  obtain ⟨jn, rfl⟩ : ∃ jn : Nat, J = jn := ⟨J.toNat, by omega⟩
  rw [Int.toNat_natCast]
  have HLm := Lib.hid (recs_rlen Awy.clen (by omega) hm)
  have HLT : Hid (T.length = n) := show _ = _ by have := ints_len hT; rw [nI_len] at this; exact this
  have HOK := Lib.hid hok
  have HTl := Lib.hid hTl
  have hpl := block_lt_of_cell hp0
  have hpl1 := block_lt_of_cell hp1
  clear hok hTl
  go_enter Tryz.func113, Tryz.ntmps113
  go_wp2
  go_loopw [5, 6] (fun o i wr => ∃ (k : Nat) (A' : Option Addr) (c' : Nat), k ≤ jn ∧ o = .slice A' k c' ∧ i = .int .i64 k ∧ wr.ownsRow w.heap.size 2 1 (.slice A' k c') k (ints (nI (List.range k))) ∧ Below w.heap.size w wr) (fun _ i _ => jn - (intOf i).toNat)
  case atStart => exact ⟨0, _, 0, by omega, rfl, rfl, own_empty _ _ _, by (repeat (first | exact Below.refl _ _ | assumption | (refine Below.alloc ?_ (by first | exact Nat.le_refl _ | (simp; done) | (simp; omega)) _) | (refine below_drewN ?_ _) | (refine Below.trans ?_ (Below.mono (by assumption) (by first | exact Nat.le_refl _ | (simp; done) | (simp; omega) | omega)))))⟩
  case round =>
    obtain ⟨k, A', c', hk, rfl, rfl, hown, hbr⟩ := hrel
    obtain ⟨w1, rfl⟩ : ∃ w1 : World, w1 = wr := ⟨_, rfl⟩
    have g0 : w1.cell? p = some (.int .i64 jn) := (hbr.cell hpl).trans hp0
    have g1 : w1.cell? ⟨p.block, p.off + 1, none⟩ = some (.slice M m d) := (hbr.cell (p := ⟨p.block, p.off + 1, none⟩) hpl1).trans hp1
    have hz := hbr.size
    by_cases hlt : k < jn
    · go_wp2_with (at_builtin; (refine wpList_app _ rfl _ _ 25 rfl w.heap.size 2 i0 _ 1 8 Tryz.underlying25 hi0 hz0 hz1 hz2 rfl (by omega) A' _ c' _ rfl ((hown).alloc _) ⟨_, 0, none⟩ 1 1 [.int .i64 (k : Int)] rfl rfl (cell_one_at (by simp) _ _) (by simp [Value.oneCell']) (by unfold maxLen; omega) (by omega) (by have hz := (hbr).size; simp at hz ⊢; omega) ?_); intro A1 c1 w2 ho2 hb2)
      go_roundw
      case rel => exact ⟨k + 1, A1, c1, by omega, by first | rfl | go_num, by go_num, by rw [List.range_succ, nI_snoc]; simpa [ints] using ho2, (hbr.alloc hbr.size _).trans hb2⟩
      case measure => simp [intOf]; omega
    · have e : k = jn := by omega
      subst e
      have hj0 : 0 < k := by omega
      obtain ⟨g, rfl, hg1, hg2, _, _, _⟩ := own_at hown hj0
      go_wp2
      go_loopw [7] (fun i wq => ∃ q : Nat, q ≤ n ∧ i = .int .i64 q ∧ wq.ownsRow w.heap.size 2 1 (.slice (some ⟨g, 0, none⟩) k c') k (ints (nI ((T.take q).foldl (stepP (edgesOf xs)) (List.range k)))) ∧ Below w.heap.size w wq) (fun i _ => n - (intOf i).toNat)
      case atStart => exact ⟨0, by omega, rfl, hown, hbr⟩
      case round =>
        obtain ⟨q, hq, rfl, hown2, hbq⟩ := hrel
        obtain ⟨wo, rfl⟩ : ∃ wo : World, wo = wr := ⟨_, rfl⟩
        clear hown g0 g1 hbr
        have g0 : wo.cell? p = some (.int .i64 k) := (hbq.cell hpl).trans hp0
        have g1 : wo.cell? ⟨p.block, p.off + 1, none⟩ = some (.slice M m d) := (hbq.cell (p := ⟨p.block, p.off + 1, none⟩) hpl1).trans hp1
        by_cases hqn : q < n
        · obtain ⟨t, htq⟩ : ∃ t, T[q]? = some t := ⟨_, List.getElem?_eq_getElem (by rw [HLT.out]; exact hqn)⟩
          have htl := HTl.out t (List.mem_of_getElem? htq)
          obtain ⟨td, rfl, htd, _, hct⟩ := (hT.below hbq).int_at (nI_at htq)
          obtain ⟨ad, x, rfl, had, hx, hc⟩ := (hm.below hbq).rec_at Awy.clen (by omega) (k := t) (by rw [← HLm.out]; exact htl)
          obtain ⟨ea, eb, ha, hb⟩ := edge_ok HOK.out hx
          obtain ⟨a0, a1, a2, a3, a4, a5, a6⟩ := Awy.open_ hc
          rw [Int.toNat_natCast] at ha hb
          have HF := Lib.hid (fold_snoc (f := stepP (edgesOf xs)) (b := List.range k) htq)
          have HPl := Lib.hid ((foldP_len (edgesOf xs) (T.take q) (List.range k)).trans List.length_range)
          rw [ea] at a1
          rw [eb] at a2
          have htm : t < m := by rw [← HLm.out]; exact htl
          generalize hP : (T.take q).foldl (stepP (edgesOf xs)) (List.range k) = P at *
          generalize hEA : eA (edgesOf xs) t = ua at *
          generalize hEB : eB (edgesOf xs) t = ub at *
          obtain ⟨_, _, ca, _, _⟩ := own_at' hown2 ha
          obtain ⟨_, _, cb, _, _⟩ := own_at' hown2 hb
          have HST : Hid (stepP (edgesOf xs) P t = mrg P (P.getD ua 0) (P.getD ub 0)) := show _ = _ by unfold stepP; rw [hEA, hEB]
          generalize hX : P.getD ua 0 = X at *
          generalize hY : P.getD ub 0 = Y at *
          have HMn : Hid (∀ q nn, Calls Tryz.prog 97 #[.int .i64 X, .int .i64 Y] (wo.drewN (q + nn)) fun e w'' => e = .returned (.int .i64 (min X Y : Nat)) ∧ ∃ mm, w'' = wo.drewN (q + mm)) := fun q nn => (l00Min_any X Y _).mono fun _ _ ⟨h, hw⟩ => ⟨by rw [h]; exact ret_int (by omega), nn, hw.symm⟩
          have HMx : Hid (∀ q nn, Calls Tryz.prog 91 #[.int .i64 X, .int .i64 Y] (wo.drewN (q + nn)) fun e w'' => e = .returned (.int .i64 (max X Y : Nat)) ∧ ∃ mm, w'' = wo.drewN (q + mm)) := fun q nn => (l00Max_any X Y _).mono fun _ _ ⟨h, hw⟩ => ⟨by rw [h]; exact ret_int (by omega), nn, hw.symm⟩
          have hqI : (q : Int) < (n : Int) := by omega
          have htI : (t : Int) < (m : Int) := by omega
          have haI : (ua : Int) < (k : Int) := by omega
          have hbI : (ub : Int) < (k : Int) := by omega
          have HO2 := Lib.hid hown2
          clear hx hc htq htl hP hEA hEB hX hY ea eb hown2
          go_wp2
          go_quiet (fail)
          go_wp2
          go_quiet ((go_at_call 97; exact HMn.out _ _))
          go_wp2
          go_quiet ((go_at_call 91; exact HMx.out _ _))
          go_wp2
          have hzq := hbq.size
          generalize hHI : max X Y = hi at *
          generalize hLO : min X Y = lo at *
          have HHL := Lib.hid (And.intro hHI hLO)
          clear hHI hLO HMn HMx
          go_loopw [11] (fun i wq => ∃ j : Nat, j ≤ k ∧ i = .int .i64 j ∧ wq.ownsRow w.heap.size 2 1 (.slice (some ⟨g, 0, none⟩) k c') k (ints (nI (mrgTo P X Y j))) ∧ Below w.heap.size w wq) (fun i _ => k - (intOf i).toNat)
          case atStart => exact ⟨0, by omega, rfl, by rw [mrgTo_zero]; exact HO2.out, below_drewN (below_drewN (below_drewN hbq _) _) _⟩
          case round =>
            obtain ⟨j, hjk, rfl, hown3, hbj⟩ := hrel
            obtain ⟨wi, rfl⟩ : ∃ wi : World, wi = wr := ⟨_, rfl⟩
            by_cases hjl : j < k
            · have hjI : (j : Int) < (k : Int) := by omega
              have hjP : j < P.length := by have := HPl.out; omega
              obtain ⟨h1, h2, cj, fj, hup⟩ := own_at' hown3 hjl
              have hgj : (mrgTo P X Y j).getD j 0 = P.getD j 0 := by rw [List.getD_eq_getElem?_getD, mrgTo_at hjP]; rfl
              rw [hgj] at cj
              generalize hpv : P.getD j 0 = pv at *
              have HPV := Lib.hid hpv
              have HUP := Lib.hid (hup lo)
              have HO3 := Lib.hid hown3
              clear hgj hpv hup hown3
              by_cases he : pv = hi
              · have he1 : ((pv : Int) == (hi : Int)) = true := by rw [he]; exact beq_self_eq_true _
                have he2 : (pv == hi) = true := by rw [he]; exact beq_self_eq_true _
                have HN := Lib.hid (mrgTo_y (x := X) (y := Y) hjP (by rw [HPV.out, HHL.out.1]; exact he))
                have HB3 := Lib.hid (hbj.setCell (p := ⟨g, j, none⟩) h1 (.int .i64 lo))
                clear he
                go_wp2
                go_roundw
                case rel => exact ⟨j + 1, by omega, by go_num, by rw [HN.out, HHL.out.2]; exact HUP.out, HB3.out⟩
                case measure => simp [intOf]; omega
              · have he1 : ((pv : Int) == (hi : Int)) = false := beq_eq_false_iff_ne.2 (by omega)
                have he2 : (pv == hi) = false := beq_eq_false_iff_ne.2 he
                have HN := Lib.hid (mrgTo_n (x := X) (y := Y) hjP (by rw [HPV.out, HHL.out.1]; exact he))
                clear he
                go_wp2
                go_roundw
                case rel => exact ⟨j + 1, by omega, by go_num, by rw [HN.out]; exact HO3.out, hbj⟩
                case measure => simp [intOf]; omega
            · have e : j = k := by omega
              have HFF : Hid ((T.take (q + 1)).foldl (stepP (edgesOf xs)) (List.range k) = mrgTo P X Y j) := show _ = _ by rw [HF.out, HST.out, e]; exact (mrgTo_all HPl.out X Y).symm
              have HO3 := Lib.hid hown3
              clear e hown3
              go_wp2
              go_roundw
              case rel => exact ⟨q + 1, by omega, by go_num, by rw [HFF.out]; exact HO3.out, hbj⟩
              case measure => simp [intOf]; omega
        · have e : q = n := by omega
          have HFF : Hid ((T.take q).foldl (stepP (edgesOf xs)) (List.range k) = partsL (edgesOf xs) k T) := show _ = _ by rw [List.take_of_length_le (by rw [HLT.out]; omega)]; rfl
          rw [HFF.out] at hown2
          clear e
          go_wp2
          go_ret
          exact ⟨_, c', rfl, hown2, hbq⟩
end Go.Proofs.YtjmhhbjbmgpagaaGreat

/- Contracts of the reference's tree of a mine. -/
namespace Go.Proofs.YtjmhhbjbmgpagaaGreat
set_option linter.unusedVariables false
set_option linter.unusedSimpArgs false
open Go.RowKit
theorem edge_ltT {J : Int} {xs : List Awy} (hok : mineOk J xs = true) {k : Nat} (hk : k ≤ xs.length) : ∀ i ∈ treeL (edgesOf xs) J.toNat k, i < xs.length := fun i hi => by
  have := treeL_lt (edgesOf xs) J.toNat k i hi; omega
theorem tree_succ_y {E : Edges} {J k : Nat} (h : (partsL E J (treeL E J k)).getD (eA E k) 0 = (partsL E J (treeL E J k)).getD (eB E k) 0) : treeL E J (k + 1) = treeL E J k := by
  simp only [treeL]; rw [if_pos h]
theorem tree_succ_n {E : Edges} {J k : Nat} (h : ¬ (partsL E J (treeL E J k)).getD (eA E k) 0 = (partsL E J (treeL E J k)).getD (eB E k) 0) : treeL E J (k + 1) = treeL E J k ++ [k] := by
  simp only [treeL]; rw [if_neg h]
theorem own_drew {w : World} {base e size n : Nat} {v : Value} {xs : List Value} (h : w.ownsRow base e size v n xs) (k : Nat) : (w.drewN k).ownsRow base e size v n xs := own_below h (below_drewN (Below.refl _ _) k)
set_option maxHeartbeats 3200000 in
set_option maxRecDepth 100000 in
theorem l04Tree_any (J : Int) (M : Option Addr) (m d : Nat) (xs : List Awy) (p : Addr) (w : World) (hm : Reads w w.heap.size 7 M m (Awy.recs xs)) (hok : mineOk J xs = true)
    (hp0 : w.cell? p = some (.int .i64 J)) (hp1 : w.cell? ⟨p.block, p.off + 1, none⟩ = some (.slice M m d)) :
    Calls Tryz.prog 88 #[.pointer (some p)] w fun e w' => ∃ A' c', e = .returned (.slice A' (treeL (edgesOf xs) J.toNat m).length c') ∧ w'.ownsRow w.heap.size 2 1 (.slice A' (treeL (edgesOf xs) J.toNat m).length c') (treeL (edgesOf xs) J.toNat m).length (ints (nI (treeL (edgesOf xs) J.toNat m))) ∧ Below w.heap.size w w' := by
  obtain ⟨i0, hi0, hz0, hz1, hz2⟩ := info_parts info_Int64S
  obtain ⟨⟨j1, j2⟩, hx24, _⟩ := mineOk_t hok
  obtain ⟨jn, rfl⟩ : ∃ jn : Nat, J = jn := ⟨J.toNat, by omega⟩
  have HLm := Lib.hid (recs_rlen Awy.clen (by omega) hm)
  have HOK := Lib.hid hok
  have hpl := block_lt_of_cell hp0
  have hpl1 := block_lt_of_cell hp1
  have hm24 : m ≤ 24 := by rw [← HLm.out]; exact hx24
  clear hok hx24
  generalize hE : edgesOf xs = E at *
  have HE := Lib.hid hE
  clear hE
  go_enter Tryz.func88, Tryz.ntmps88
  go_wp2
  go_loopw [3, 4] (fun o i wr => ∃ (k : Nat) (A' : Option Addr) (n' c' : Nat), k ≤ m ∧ n' = (treeL E jn k).length ∧ o = .slice A' n' c' ∧ i = .int .i64 k ∧ wr.ownsRow w.heap.size 2 1 (.slice A' n' c') n' (ints (nI (treeL E jn k))) ∧ Below w.heap.size w wr) (fun _ i _ => m - (intOf i).toNat)
  case atStart => exact ⟨0, _, 0, 0, by omega, rfl, rfl, rfl, own_empty _ _ _, by (repeat (first | exact Below.refl _ _ | assumption | (refine Below.alloc ?_ (by first | exact Nat.le_refl _ | (simp; done) | (simp; omega)) _) | (refine below_drewN ?_ _) | (refine Below.trans ?_ (Below.mono (by assumption) (by first | exact Nat.le_refl _ | (simp; done) | (simp; omega) | omega)))))⟩
  case round =>
    obtain ⟨k, A', n', c', hk, hn', rfl, rfl, hown, hbr⟩ := hrel
    obtain ⟨wo, rfl⟩ : ∃ wo : World, wo = wr := ⟨_, rfl⟩
    have g0 : wo.cell? p = some (.int .i64 jn) := (hbr.cell hpl).trans hp0
    have g1 : wo.cell? ⟨p.block, p.off + 1, none⟩ = some (.slice M m d) := (hbr.cell (p := ⟨p.block, p.off + 1, none⟩) hpl1).trans hp1
    have hzr := hbr.size
    have hnk : n' ≤ k := by rw [hn']; exact treeL_len E jn k
    have HNL := Lib.hid hn'
    clear hn'
    by_cases hlt : k < m
    · have co := l04Parts_any jn M m d xs A' n' c' (treeL E jn k) p wo ((hm.below hbr).more hzr) (Reads.of_own hown) HOK.out (by omega)
        (by have := edge_ltT HOK.out (k := k) (by rw [HLm.out]; omega); rw [HE.out, Int.toNat_natCast] at this; exact this) g0 g1
      rw [HE.out, Int.toNat_natCast] at co
      obtain ⟨ad, x, rfl, had, hx, hc⟩ := hm.rec_at Awy.clen (by omega) hlt
      obtain ⟨ea, eb, ha, hb⟩ := edge_ok HOK.out hx
      rw [HE.out, Int.toNat_natCast] at ha hb
      rw [HE.out] at ea eb
      have hkI : (k : Int) < (m : Int) := by omega
      clear hx
      go_wp2_with fail; ((with_reducible refine co.mono ?_); rintro e' w1 ⟨PA, pc, rfl, ho1, hb1⟩)
      have g2 : w1.cell? ⟨p.block, p.off + 1, none⟩ = some (.slice (some ad) m d) := (hb1.cell (p := ⟨p.block, p.off + 1, none⟩) (by show p.block < _; omega)).trans g1
      obtain ⟨a0, a1, a2, a3, a4, a5, a6⟩ := Awy.open_ hc
      have b1 := ((hbr.trans (hb1.mono hzr)).cell (block_lt_of_cell a1)).trans a1
      have b2 := ((hbr.trans (hb1.mono hzr)).cell (block_lt_of_cell a2)).trans a2
      rw [ea] at b1
      rw [eb] at b2
      clear a0 a1 a2 a3 a4 a5 a6 hc
      obtain ⟨g, rfl, hg1, hg2, ca, _, _⟩ := own_at ho1 ha
      obtain ⟨_, _, cb, _, _⟩ := own_at' ho1 hb
      have hoT := own_below hown hb1
      have HLA := Lib.hid (fun h => tree_succ_y (E := E) (J := jn) (k := k) h)
      have HLB := Lib.hid (fun h => tree_succ_n (E := E) (J := jn) (k := k) h)
      generalize hua : eA E k = ua at *
      generalize hub : eB E k = ub at *
      generalize hva : (partsL E jn (treeL E jn k)).getD ua 0 = va at *
      generalize hvb : (partsL E jn (treeL E jn k)).getD ub 0 = vb at *
      have HOT := Lib.hid hoT
      have hbB := hbr.trans (hb1.mono hzr)
      have haI : (ua : Int) < (jn : Int) := by omega
      have hbI : (ub : Int) < (jn : Int) := by omega
      clear hua hub hva hvb hown hoT co ea eb ho1
      by_cases he : va = vb
      · have HN := Lib.hid (HLA.out he)
        have he1 : ((va : Int) == (vb : Int)) = true := by rw [he]; exact beq_self_eq_true _
        clear HLA HLB he
        go_wp2
        go_quiet (fail)
        go_wp2
        go_roundw
        case rel => exact ⟨k + 1, A', n', c', by omega, by rw [HN.out]; exact HNL.out, rfl, by go_num, by rw [HN.out]; exact HOT.out, by (repeat (first | exact Below.refl _ _ | assumption | (refine Below.alloc ?_ (by first | exact Nat.le_refl _ | (simp; done) | (simp; omega)) _) | (refine below_drewN ?_ _) | (refine Below.trans ?_ (Below.mono (by assumption) (by first | exact Nat.le_refl _ | (simp; done) | (simp; omega) | omega)))))⟩
        case measure => simp [intOf]; omega
      · have HN := Lib.hid (HLB.out he)
        have he1 : ((va : Int) == (vb : Int)) = false := beq_eq_false_iff_ne.2 (by omega)
        clear HLA HLB he
        go_wp2
        go_quiet (fail)
        go_wp2_with (at_builtin; (refine wpList_app _ rfl _ _ 25 rfl w.heap.size 2 i0 _ 1 8 Tryz.underlying25 hi0 hz0 hz1 hz2 rfl (by omega) A' _ c' _ rfl (((own_drew HOT.out _)).alloc _) ⟨_, 0, none⟩ 1 1 [.int .i64 (k : Int)] rfl rfl (cell_one_at (by simp) _ _) (by simp [Value.oneCell']) (by unfold maxLen; omega) (by omega) (by have hz := (hbB).size; simp at hz ⊢; omega) ?_); intro A1 c1 w2 ho2 hb2)
        go_roundw
        case rel => exact ⟨k + 1, A1, n' + 1, c1, by omega, by rw [HN.out, List.length_append, ← HNL.out]; rfl, by first | rfl | go_num, by go_num, by rw [HN.out, nI_snoc]; simpa [ints] using ho2, ((below_drewN hbB _).alloc (by have := hbB.size; simp; omega) _).trans hb2⟩
        case measure => simp [intOf]; omega
    · have HKM : Hid (k = m) := show _ = _ by omega
      have HOW := Lib.hid hown
      clear hown
      go_wp2
      go_ret
      have hn' := HNL.out
      have hown := HOW.out
      rw [HKM.out] at hn' hown
      subst hn'
      exact ⟨A', c', by rw [Int.toNat_natCast]; rfl, by rw [Int.toNat_natCast]; exact hown, hbr⟩
end Go.Proofs.YtjmhhbjbmgpagaaGreat
