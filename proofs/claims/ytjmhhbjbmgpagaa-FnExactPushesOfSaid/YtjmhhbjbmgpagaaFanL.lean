/- Contracts of the test of fans and of the best fan, both sides. -/
import Derived.Test.YtjmhhbjbmgpagaaFans
import Derived.Test.YtjmhhbjbmgpagaaMine
import Derived.Test.YtjmhhbjbmgpagaaFan
import Derived.Test.YtjmhhbjbmgpagaaNb
namespace Go.Proofs.Ytjmhhbjbmgpagaa
set_option linter.unusedVariables false
set_option linter.unusedSimpArgs false
open Go.RowKit
abbrev FKey := ByteArray × Int × List (List Int)
def fkId (ks : List FKey) (k : Nat) : ByteArray := match ks[k]? with | some x => x.1 | none => ByteArray.empty
def fkAt (ks : List FKey) (k : Nat) : Bool :=
  match ks[k]? with
  | some x => fanOk x.1 x.2.1 x.2.2 && (decide (k = 0) || sLt (fkId ks (k - 1)) x.1)
  | none => false
def fansOk (ks : List FKey) : Bool := decide (ks.length ≤ 8) && allUpto ks.length (fkAt ks)
section
variable {ks : List FKey} {k j : Nat} {x y : FKey}
theorem fkId_eq (h : ks[k]? = some x) : fkId ks k = x.1 := by unfold fkId; rw [h]
theorem fk_eq (h : ks[k]? = some x) : fkAt ks k = (fanOk x.1 x.2.1 x.2.2 && (decide (k = 0) || sLt (fkId ks (k - 1)) x.1)) := by unfold fkAt; rw [h]
theorem fk_o (h : ks[k]? = some x) (h0 : fanOk x.1 x.2.1 x.2.2 = false) : fkAt ks k = false := by rw [fk_eq h, h0]; rfl
theorem fk_p (h : ks[k]? = some x) (hk : k = j + 1) (hy : ks[j]? = some y) (h0 : sLt y.1 x.1 = false) : fkAt ks k = false := by
  rw [fk_eq h, show k - 1 = j by omega, fkId_eq hy, h0, decide_eq_false (show ¬ k = 0 by omega)]; simp
theorem fk_z (h : ks[k]? = some x) (h0 : fanOk x.1 x.2.1 x.2.2 = true) (hk : k = 0) : fkAt ks k = true := by rw [fk_eq h, h0, decide_eq_true hk]; rfl
theorem fk_y (h : ks[k]? = some x) (h0 : fanOk x.1 x.2.1 x.2.2 = true) (hk : k = j + 1) (hy : ks[j]? = some y) (h2 : sLt y.1 x.1 = true) : fkAt ks k = true := by
  rw [fk_eq h, h0, show k - 1 = j by omega, fkId_eq hy, h2]; simp
theorem fansOk_l (h : 8 < ks.length) : fansOk ks = false := by unfold fansOk; rw [decide_eq_false (show ¬ ks.length ≤ 8 by omega)]; rfl
theorem fansOk_k (hk : k < ks.length) (h : fkAt ks k = false) : fansOk ks = false := by unfold fansOk; rw [allUpto_f hk h, Bool.and_false]
theorem fansOk_y (h1 : ∀ k, k < ks.length → fkAt ks k = true) : fansOk ks = decide (ks.length ≤ 8) := by unfold fansOk; rw [allUpto_t h1]; simp
theorem fansOk_t (h : fansOk ks = true) : ks.length ≤ 8 ∧ ∀ x ∈ ks, fanOk x.1 x.2.1 x.2.2 = true := by
  unfold fansOk at h
  simp only [Bool.and_eq_true, decide_eq_true_eq] at h
  refine ⟨h.1, fun x hx => ?_⟩
  obtain ⟨k, hk⟩ := List.getElem?_of_mem hx
  have hm := allUpto_get h.2 (len_of_at hk)
  rw [fk_eq hk] at hm
  simp only [Bool.and_eq_true] at hm
  exact hm.1
end
set_option maxHeartbeats 1600000 in
set_option maxRecDepth 100000 in
theorem l06List_any (A : Option Addr) (n c : Nat) (xs : List Fan) (w : World) (hr : FSS w w.heap.size A n xs) (hn : n ≤ 1048576) (hxs : ∀ x ∈ xs, x.ok) :
    Calls Try.prog 61 #[.slice A n c] w fun e w' => e = .returned (.bool (fansOk (fdat xs))) ∧ Below w.heap.size w w' := by
  have HM := Lib.hid hxs
  have HLn : Hid ((fdat xs).length = n) := show _ = _ by rw [fdat_len]; exact hr.len
  clear hxs
  go_enter Try.func61, Try.ntmps61
  go_wp2
  go_loopw [3] (fun i wr => ∃ (k : Nat), k ≤ n ∧ i = .int .i64 k ∧ Hid (∀ j, j < k → fkAt (fdat xs) j = true) ∧ Below w.heap.size w wr) (fun i _ => n - (intOf i).toNat)
  case atStart => exact ⟨0, by omega, rfl, fun j hj => absurd hj (Nat.not_lt_zero _), Below.refl _ _⟩
  case round =>
    obtain ⟨k, hk, rfl, HK, hbw⟩ := hrel
    by_cases hlt : k < n
    · obtain ⟨ad, x, rfl, had, hx, hc, hrx⟩ := (hr.below hbw).at_ hlt
      have HX := Lib.hid (fdat_at hx)
      have hm := HM.out x (List.mem_of_getElem? hx)
      have hlx : Hid (k < (fdat xs).length) := show k < _ by rw [HLn.out]; exact hlt
      have hltI : (k : Int) < (n : Int) := by omega
      obtain ⟨a0, a1, a2⟩ := Fan.open_ hc
      have HA0 : Hid (∀ (b : Bool) (p : Addr), p = ad.add (k * 3) → fanOk x.s x.a (dat x.rs) = b → ∀ t : NB wr, Calls Try.prog 115 #[.pointer (some p)] t.w fun e w' => e = .returned (.bool b) ∧ Below t.w.heap.size t.w w') :=
        fun b p hp hb t => hb ▸ l06Ok_any x.s x.a x.A x.n x.c x.rs p t.w hm.sm ((hrx.below (t.h.mono hbw.size)).more (Nat.le_trans hbw.size t.h.size)) hm.n hm.r (hp ▸ hc.below t.h (block_lt_of_cell a0))
      clear hm hrx
      rcases Bool.eq_false_or_eq_true (fanOk x.s x.a (dat x.rs)) with k0 | k0
      · rcases Nat.eq_zero_or_pos k with h0 | hpos
        · have HY := Lib.hid (fk_z HX.out k0 h0)
          subst h0
          have hcz : Cells wr ad x.cells := hc
          obtain ⟨b0, b1, b2⟩ := Fan.open_ hcz
          have HA := Lib.hid (HA0.out true ad rfl k0)
          clear hcz hc hx k0 HA0
          go_wp2
          have m3_0 := nb_cell b0 (block_lt_of_cell b0); (refine wp_region_nb (by kernel_rfl) (by kernel_rfl) ?_); (repeat (go_big_quiet_step (((go_at_call 115; exact nb_call (HA.out _)))))); (refine wpQuiet_nil ?_); intro w3 hw3; have hb3 := nb_out hw3; clear hw3 m3_0
          go_wp2
          go_roundw
          case rel => exact ⟨1, by omega, by go_num, upto_succ1 HK.out HY.out, hbw.trans (hb3.mono hbw.size)⟩
          case measure => simp [intOf]; omega
        · obtain ⟨j, hj⟩ : ∃ j, Hid (k = j + 1) := ⟨k - 1, show k = k - 1 + 1 by omega⟩
          have hjn : j < n := by have := hj.out; omega
          have hwj : IntKind.i64.wrap ((k : Int) - 1) = (j : Int) := by have := hj.out; rw [IntWalk.i64_in _ (by omega)]; omega
          have hk0 : decide ((0 : Int) < (k : Int)) = true := decide_eq_true (by omega)
          have hjI : (j : Int) < (n : Int) := by omega
          obtain ⟨ad', y, e1, had', hy, hcy, hry⟩ := (hr.below hbw).at_ hjn
          injection e1 with e1
          subst e1
          have HYy := Lib.hid (fdat_at hy)
          have b0 := hcy.z rfl
          have HA := Lib.hid (HA0.out true _ rfl k0)
          clear hy hcy hry hc hx HA0
          cases hl : Op.bytesLess y.s.toList x.s.toList
          · have HY := Lib.hid (fk_p HX.out hj.out HYy.out hl)
            clear k0
            go_wp2
            have m3_0 := nb_cell a0 (block_lt_of_cell a0); have m3_1 := nb_cell b0 (block_lt_of_cell b0); (refine wp_region_nb (by kernel_rfl) (by kernel_rfl) ?_); (repeat (go_big_quiet_step (((go_at_call 115; exact nb_call (HA.out _)))))); (refine wpQuiet_nil ?_); intro w3 hw3; have hb3 := nb_out hw3; clear hw3 m3_0 m3_1
            go_wp2
            go_ret
            exact ⟨ret_bool (fansOk_k hlx.out HY.out).symm, hbw.trans (hb3.mono hbw.size)⟩
          · have HY := Lib.hid (fk_y HX.out k0 hj.out HYy.out hl)
            clear k0
            go_wp2
            have m3_0 := nb_cell a0 (block_lt_of_cell a0); have m3_1 := nb_cell b0 (block_lt_of_cell b0); (refine wp_region_nb (by kernel_rfl) (by kernel_rfl) ?_); (repeat (go_big_quiet_step (((go_at_call 115; exact nb_call (HA.out _)))))); (refine wpQuiet_nil ?_); intro w3 hw3; have hb3 := nb_out hw3; clear hw3 m3_0 m3_1
            go_wp2
            go_roundw
            case rel => exact ⟨k + 1, by omega, by go_num, upto_succ1 HK.out HY.out, hbw.trans (hb3.mono hbw.size)⟩
            case measure => simp [intOf]; omega
      · have HA := Lib.hid (HA0.out false _ rfl k0)
        have HY := Lib.hid (fk_o HX.out k0)
        clear k0 hc hx HA0
        go_wp2
        have m3_0 := nb_cell a0 (block_lt_of_cell a0); (refine wp_region_nb (by kernel_rfl) (by kernel_rfl) ?_); (repeat (go_big_quiet_step (((go_at_call 115; exact nb_call (HA.out _)))))); (refine wpQuiet_nil ?_); intro w3 hw3; have hb3 := nb_out hw3; clear hw3 m3_0
        go_wp2
        go_ret
        exact ⟨ret_bool (fansOk_k hlx.out HY.out).symm, hbw.trans (hb3.mono hbw.size)⟩
    · have e : k = n := by omega
      have HV := Lib.hid (fansOk_y (by rw [HLn.out, ← e]; exact HK.out))
      clear e
      go_wp2
      go_ret
      exact ⟨ret_bool (by rw [HV.out, HLn.out]; exact Bool.eq_iff_iff.2 (by simp only [decide_eq_true_eq]; omega)), hbw⟩
set_option maxHeartbeats 1600000 in
set_option maxRecDepth 100000 in
theorem implValidFans_any (A : Option Addr) (n c : Nat) (xs : List Fan) (w : World) (hr : FSS w w.heap.size A n xs) (hn : n ≤ 1048576) (hxs : ∀ x ∈ xs, x.ok) :
    Calls Try.prog 66 #[.slice A n c] w fun e w' => e = .returned (.bool (fansOk (fdat xs))) ∧ Below w.heap.size w w' := by
  have HM := Lib.hid hxs
  have HLn : Hid ((fdat xs).length = n) := show _ = _ by rw [fdat_len]; exact hr.len
  clear hxs
  by_cases h8 : n ≤ 8
  · go_enter Try.func66, Try.ntmps66
    go_wp2
    go_loopw [10] (fun i wr => ∃ (k : Nat), k ≤ n ∧ i = .int .i64 k ∧ Hid (∀ j, j < k → fkAt (fdat xs) j = true) ∧ Below w.heap.size w wr) (fun i _ => n - (intOf i).toNat)
    case atStart => exact ⟨0, by omega, rfl, fun j hj => absurd hj (Nat.not_lt_zero _), Below.refl _ _⟩
    case round =>
      obtain ⟨k, hk, rfl, HK, hbw⟩ := hrel
      obtain ⟨wo, rfl⟩ : ∃ wo : World, wo = wr := ⟨_, rfl⟩
      by_cases hlt : k < n
      · obtain ⟨ad, x, rfl, had, hx, hc, hrx⟩ := (hr.below hbw).at_ hlt
        have HX := Lib.hid (fdat_at hx)
        have hm := HM.out x (List.mem_of_getElem? hx)
        have hlx : Hid (k < (fdat xs).length) := show k < _ by rw [HLn.out]; exact hlt
        have hltI : (k : Int) < (n : Int) := by omega
        obtain ⟨a0, a1, a2⟩ := Fan.open_ hc
        have hbo : Below wo.heap.size wo (wo.alloc (.cells #[.string x.s, .int .i64 x.a, .slice x.A x.n x.c] 85)) := (Below.refl _ _).alloc (Nat.le_refl _) _
        have f0 : (wo.alloc (.cells #[.string x.s, .int .i64 x.a, .slice x.A x.n x.c] 85)).cell? ⟨wo.heap.size, 0, none⟩ = some (.string x.s) := ((Blk.new wo _ _).cell 0).trans rfl
        have f1 : (wo.alloc (.cells #[.string x.s, .int .i64 x.a, .slice x.A x.n x.c] 85)).cell? ⟨wo.heap.size, 1, none⟩ = some (.int .i64 x.a) := ((Blk.new wo _ _).cell 1).trans rfl
        have f2 : (wo.alloc (.cells #[.string x.s, .int .i64 x.a, .slice x.A x.n x.c] 85)).cell? ⟨wo.heap.size, 2, none⟩ = some (.slice x.A x.n x.c) := ((Blk.new wo _ _).cell 2).trans rfl
        have HA0 : Hid (∀ (b : Bool), fanOk x.s x.a (dat x.rs) = b → ∀ t : NB (wo.alloc (.cells #[.string x.s, .int .i64 x.a, .slice x.A x.n x.c] 85)), Calls Try.prog 118 #[.agg #[.string x.s, .int .i64 x.a, .slice x.A x.n x.c]] t.w fun e w' => e = .returned (.bool b) ∧ Below t.w.heap.size t.w w') :=
          fun b hb t => hb ▸ implValidFan_any x.s x.a x.A x.n x.c x.rs t.w hm.sm (by
            have hbt := hbo.trans (t.h.mono hbo.size)
            exact (hrx.below (hbt.mono hbw.size)).more (Nat.le_trans hbw.size hbt.size)) hm.n hm.r
        clear hm hrx
        rcases Bool.eq_false_or_eq_true (fanOk x.s x.a (dat x.rs)) with k0 | k0
        · have HA := Lib.hid (HA0.out true k0)
          rcases Nat.eq_zero_or_pos k with h0 | hpos
          · have HY := Lib.hid (fk_z HX.out k0 h0)
            subst h0
            have hcz : Cells wo ad x.cells := hc
            obtain ⟨b0, b1, b2⟩ := Fan.open_ hcz
            clear hcz hc hx k0 HA0
            have HB := Lib.hid hbo
            clear hbo
            go_wp2
            have m3_0 := nb_cell f0 (block_lt_of_cell f0); have m3_1 := nb_cell f1 (block_lt_of_cell f1); have m3_2 := nb_cell f2 (block_lt_of_cell f2); (refine wp_region_nb (by kernel_rfl) (by kernel_rfl) ?_); (repeat (go_big_quiet_step (((go_at_call 118; exact nb_call (HA.out _)))))); (refine wpQuiet_nil ?_); intro w3 hw3; have hb3 := nb_out hw3; clear hw3 m3_0 m3_1 m3_2
            have hb4 := HB.out.trans (hb3.mono HB.out.size)
            go_wp2
            go_roundw
            case rel => exact ⟨1, by omega, by go_num, upto_succ1 HK.out HY.out, hbw.trans (hb4.mono hbw.size)⟩
            case measure => simp [intOf]; omega
          · obtain ⟨j, hj⟩ : ∃ j, Hid (k = j + 1) := ⟨k - 1, show k = k - 1 + 1 by omega⟩
            have hjn : j < n := by have := hj.out; omega
            have hwj : IntKind.i64.wrap ((k : Int) - 1) = (j : Int) := by have := hj.out; rw [IntWalk.i64_in _ (by omega)]; omega
            have hk0 : decide ((0 : Int) < (k : Int)) = true := decide_eq_true (by omega)
            have hjI : (j : Int) < (n : Int) := by omega
            obtain ⟨ad', y, e1, had', hy, hcy, hry⟩ := (hr.below hbw).at_ hjn
            injection e1 with e1
            subst e1
            have HYy := Lib.hid (fdat_at hy)
            have b0 := hcy.z rfl
            have f9 : (wo.alloc (.cells #[.string x.s, .int .i64 x.a, .slice x.A x.n x.c] 85)).cell? (ad.add (j * 3)) = some (.string y.s) := (World.cell?_alloc_lt _ _ _ (block_lt_of_cell b0)).trans b0
            have HB := Lib.hid hbo
            clear hy hcy hry hc hx HA0 hbo
            have hle := leq_lt y.s.toList x.s.toList
            cases hl : Op.bytesLess y.s.toList x.s.toList <;> rw [hl] at hle <;> cases q1 : Op.bytesLess x.s.toList y.s.toList <;> cases q2 : (x.s.toList == y.s.toList) <;> rw [q1, q2] at hle <;> first | (exact absurd hle (by decide)) | skip
            · have HY := Lib.hid (fk_p HX.out hj.out HYy.out hl)
              clear hle hl k0
              go_wp2
              have m3_0 := nb_cell f0 (block_lt_of_cell f0); have m3_1 := nb_cell f1 (block_lt_of_cell f1); have m3_2 := nb_cell f2 (block_lt_of_cell f2); have m3_3 := nb_cell f9 (block_lt_of_cell f9); (refine wp_region_nb (by kernel_rfl) (by kernel_rfl) ?_); (repeat (go_big_quiet_step (((go_at_call 118; exact nb_call (HA.out _)))))); (refine wpQuiet_nil ?_); intro w3 hw3; have hb3 := nb_out hw3; clear hw3 m3_0 m3_1 m3_2 m3_3
              have hb4 := HB.out.trans (hb3.mono HB.out.size)
              go_wp2
              go_ret
              exact ⟨ret_bool (fansOk_k hlx.out HY.out).symm, hbw.trans (hb4.mono hbw.size)⟩
            · have HY := Lib.hid (fk_p HX.out hj.out HYy.out hl)
              clear hle hl k0
              go_wp2
              have m3_0 := nb_cell f0 (block_lt_of_cell f0); have m3_1 := nb_cell f1 (block_lt_of_cell f1); have m3_2 := nb_cell f2 (block_lt_of_cell f2); have m3_3 := nb_cell f9 (block_lt_of_cell f9); (refine wp_region_nb (by kernel_rfl) (by kernel_rfl) ?_); (repeat (go_big_quiet_step (((go_at_call 118; exact nb_call (HA.out _)))))); (refine wpQuiet_nil ?_); intro w3 hw3; have hb3 := nb_out hw3; clear hw3 m3_0 m3_1 m3_2 m3_3
              have hb4 := HB.out.trans (hb3.mono HB.out.size)
              go_wp2
              go_ret
              exact ⟨ret_bool (fansOk_k hlx.out HY.out).symm, hbw.trans (hb4.mono hbw.size)⟩
            · have HY := Lib.hid (fk_p HX.out hj.out HYy.out hl)
              clear hle hl k0
              go_wp2
              have m3_0 := nb_cell f0 (block_lt_of_cell f0); have m3_1 := nb_cell f1 (block_lt_of_cell f1); have m3_2 := nb_cell f2 (block_lt_of_cell f2); have m3_3 := nb_cell f9 (block_lt_of_cell f9); (refine wp_region_nb (by kernel_rfl) (by kernel_rfl) ?_); (repeat (go_big_quiet_step (((go_at_call 118; exact nb_call (HA.out _)))))); (refine wpQuiet_nil ?_); intro w3 hw3; have hb3 := nb_out hw3; clear hw3 m3_0 m3_1 m3_2 m3_3
              have hb4 := HB.out.trans (hb3.mono HB.out.size)
              go_wp2
              go_ret
              exact ⟨ret_bool (fansOk_k hlx.out HY.out).symm, hbw.trans (hb4.mono hbw.size)⟩
            · have HY := Lib.hid (fk_y HX.out k0 hj.out HYy.out hl)
              clear hle hl k0
              go_wp2
              have m3_0 := nb_cell f0 (block_lt_of_cell f0); have m3_1 := nb_cell f1 (block_lt_of_cell f1); have m3_2 := nb_cell f2 (block_lt_of_cell f2); have m3_3 := nb_cell f9 (block_lt_of_cell f9); (refine wp_region_nb (by kernel_rfl) (by kernel_rfl) ?_); (repeat (go_big_quiet_step (((go_at_call 118; exact nb_call (HA.out _)))))); (refine wpQuiet_nil ?_); intro w3 hw3; have hb3 := nb_out hw3; clear hw3 m3_0 m3_1 m3_2 m3_3
              have hb4 := HB.out.trans (hb3.mono HB.out.size)
              go_wp2
              go_roundw
              case rel => exact ⟨k + 1, by omega, by go_num, upto_succ1 HK.out HY.out, hbw.trans (hb4.mono hbw.size)⟩
              case measure => simp [intOf]; omega
        · have HA := Lib.hid (HA0.out false k0)
          have HY := Lib.hid (fk_o HX.out k0)
          have HB := Lib.hid hbo
          clear k0 hc hx HA0 hbo
          go_wp2
          have m3_0 := nb_cell f0 (block_lt_of_cell f0); have m3_1 := nb_cell f1 (block_lt_of_cell f1); have m3_2 := nb_cell f2 (block_lt_of_cell f2); (refine wp_region_nb (by kernel_rfl) (by kernel_rfl) ?_); (repeat (go_big_quiet_step (((go_at_call 118; exact nb_call (HA.out _)))))); (refine wpQuiet_nil ?_); intro w3 hw3; have hb3 := nb_out hw3; clear hw3 m3_0 m3_1 m3_2
          have hb4 := HB.out.trans (hb3.mono HB.out.size)
          go_wp2
          go_ret
          exact ⟨ret_bool (fansOk_k hlx.out HY.out).symm, hbw.trans (hb4.mono hbw.size)⟩
      · have e : k = n := by omega
        have HV : Hid (fansOk (fdat xs) = true) := show _ = _ by rw [fansOk_y (by rw [HLn.out, ← e]; exact HK.out), HLn.out]; exact decide_eq_true h8
        clear e
        go_wp2
        go_ret
        exact ⟨ret_bool HV.out.symm, hbw⟩
  · have HV := Lib.hid (fansOk_l (ks := fdat xs) (by rw [HLn.out]; omega))
    go_enter Try.func66, Try.ntmps66
    go_wp2
    go_ret
    exact ⟨ret_bool HV.out.symm, Below.refl _ _⟩
end Go.Proofs.Ytjmhhbjbmgpagaa
