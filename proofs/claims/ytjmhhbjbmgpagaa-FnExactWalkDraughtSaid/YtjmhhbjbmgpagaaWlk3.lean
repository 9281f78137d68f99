/- Contracts of the ends of a walk's number, of the program's test of a walk, and of the draught along a walk. -/
import Derived.Test.YtjmhhbjbmgpagaaWlk2
import Derived.Test.YtjmhhbjbmgpagaaNb
namespace Go.Proofs.Ytjmhhbjbmgpagaa
set_option linter.unusedVariables false
set_option linter.unusedSimpArgs false
open Go.RowKit
set_option maxHeartbeats 800000 in
theorem ends_any (J : Int) (M : Option Addr) (m d : Nat) (xs : List Awy) (x : Int) (w : World) (hm0 : Reads w w.heap.size 7 M m (Awy.recs xs)) (hx : wkB xs.length x = true) (hmn : m ≤ 24) :
    Calls Try.prog 98 #[.agg #[.int .i64 J, .slice M m d], .int .i64 x] w fun e w' => e = .returned (.tuple #[.int .i64 (wkFrom xs x), .int .i64 (wkTo xs x)]) ∧ Below w.heap.size w w' := by
  have hb0 : Below w.heap.size w (w.alloc (.cells #[.int .i64 J, .slice M m d] 31)) := (Below.refl _ _).alloc (Nat.le_refl _) _
  have hm := hm0.below hb0
  have HLm := Lib.hid (recs_rlen Awy.clen (by omega) hm)
  obtain ⟨x0, x1, x2⟩ := wkB_t hx
  have hIl : wkI x < m := by have := wkI_lt hx; rw [HLm.out] at this; exact this
  have hl := HLm.out
  obtain ⟨ad, e, rfl, had, he, hce⟩ := hm.rec_at Awy.clen (by omega) hIl
  have HE := Lib.hid he
  obtain ⟨a0, a1, a2, a3, a4, a5, a6⟩ := Awy.open_ hce
  have hIlI : (wkI x : Int) < (m : Int) := by omega
  have cc := airwayOf_any x (w.alloc (.cells #[.int .i64 J, .slice (some ad) m d] 31)) x0 (by omega) (by omega)
  clear hx he hce hl
  by_cases hp : 0 < x
  · have HFr := Lib.hid (wkFrom_p HE.out hp)
    have HTo := Lib.hid (wkTo_p HE.out hp)
    rw [show wkS x = 1 from if_pos hp] at cc
    go_enter Try.func98, Try.ntmps98
    go_wp2_with fail; ((with_reducible refine cc.mono ?_); rintro e' w' ⟨rfl, rfl⟩)
    clear cc
    go_wp2
    go_quiet (fail)
    go_wp2
    go_ret2
    exact ⟨ret_int2 HFr.out.symm HTo.out.symm, below_drewN hb0 _⟩
  · have HFr := Lib.hid (wkFrom_n HE.out hp)
    have HTo := Lib.hid (wkTo_n HE.out hp)
    rw [show wkS x = -1 from if_neg hp] at cc
    go_enter Try.func98, Try.ntmps98
    go_wp2_with fail; ((with_reducible refine cc.mono ?_); rintro e' w' ⟨rfl, rfl⟩)
    clear cc
    go_wp2
    go_quiet (fail)
    go_wp2
    go_ret2
    exact ⟨ret_int2 HFr.out.symm HTo.out.symm, below_drewN hb0 _⟩
set_option maxHeartbeats 3200000 in
set_option maxRecDepth 100000 in
theorem isWalk_any (J : Int) (M : Option Addr) (m d : Nat) (xs : List Awy) (B : Option Addr) (n c : Nat) (ws : List Int) (w : World) (hm : Reads w w.heap.size 7 M m (Awy.recs xs)) (hw : Reads w w.heap.size 1 B n (ints ws)) (hmn : m ≤ 24) (hn : n ≤ 1048576) :
    Calls Try.prog 43 #[.agg #[.int .i64 J, .slice M m d], .slice B n c] w fun e w' => e = .returned (.bool (wkAll xs ws)) ∧ Below w.heap.size w w' := by
  have HLm := Lib.hid (recs_rlen Awy.clen (by omega) hm)
  have HLn := Lib.hid (ints_len hw)
  have hb0 : Below w.heap.size w (w.alloc (.cells #[.int .i64 J, .slice M m d] 31)) := (Below.refl _ _).alloc (Nat.le_refl _) _
  have HB0 := Lib.hid hb0
  have HBx := Lib.hid (Blk.new w 31 #[.int .i64 J, .slice M m d])
  have z0 : w.heap.size < (w.alloc (.cells #[.int .i64 J, .slice M m d] 31)).heap.size := by simp
  have hmI : -9223372036854775807 ≤ (m : Int) := by omega
  clear hb0
  go_enter Try.func43, Try.ntmps43
  go_wp2
  generalize hwb : w.alloc (.cells #[.int .i64 J, .slice M m d] 31) = wb at *
  have HWB := Lib.hid hwb
  clear hwb
  go_loopw [17] (fun i wr => ∃ (k : Nat), k ≤ n ∧ i = .int .i64 k ∧ Hid (∀ j, j < k → wkAt xs ws j = true) ∧ Below wb.heap.size wb wr) (fun i _ => n - (intOf i).toNat)
  case atStart => exact ⟨0, by omega, rfl, fun j hj => absurd hj (Nat.not_lt_zero _), Below.refl _ _⟩
  case round =>
    obtain ⟨k, hk, rfl, HK, hbr⟩ := hrel
    have g0 : wr.cell? ⟨w.heap.size, 0, none⟩ = some (.int .i64 J) := (hbr.cell (p := ⟨w.heap.size, 0, none⟩) z0).trans ((HBx.out.cell 0).trans rfl)
    have g1 : wr.cell? ⟨w.heap.size, 1, none⟩ = some (.slice M m d) := (hbr.cell (p := ⟨w.heap.size, 1, none⟩) z0).trans ((HBx.out.cell 1).trans rfl)
    have Bw := HB0.out.trans (hbr.mono HB0.out.size)
    by_cases hlt : k < n
    · obtain ⟨bd, u, rfl, hbd, hx, hc⟩ := (hw.below Bw).at_ hlt
      obtain ⟨x, hxk, rfl⟩ := ints_at hx
      have HX := Lib.hid hxk
      have hltI : (k : Int) < (n : Int) := by omega
      have HLk : Hid (k < ws.length) := show k < ws.length by rw [HLn.out]; exact hlt
      have hbz : Below w.heap.size w wr := Bw
      clear hx hxk
      by_cases h0 : x = 0
      · subst h0
        have HF := Lib.hid (wkAll_f HLk.out (wkAt_b (xs := xs) HX.out wkB_z))
        go_wp2
        go_ret
        exact ⟨ret_bool HF.out.symm, hbz⟩
      · have h0' : (x == 0) = false := beq_eq_false_iff_ne.2 h0
        rcases Bool.eq_false_or_eq_true (inB x (-(m : Int)) m) with hb | hb
        · have hwb : wkB xs.length x = true := by rw [HLm.out, wkB_in h0]; exact hb
          have HWx := Lib.hid hwb
          have hrd : ∀ W, Below w.heap.size w W → Reads W W.heap.size 7 M m (Awy.recs xs) := fun W hb => (hm.below hb).more hb.size
          rcases Nat.eq_zero_or_pos k with hz | hpos
          · have HY := Lib.hid (wkAt_z HX.out HWx.out hz)
            subst hz
            have hcz : wr.cell? bd = some (.int .i64 x) := hc
            clear hwb hrd
            go_wp2_with fail; ((with_reducible refine (within_any _ _ _ _).mono ?_); rintro e' w' ⟨rfl, rfl⟩)
            rw [hb]
            go_wp2
            go_roundw
            case rel => exact ⟨1, by omega, by go_num, upto_succ1 HK.out HY.out, hbr⟩
            case measure => simp [intOf]; omega
          · obtain ⟨y, hy⟩ : ∃ y, ws[k - 1]? = some y := ⟨_, List.getElem?_eq_getElem (by have := HLk.out; omega)⟩
            obtain ⟨j, hj⟩ : ∃ j, Hid (k = j + 1) := ⟨k - 1, show k = k - 1 + 1 by omega⟩
            have hjn : j < n := by have := hj.out; omega
            have hyj : ws[j]? = some y := by rw [← hy]; congr 1; have := hj.out; omega
            have hyb : wkB xs.length y = true := by
              have h1 := HK.out j (by have := hj.out; omega)
              unfold wkAt at h1
              rw [getD_at hyj, Bool.and_eq_true] at h1
              exact h1.1
            obtain ⟨bd', u', e1, hbd', hx', hc'⟩ := (hw.below Bw).at_ hjn
            obtain ⟨y', hy', rfl⟩ := ints_at hx'
            obtain rfl : y' = y := by rw [hyj] at hy'; exact (Option.some.inj hy').symm
            injection e1 with e1
            subst e1
            have hk0 : decide ((0 : Int) < (k : Int)) = true := decide_eq_true (by omega)
            have hwj : IntKind.i64.wrap ((k : Int) - 1) = (j : Int) := by have := hj.out; rw [IntWalk.i64_in _ (by omega)]; omega
            have hjI : (j : Int) < (n : Int) := by omega
            have HYP := Lib.hid (wkAt_p HX.out hwb hpos hy)
            have HA : Hid (∀ t : NB wr, Calls Try.prog 98 #[.agg #[.int .i64 J, .slice M m d], .int .i64 y'] t.w fun e w' => e = .returned (.tuple #[.int .i64 (wkFrom xs y'), .int .i64 (wkTo xs y')]) ∧ Below t.w.heap.size t.w w') :=
              fun t => ends_any J M m d xs y' t.w (hrd t.w (hbz.trans (t.h.mono hbz.size))) hyb hmn
            have HE : Hid (∀ W, Below wr.heap.size wr W → Calls Try.prog 98 #[.agg #[.int .i64 J, .slice M m d], .int .i64 x] W fun e w' => e = .returned (.tuple #[.int .i64 (wkFrom xs x), .int .i64 (wkTo xs x)]) ∧ Below W.heap.size W w') :=
              fun W hb => ends_any J M m d xs x W (hrd W (hbz.trans (hb.mono hbz.size))) hwb hmn
            have zr : w.heap.size < wr.heap.size := Nat.lt_of_lt_of_le z0 hbr.size
            clear hwb hrd hy hyj hyb hx' hy'
            go_wp2_with fail; ((with_reducible refine (within_any _ _ _ _).mono ?_); rintro e' w' ⟨rfl, rfl⟩)
            rw [hb]
            go_wp2
            have m3_0 := nb_cell g0 (block_lt_of_cell g0); have m3_1 := nb_cell g1 (block_lt_of_cell g1); have m3_2 := nb_cell hc' (block_lt_of_cell hc'); (refine wp_region_nb (by kernel_rfl) (by kernel_rfl) ?_); (repeat (go_big_quiet_step (((go_at_call 98; exact nb_call (HA.out _)))))); (refine wpQuiet_nil ?_); intro w3 hw3; have hb3 := nb_out hw3; clear hw3 m3_0 m3_1 m3_2
            have q0 := (hb3.cell (p := ⟨w.heap.size, 0, none⟩) zr).trans g0
            have q1 := (hb3.cell (p := ⟨w.heap.size, 1, none⟩) zr).trans g1
            go_wp2_with fail; ((with_reducible refine (HE.out _ hb3).mono ?_); rintro e' w4 ⟨rfl, hb4⟩)
            have B4 := hbr.trans ((hb3.trans (hb4.mono hb3.size)).mono hbr.size)
            cases hne : (wkFrom xs x == wkTo xs y')
            · have hne' : (wkFrom xs x != wkTo xs y') = true := by simp [bne, hne]
              have HF := Lib.hid (wkAll_f HLk.out (HYP.out.trans hne))
              clear hne
              go_wp2
              go_ret
              exact ⟨ret_bool HF.out.symm, HB0.out.trans (B4.mono HB0.out.size)⟩
            · have hne' : (wkFrom xs x != wkTo xs y') = false := by simp [bne, hne]
              have HY := Lib.hid (HYP.out.trans hne)
              clear hne
              go_wp2
              go_roundw
              case rel => exact ⟨k + 1, by omega, by go_num, upto_succ1 HK.out HY.out, B4⟩
              case measure => simp [intOf]; omega
        · have HF := Lib.hid (wkAll_f HLk.out (wkAt_b (xs := xs) HX.out (by rw [HLm.out, wkB_in h0]; exact hb)))
          go_wp2_with fail; ((with_reducible refine (within_any _ _ _ _).mono ?_); rintro e' w' ⟨rfl, rfl⟩)
          rw [hb]
          go_wp2
          go_ret
          exact ⟨ret_bool HF.out.symm, hbz⟩
    · have e : k = n := by omega
      have HV : Hid (wkAll xs ws = true) := show _ = _ by unfold wkAll; rw [HLn.out]; exact allUpto_t (by rw [← e]; exact HK.out)
      clear e
      go_wp2
      go_ret
      exact ⟨ret_bool HV.out.symm, Bw⟩
set_option maxHeartbeats 1600000 in
theorem specWalkDraught_any (J : Int) (M : Option Addr) (m d : Nat) (xs : List Awy) (A1 : Option Addr) (n1 c1 : Nat) (ls : List Int) (A2 : Option Addr) (n2 c2 : Nat) (ts : List Int) (A3 : Option Addr) (n3 c3 : Nat) (ws : List Int) (w : World) (hm : Reads w w.heap.size 7 M m (Awy.recs xs)) (hmn : m ≤ 1048576) (hxs : ∀ x ∈ xs, x.s.size ≤ maxLen) (hr1 : Reads w w.heap.size 1 A1 n1 (ints ls)) (hn1 : n1 ≤ 1048576) (hr2 : Reads w w.heap.size 1 A2 n2 (ints ts)) (hn2 : n2 ≤ 1048576) (hr3 : Reads w w.heap.size 1 A3 n3 (ints ws)) (hn3 : n3 ≤ 1048576) :
    Calls Try.prog 11 #[.agg #[.int .i64 J, .slice M m d], .slice A1 n1 c1, .slice A2 n2 c2, .slice A3 n3 c3] w fun e w' => e = .returned (.tuple #[.int .i64 (wdrR J xs ls ts ws).1, .int .i64 (wdrR J xs ls ts ws).2]) ∧ Below w.heap.size w w' := by
  have HLm := Lib.hid (recs_rlen Awy.clen (by omega) hm)
  have HLw := Lib.hid (ints_len hr3)
  have hb : Below w.heap.size w (w.alloc (.cells #[.int .i64 J, .slice M m d] 31)) := (Below.refl _ _).alloc (Nat.le_refl _) _
  have cc := l09Ask_any J M m d xs A1 n1 c1 ls A2 n2 c2 ts ⟨w.heap.size, 0, none⟩ _ ((hm.below hb).more hb.size) hmn hxs ((hr1.below hb).more hb.size) hn1 ((hr2.below hb).more hb.size) hn2 (Cells.new w _ _)
  clear hxs
  go_enter Try.func11, Try.ntmps11
  go_wp2_with fail; ((with_reducible refine (cc).mono ?_); rintro e w1 ⟨rfl, hb1⟩)
  have B1 : Below w.heap.size w w1 := hb.trans (hb1.mono (by simp))
  have g1 : w1.cell? ⟨w.heap.size, 1, none⟩ = some (.slice M m d) := (hb1.cell (p := ⟨w.heap.size, 1, none⟩) (by simp)).trans (by go_simp)
  clear cc hb hb1
  rcases askR_cases J xs ls ts with ⟨h0, k1, k2, k3⟩ | h7 | h1
  · have HV : Hid (wdrR J xs ls ts ws = if isWk xs ws = true then (alTo (drTo xs ls ts xs.length) ws ws.length, 0) else (0, 6)) := if_pos h0
    have HO := Lib.hid (mineOk_t k1)
    have hm24 : m ≤ 24 := by have := HO.out.2.1; rw [HLm.out] at this; exact this
    have cw := l09Walk_any M m d xs A3 n3 c3 ws ⟨w.heap.size, 0, none⟩ w1 ((hm.below B1).more B1.size) ((hr3.below B1).more B1.size) hm24 hn3 g1
    have HCD : Hid (∀ q, Calls Try.prog 40 #[.pointer (some ⟨w.heap.size, 0, none⟩), .slice A1 n1 c1, .slice A2 n2 c2] (w1.drewN q) fun e w' => ∃ A' c', e = .returned (.slice A' m c') ∧ w'.ownsRow (w1.drewN q).heap.size 2 1 (.slice A' m c') m (ints (drTo xs ls ts m)) ∧ m ≤ 24 ∧ Below (w1.drewN q).heap.size (w1.drewN q) w') :=
      fun q => l09Draughts_any J M m d xs A1 n1 c1 ls A2 n2 c2 ts ⟨w.heap.size, 0, none⟩ (w1.drewN q) ((hm.below (below_drewN B1 q)).more B1.size) ((hr1.below (below_drewN B1 q)).more B1.size) ((hr2.below (below_drewN B1 q)).more B1.size) g1 k1 k2 k3
    have HBD := Lib.hid (drTo_bnd k2 k3)
    rw [h0]
    clear h0 k1 k2 k3
    rcases Bool.eq_false_or_eq_true (isWk xs ws) with hw | hw
    · have HVV : Hid (wdrR J xs ls ts ws = (alTo (drTo xs ls ts m) ws n3, 0)) := show _ = _ by rw [HV.out, if_pos hw, HLm.out, HLw.out]
      have hwt := hw
      unfold isWk at hwt
      rw [Bool.and_eq_true] at hwt
      have h64 : n3 ≤ 64 := by have := of_decide_eq_true hwt.1; rw [HLw.out] at this; exact this
      have HWB := Lib.hid (wkAll_b hwt.2)
      rw [hw] at cw
      have HCW := Lib.hid cw
      clear hw hwt cw
      go_wp2_with fail; ((with_reducible refine HCW.out.mono ?_); rintro e w2 ⟨rfl, q, rfl⟩)
      go_wp2_with fail; ((with_reducible refine (HCD.out q).mono ?_); rintro e w3 ⟨A', c', rfl, hown, _, hb3⟩)
      have B3 : Below w.heap.size w w3 := (below_drewN B1 q).trans (hb3.mono B1.size)
      have ca := l09Along_any A' m c' (drTo xs ls ts m) A3 n3 c3 ws 100000000000000 w3 (Reads.of_own hown) ((hr3.below B3).more B3.size) (by omega) (by omega) (by omega) (by have h := HBD.out; rw [HLm.out] at h; exact h) (by have h := HWB.out; rw [HLm.out] at h; exact h) (by omega)
      have HCA := Lib.hid ca
      clear ca hown
      go_wp2_with fail; ((with_reducible refine HCA.out.mono ?_); rintro e w' ⟨rfl, rfl⟩)
      go_wp2
      go_ret2
      exact ⟨ret_int2 (by rw [HVV.out]) (by rw [HVV.out]), B3⟩
    · have HVV : Hid (wdrR J xs ls ts ws = (0, 6)) := show _ = _ by rw [HV.out, if_neg (by rw [hw]; exact Bool.false_ne_true)]
      rw [hw] at cw
      have HCW := Lib.hid cw
      clear hw cw
      go_wp2_with fail; ((with_reducible refine HCW.out.mono ?_); rintro e w2 ⟨rfl, q, rfl⟩)
      go_wp2
      go_ret2
      exact ⟨ret_int2 (by rw [HVV.out]) (by rw [HVV.out]), below_drewN B1 _⟩
  · have HV : Hid (wdrR J xs ls ts ws = (0, 7)) := show _ = _ by unfold wdrR; rw [if_neg (by rw [h7]; decide), h7]
    rw [h7]
    clear h7
    go_wp2
    go_ret2
    exact ⟨ret_int2 (by rw [HV.out]) (by rw [HV.out]), B1⟩
  · have HV : Hid (wdrR J xs ls ts ws = (0, 1)) := show _ = _ by unfold wdrR; rw [if_neg (by rw [h1]; decide), h1]
    rw [h1]
    clear h1
    go_wp2
    go_ret2
    exact ⟨ret_int2 (by rw [HV.out]) (by rw [HV.out]), B1⟩
set_option maxHeartbeats 1600000 in
theorem implWalkDraught_any (J : Int) (M : Option Addr) (m d : Nat) (xs : List Awy) (A1 : Option Addr) (n1 c1 : Nat) (ls : List Int) (A2 : Option Addr) (n2 c2 : Nat) (ts : List Int) (A3 : Option Addr) (n3 c3 : Nat) (ws : List Int) (w : World) (hm : Reads w w.heap.size 7 M m (Awy.recs xs)) (hmn : m ≤ 1048576) (hxs : ∀ x ∈ xs, x.s.size ≤ maxLen) (hr1 : Reads w w.heap.size 1 A1 n1 (ints ls)) (hn1 : n1 ≤ 1048576) (hr2 : Reads w w.heap.size 1 A2 n2 (ints ts)) (hn2 : n2 ≤ 1048576) (hr3 : Reads w w.heap.size 1 A3 n3 (ints ws)) (hn3 : n3 ≤ 1048576) :
    Calls Try.prog 14 #[.agg #[.int .i64 J, .slice M m d], .slice A1 n1 c1, .slice A2 n2 c2, .slice A3 n3 c3] w fun e w' => e = .returned (.tuple #[.int .i64 (wdrR J xs ls ts ws).1, .int .i64 (wdrR J xs ls ts ws).2]) ∧ Below w.heap.size w w' := by
  have HLm := Lib.hid (recs_rlen Awy.clen (by omega) hm)
  have HLw := Lib.hid (ints_len hr3)
  have hb : Below w.heap.size w (w.alloc (.cells #[.int .i64 J, .slice M m d] 31)) := (Below.refl _ _).alloc (Nat.le_refl _) _
  have cc := columnsCode_any J M m d xs A1 n1 c1 ls A2 n2 c2 ts 0 _ ((hm.below hb).more hb.size) hmn hxs ((hr1.below hb).more hb.size) hn1 ((hr2.below hb).more hb.size) hn2
  clear hxs
  go_enter Try.func14, Try.ntmps14
  go_wp2_with fail; ((with_reducible refine (cc).mono ?_); rintro e w1 ⟨rfl, hb1⟩)
  have B1 : Below w.heap.size w w1 := hb.trans (hb1.mono (by simp))
  have z1 : w.heap.size < w1.heap.size := by have h := hb1.size; simp at h; omega
  have g0 : w1.cell? ⟨w.heap.size, 0, none⟩ = some (.int .i64 J) := (hb1.cell (p := ⟨w.heap.size, 0, none⟩) (by simp)).trans (by go_simp)
  have g1 : w1.cell? ⟨w.heap.size, 1, none⟩ = some (.slice M m d) := (hb1.cell (p := ⟨w.heap.size, 1, none⟩) (by simp)).trans (by go_simp)
  clear cc hb hb1
  rcases askR_cases J xs ls ts with ⟨h0, k1, k2, k3⟩ | h7 | h1
  · have HV : Hid (wdrR J xs ls ts ws = if isWk xs ws = true then (alTo (drTo xs ls ts xs.length) ws ws.length, 0) else (0, 6)) := if_pos h0
    have HO := Lib.hid (mineOk_t k1)
    have hm24 : m ≤ 24 := by have := HO.out.2.1; rw [HLm.out] at this; exact this
    have HBD := Lib.hid (drTo_bnd k2 k3)
    rw [h0]
    clear h0
    by_cases h64 : n3 ≤ 64
    · have HI : Hid (isWk xs ws = wkAll xs ws) := show _ = _ by unfold isWk; rw [HLw.out, decide_eq_true h64, Bool.true_and]
      have cw := isWalk_any J M m d xs A3 n3 c3 ws w1 ((hm.below B1).more B1.size) ((hr3.below B1).more B1.size) hm24 hn3
      rcases Bool.eq_false_or_eq_true (wkAll xs ws) with hw | hw
      · have HVV : Hid (wdrR J xs ls ts ws = (alTo (drTo xs ls ts m) ws n3, 0)) := show _ = _ by rw [HV.out, HI.out, if_pos hw, HLm.out, HLw.out]
        have HWB := Lib.hid (wkAll_b hw)
        rw [hw] at cw
        have HCW := Lib.hid cw
        clear hw cw
        go_wp2_with fail; ((with_reducible refine HCW.out.mono ?_); rintro e w2 ⟨rfl, hb2⟩)
        have B2 := B1.trans (hb2.mono B1.size)
        have q0 := (hb2.cell (p := ⟨w.heap.size, 0, none⟩) z1).trans g0
        have q1 := (hb2.cell (p := ⟨w.heap.size, 1, none⟩) z1).trans g1
        have cd := draughts_any J M m d xs A1 n1 c1 ls A2 n2 c2 ts w2 ((hm.below B2).more B2.size) ((hr1.below B2).more B2.size) ((hr2.below B2).more B2.size) k1 k2 k3
        have HCD := Lib.hid cd
        clear cd k1 k2 k3 g0 g1
        go_wp2_with fail; ((with_reducible refine HCD.out.mono ?_); rintro e w3 ⟨A', c', rfl, hown, _, hb3⟩)
        have B3 : Below w.heap.size w w3 := B2.trans (hb3.mono B2.size)
        have ca := sumAlong_any A' m c' (drTo xs ls ts m) A3 n3 c3 ws 100000000000000 w3 (Reads.of_own hown) ((hr3.below B3).more B3.size) (by omega) (by omega) (by omega) (by have h := HBD.out; rw [HLm.out] at h; exact h) (by have h := HWB.out; rw [HLm.out] at h; exact h) (by omega)
        have HCA := Lib.hid ca
        clear ca hown
        go_wp2_with fail; ((with_reducible refine HCA.out.mono ?_); rintro e w' ⟨rfl, rfl⟩)
        go_wp2
        go_ret2
        exact ⟨ret_int2 (by rw [HVV.out]) (by rw [HVV.out]), B3⟩
      · have HVV : Hid (wdrR J xs ls ts ws = (0, 6)) := show _ = _ by rw [HV.out, HI.out, if_neg (by rw [hw]; exact Bool.false_ne_true)]
        rw [hw] at cw
        have HCW := Lib.hid cw
        clear hw cw k1 k2 k3
        go_wp2_with fail; ((with_reducible refine HCW.out.mono ?_); rintro e w2 ⟨rfl, hb2⟩)
        go_wp2
        go_ret2
        exact ⟨ret_int2 (by rw [HVV.out]) (by rw [HVV.out]), B1.trans (hb2.mono B1.size)⟩
    · have HVV : Hid (wdrR J xs ls ts ws = (0, 6)) := show _ = _ by rw [HV.out, if_neg (by unfold isWk; rw [HLw.out, decide_eq_false h64, Bool.false_and]; exact Bool.false_ne_true)]
      clear k1 k2 k3
      go_wp2
      go_ret2
      exact ⟨ret_int2 (by rw [HVV.out]) (by rw [HVV.out]), B1⟩
  · have HV : Hid (wdrR J xs ls ts ws = (0, 7)) := show _ = _ by unfold wdrR; rw [if_neg (by rw [h7]; decide), h7]
    rw [h7]
    clear h7
    go_wp2
    go_ret2
    exact ⟨ret_int2 (by rw [HV.out]) (by rw [HV.out]), B1⟩
  · have HV : Hid (wdrR J xs ls ts ws = (0, 1)) := show _ = _ by unfold wdrR; rw [if_neg (by rw [h1]; decide), h1]
    rw [h1]
    clear h1
    go_wp2
    go_ret2
    exact ⟨ret_int2 (by rw [HV.out]) (by rw [HV.out]), B1⟩
end Go.Proofs.Ytjmhhbjbmgpagaa
