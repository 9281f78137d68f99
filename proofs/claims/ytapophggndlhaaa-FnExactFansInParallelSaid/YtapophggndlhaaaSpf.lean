/- Contracts of a fan with another speed, both sides. -/
import Derived.Test.YtapophggndlhaaaSpd
namespace Go.Proofs.Ytapophggndlhaaa
set_option linter.unusedVariables false
set_option linter.unusedSimpArgs false
open Go.RowKit
/-- Cells that lay below when the rounds began lie still. -/
theorem held_far {w1 wo w6 : World} {p0 p1 p2 p3 : Addr} {v0 v1 v2 v3 : Value} (h6 : Below w1.heap.size w1 w6) (ho : Below w1.heap.size w1 wo) (l0 : p0.block < w1.heap.size) (l1 : p1.block < w1.heap.size ∧ p2.block < w1.heap.size ∧ p3.block < w1.heap.size)
    (h0 : wo.cell? p0 = some v0) (h1 : wo.cell? p1 = some v1) (h2 : wo.cell? p2 = some v2) (h3 : wo.cell? p3 = some v3) : w6.cell? p0 = some v0 ∧ w6.cell? p1 = some v1 ∧ w6.cell? p2 = some v2 ∧ w6.cell? p3 = some v3 := by
  have key : ∀ {p : Addr} {v : Value}, p.block < w1.heap.size → wo.cell? p = some v → w6.cell? p = some v := fun hp hv => (h6.cell hp).trans ((ho.cell hp).symm.trans hv)
  exact ⟨key l0 h0, key l1.1 h1, key l1.2.1 h2, key l1.2.2 h3⟩
set_option maxHeartbeats 3200000 in
set_option maxRecDepth 100000 in
theorem specSpeedFan_any (s : ByteArray) (a : Int) (A : Option Addr) (n c : Nat) (rs : List Row) (num den : Int) (w : World) (hs : s.size ≤ maxLen) (hr : RSS w w.heap.size A n rs) (hn : n ≤ 1048576) (hrn : ∀ r ∈ rs, r.n ≤ 1048576) :
    Calls Try.prog 12 #[.agg #[.string s, .int .i64 a, .slice A n c], .int .i64 num, .int .i64 den] w
      (fanRet w (okS (spCode s a (dat rs) num den) s) (okA (spCode s a (dat rs) num den) a) (okC (spCode s a (dat rs) num den) (spC (dat rs) num den)) (spCode s a (dat rs) num den)) := by
  obtain ⟨i0, hi0, hz0, hz1, hz2⟩ := info_parts info_Int64SS
  have HLn : Hid ((dat rs).length = n) := show (dat rs).length = n by rw [dat_len]; exact hr.len
  have hb0 : Below w.heap.size w ((w.alloc (.cells #[.string s, .int .i64 a, .slice A n c] 26)).alloc (.cells #[.string { data := #[] }, .int .i64 0, .slice none 0 0] 26)) := ((Below.refl _ _).alloc (Nat.le_refl _) _).alloc (by simp) _
  have hr1 := (hr.below hb0).more hb0.size
  have K0 := (Blk.new w 26 #[.string s, .int .i64 a, .slice A n c]).alloc (.cells #[.string { data := #[] }, .int .i64 0, .slice none 0 0] 26)
  have K1 : Blk ((w.alloc (.cells #[.string s, .int .i64 a, .slice A n c] 26)).alloc (.cells #[.string { data := #[] }, .int .i64 0, .slice none 0 0] 26)) (w.heap.size + 1) 26 #[.string { data := #[] }, .int .i64 0, .slice none 0 0] := by
    have h := Blk.new (w.alloc (.cells #[.string s, .int .i64 a, .slice A n c] 26)) 26 #[.string { data := #[] }, .int .i64 0, .slice none 0 0]
    rwa [show (w.alloc (.cells #[.string s, .int .i64 a, .slice A n c] 26)).heap.size = w.heap.size + 1 by simp] at h
  have cc := l06Ok_any s a A n c rs ⟨w.heap.size, 0, none⟩ _ hs hr1 hn hrn ((Cells.new w #[.string s, .int .i64 a, .slice A n c] 26).below ((Below.refl _ _).alloc (Nat.le_refl _) _) (by simp))
  have HK0 := Lib.hid K0
  have HK1 := Lib.hid K1
  clear hrn K0 K1
  rcases Bool.eq_false_or_eq_true (fanOk s a (dat rs)) with k0 | k0
  · rw [k0] at cc
    have HC := Lib.hid cc
    have HOK := Lib.hid (fanOk_t k0).2.2
    have HO0 := Lib.hid k0
    have n8 : n ≤ 8 := by have h := (crvOk_t HOK.out).2.1; have h2 := HLn.out; omega
    clear cc k0
    rcases Bool.eq_false_or_eq_true (inB num 1 100) with k1 | k1
    · rcases Bool.eq_false_or_eq_true (inB den 1 100) with k2 | k2
      · have HV : Hid (spCode s a (dat rs) num den = if fanOk s a (spC (dat rs) num den) = true then 0 else 6) := show _ = _ by unfold spCode; rw [if_pos HO0.out, if_pos ⟨k1, k2⟩]
        obtain ⟨u1, u2⟩ := inB_t k1
        obtain ⟨v1, v2⟩ := inB_t k2
        go_enter Try.func12, Try.ntmps12
        go_wp2_with fail; ((with_reducible refine HC.out.mono ?_); rintro e w1 ⟨rfl, hb1⟩)
        have B1 : Below w.heap.size w w1 := hb0.trans (hb1.mono hb0.size)
        have z1 : w.heap.size + 2 ≤ w1.heap.size := by have h := hb1.size; simp at h; omega
        have L0 := Lib.hid (HK0.out.below hb1 (by simp; omega))
        have L1 := Lib.hid (HK1.out.below hb1 (by simp))
        clear hb1
        go_wp2_with fail; ((with_reducible refine (l00In_any num _ _ _).mono ?_); rintro e w' ⟨rfl, rfl⟩)
        go_wp2_with fail; ((with_reducible refine (l00In_any den _ _ _).mono ?_); rintro e w' ⟨rfl, rfl⟩)
        rw [k2]
        clear k1 k2
        go_wp2
        go_loopw [8, 9] (fun o i wr => ∃ (k : Nat) (A' : Option Addr) (c' : Nat) (rs' : List Row), k ≤ n ∧ o = .slice A' k c' ∧ i = .int .i64 k ∧ Hid (Made wr w1.heap.size A' k c' (spTo (dat rs) num den k) rs') ∧ Below w1.heap.size w1 wr) (fun _ i _ => n - (intOf i).toNat)
        case atStart => exact ⟨0, _, 0, [], by omega, rfl, rfl, ⟨⟨own_empty _ _ _, fun r h => by simp at h, List.Pairwise.nil⟩, rfl, fun r h => by simp at h⟩, (Below.refl _ _).alloc (Nat.le_refl _) _⟩
        case round =>
          obtain ⟨k, A', c', rs', hk, rfl, rfl, HM, hbr⟩ := hrel
          obtain ⟨wo, rfl⟩ : ∃ wo : World, wo = wr := ⟨_, rfl⟩
          have M0 := Lib.hid (L0.out.below hbr (by omega))
          have M1 := Lib.hid (L1.out.below hbr (by omega))
          have Bo := B1.trans (hbr.mono B1.size)
          have g2 : wo.cell? ⟨w.heap.size, 2, none⟩ = some (.slice A n c) := (M0.out.cell 2).trans rfl
          by_cases hlt : k < n
          · obtain ⟨ad, ra, cc0, rfl, e0, e1, e2, e3⟩ := pt_at hr HOK.out hlt
            have l0 := block_lt_of_cell e0
            have l1 := block_lt_of_cell e1
            have l3 := block_lt_of_cell e3
            have f0 := (Bo.cell l0).trans e0
            have f1 := (Bo.cell l1).trans e1
            have f3 := (Bo.cell l3).trans e3
            have HF : Hid ((ad.add k).block < w1.heap.size ∧ ra.block < w1.heap.size ∧ (⟨ra.block, ra.off + 1, none⟩ : Addr).block < w1.heap.size) := by
              have h1 := B1.size
              exact ⟨by omega, by omega, Nat.lt_of_lt_of_le l3 h1⟩
            clear e0 e1 e2 e3 l0 l1 l3
            have hltI : (k : Int) < (n : Int) := by omega
            have hnum := crv_num HOK.out (k := k) (by rw [HLn.out]; exact hlt)
            obtain ⟨⟨p1, p2⟩, ⟨p3, p4⟩, ⟨p5, p6⟩, p7, p8⟩ := sp_nums hnum.1 hnum.2 ⟨u1, u2⟩ ⟨v1, v2⟩
            have hw1 : IntKind.i64.wrap (lockA (dat rs) k * num) = lockA (dat rs) k * num := IntWalk.i64_in _ (by omega)
            have hw2 : IntKind.i64.wrap (lockB (dat rs) k * num) = lockB (dat rs) k * num := IntWalk.i64_in _ (by omega)
            have hw3 : IntKind.i64.wrap (lockB (dat rs) k * num * num) = lockB (dat rs) k * num * num := IntWalk.i64_in _ (by omega)
            have hw4 : IntKind.i64.wrap (den * den) = den * den := IntWalk.i64_in _ (by omega)
            have hd0 : den ≠ 0 := by omega
            have hd1 : den * den ≠ 0 := by omega
            obtain ⟨t1, t2⟩ := tdiv_in p1 (show 0 < den by omega) p2 (by omega)
            obtain ⟨t3, t4⟩ := tdiv_in p5 (show 0 < den * den by omega) p6 (by omega)
            clear hnum p1 p2 p3 p4 p5 p6 p7 p8 u1 u2 v1 v2
            go_wp2
            have hsz := hbr.size
            have HWB : Hid (Below w1.heap.size w1 ((wo.drew.alloc (.cells #[.int .i64 (lockA (dat rs) k * num / den), .int .i64 (lockB (dat rs) k * num * num / (den * den))] 2)).alloc (.cells #[.slice (some ⟨wo.heap.size, 0, none⟩) 2 2] 53))) :=
              ((below_drew hbr).alloc (by show _ ≤ wo.heap.size; omega) _).alloc (by simp; omega) _
            have HWO : Hid (((wo.drew.alloc (.cells #[.int .i64 (lockA (dat rs) k * num / den), .int .i64 (lockB (dat rs) k * num * num / (den * den))] 2)).alloc (.cells #[.slice (some ⟨wo.heap.size, 0, none⟩) 2 2] 53)).ownsRow w1.heap.size 53 1 (.slice A' k c') k (rowsV rs')) :=
              (HM.out.oss.out.drew.alloc _).alloc _
            have HN := Lib.hid (news_row wo (.int .i64 (lockA (dat rs) k * num / den)) (.int .i64 (lockB (dat rs) k * num * num / (den * den))))
            have HG : Hid (∀ {w6 : World}, ((wo.drew.alloc (.cells #[.int .i64 (lockA (dat rs) k * num / den), .int .i64 (lockB (dat rs) k * num * num / (den * den))] 2)).alloc (.cells #[.slice (some ⟨wo.heap.size, 0, none⟩) 2 2] 53)).grownBy w6 (Value.ownBlock (.slice A' k c')) → Below w1.heap.size w1 w6) := fun hgrow =>
              HWB.out.grown hgrow (by simp; omega) fun q hq => (HWO.out.lt q hq).1
            have q2 := Lib.hid ((L0.out.cell 2).trans rfl : w1.cell? ⟨w.heap.size, 2, none⟩ = some (.slice (some ad) n c))
            go_region_held3 (fun w' => w'.cell? ⟨w.heap.size, 2, none⟩ = some (.slice (some ad) n c) ∧ w'.cell? (ad.add k) = some (.slice (some ra) 2 cc0) ∧ w'.cell? ra = some (.int .i64 (lockA (dat rs) k)) ∧ w'.cell? ⟨ra.block, ra.off + 1, none⟩ = some (.int .i64 (lockB (dat rs) k)))
              (first | go_keep | (exact (held_far (HG.out hgrow) hbr (show w.heap.size < w1.heap.size by omega) HF.out g2 f0 f1 f3)))
              ((refine step_append_lies _ (by rfl) _ _ _ (by rfl) w1.heap.size 53 i0 _ 1 24 Try.underlying22 hi0 hz0 hz1 hz2 rfl (by omega) (.slice A' k c') k (rowsV rs') (by rfl) HWO.out ⟨wo.heap.size + 1, 0, none⟩ 1 1 [.slice (some ⟨wo.heap.size, 0, none⟩) 2 2] (by rfl) (by rfl) HN.out (by simp [Value.oneCell']) (by omega) (by unfold maxLen; omega) (by omega) (by simp; omega) (wo.heap.size + 2) (by simp) ?_; intro gg cap w6 ho6 hgrow hat hlt6))
            have HM6 := Lib.hid (HM.out.app (w := wo) (lockA (dat rs) k * num / den) (lockB (dat rs) k * num * num / (den * den)) (Nat.le_trans (Nat.le_refl _) hsz) ho6 ⟨hgrow.os, hgrow.tape, hgrow.output, hgrow.size, hgrow.block⟩)
            have B6 := Lib.hid (HG.out hgrow)
            clear ho6 hgrow hat
            go_wp2
            go_roundw
            case rel => exact ⟨k + 1, _, _, _, by omega, by first | rfl | go_num, by go_num, by rw [spTo_succ]; exact HM6.out, B6.out⟩
            case measure => simp [intOf]; omega
          · have e : k = n := by omega
            subst e
            have hD : spTo (dat rs) num den k = spC (dat rs) num den := by unfold spC; rw [HLn.out]
            have hz6 := hbr.size
            have HX := Lib.hid HM.out.oss.reads
            have HMd := Lib.hid (HM.out.dat.trans hD)
            have g0 : wo.cell? ⟨w.heap.size, 0, none⟩ = some (.string s) := (M0.out.cell 0).trans rfl
            have g1 : wo.cell? ⟨w.heap.size, 1, none⟩ = some (.int .i64 a) := (M0.out.cell 1).trans rfl
            have HTW := Lib.hid HM.out.two
            rcases Bool.eq_false_or_eq_true (fanOk s a (spC (dat rs) num den)) with k3 | k3
            · have hc : spCode s a (dat rs) num den = 0 := by rw [HV.out, if_pos k3]
              have HCC := Lib.hid hc
              have cd := l06Done_ok s a A' k c' rs' ⟨w.heap.size, 0, none⟩ wo hs HX.out (by omega) (fun r hr => by rw [HTW.out r hr]; omega) g0 g1 (by rw [HMd.out]; exact k3)
              have HCD := Lib.hid cd
              clear cd hc k3 hD
              go_wp2_with fail; ((with_reducible refine HCD.out.mono ?_); rintro e w7 ⟨rfl, hb7⟩)
              have P1 := M1.out.below hb7 (by omega)
              have e0 := P1.cell 0
              have e1 := P1.cell 1
              have e2 := P1.cell 2
              have r0 := P1.frozen 0
              have r1 := P1.frozen 1
              have r2 := P1.frozen 2
              have B7 : Below w.heap.size w w7 := Bo.trans (hb7.mono Bo.size)
              go_wp2
              refine bodyPost_ret (v := .tuple #[.agg #[.string s, .int .i64 a, .slice A' k c'], .int .i64 0]) (by simp [results, Try.results12, go_sem, e0, e1, e2]) rfl ?_
              rw [HCC.out]
              show fanRet w s a (spC (dat rs) num den) 0 _ _
              exact fanRet_put _ _ _ ((HM.out.below hb7).cast (by unfold spC; rw [HLn.out])) (by omega) B7 (by omega) (by omega) B1.size
            · have hc : spCode s a (dat rs) num den = 6 := by rw [HV.out, if_neg (by rw [k3]; exact Bool.false_ne_true)]
              have HCC := Lib.hid hc
              have cd := l06Done_bad s a A' k c' rs' ⟨w.heap.size, 0, none⟩ wo hs HX.out (by omega) (fun r hr => by rw [HTW.out r hr]; omega) g0 g1 (by omega) (by rw [HMd.out]; exact k3)
              have HCD := Lib.hid cd
              clear cd hc k3 hD
              go_wp2_with fail; ((with_reducible refine HCD.out.mono ?_); rintro e w7 ⟨rfl, hb7⟩)
              have P1 := M1.out.below hb7 (by omega)
              have e0 := P1.cell 0
              have e1 := P1.cell 1
              have e2 := P1.cell 2
              have r0 := P1.frozen 0
              have r1 := P1.frozen 1
              have r2 := P1.frozen 2
              have B7 : Below w.heap.size w w7 := Bo.trans (hb7.mono Bo.size)
              go_wp2
              refine bodyPost_ret (v := .tuple #[.agg #[.string ByteArray.empty, .int .i64 0, .slice none 0 0], .int .i64 6]) (by simp [results, Try.results12, go_sem, e0, e1, e2] <;> rfl) rfl ?_
              rw [HCC.out]
              exact fanRet_no (((B7.setCell (p := ⟨w.heap.size + 1, 0, none⟩) (by show w.heap.size ≤ w.heap.size + 1; omega) _).setCell (p := ⟨w.heap.size + 1, 1, none⟩) (by show w.heap.size ≤ w.heap.size + 1; omega) _).setCell (p := ⟨w.heap.size + 1, 2, none⟩) (by show w.heap.size ≤ w.heap.size + 1; omega) _)
      · have hc : spCode s a (dat rs) num den = 2 := by unfold spCode; rw [if_pos HO0.out, if_neg (by rw [k2]; simp)]
        have HCC := Lib.hid hc
        clear hc
        go_enter Try.func12, Try.ntmps12
        go_wp2_with fail; ((with_reducible refine HC.out.mono ?_); rintro e w1 ⟨rfl, hb1⟩)
        have P1 := HK1.out.below hb1 (by simp)
        have e0 := P1.cell 0
        have e1 := P1.cell 1
        have e2 := P1.cell 2
        have r0 := P1.frozen 0
        have r1 := P1.frozen 1
        have r2 := P1.frozen 2
        have B7 : Below w.heap.size w w1 := hb0.trans (hb1.mono hb0.size)
        clear hb1
        go_wp2_with fail; ((with_reducible refine (l00In_any num _ _ _).mono ?_); rintro e w' ⟨rfl, rfl⟩)
        go_wp2_with fail; ((with_reducible refine (l00In_any den _ _ _).mono ?_); rintro e w' ⟨rfl, rfl⟩)
        rw [k2]
        go_wp2
        refine bodyPost_ret (v := .tuple #[.agg #[.string ByteArray.empty, .int .i64 0, .slice none 0 0], .int .i64 2]) (by simp [results, Try.results12, go_sem, e0, e1, e2] <;> rfl) rfl ?_
        rw [HCC.out]
        exact fanRet_no (((B7.setCell (p := ⟨w.heap.size + 1, 0, none⟩) (by show w.heap.size ≤ w.heap.size + 1; omega) _).setCell (p := ⟨w.heap.size + 1, 1, none⟩) (by show w.heap.size ≤ w.heap.size + 1; omega) _).setCell (p := ⟨w.heap.size + 1, 2, none⟩) (by show w.heap.size ≤ w.heap.size + 1; omega) _)
    · have hc : spCode s a (dat rs) num den = 2 := by unfold spCode; rw [if_pos HO0.out, if_neg (by rw [k1]; simp)]
      have HCC := Lib.hid hc
      clear hc
      go_enter Try.func12, Try.ntmps12
      go_wp2_with fail; ((with_reducible refine HC.out.mono ?_); rintro e w1 ⟨rfl, hb1⟩)
      have P1 := HK1.out.below hb1 (by simp)
      have e0 := P1.cell 0
      have e1 := P1.cell 1
      have e2 := P1.cell 2
      have r0 := P1.frozen 0
      have r1 := P1.frozen 1
      have r2 := P1.frozen 2
      have B7 : Below w.heap.size w w1 := hb0.trans (hb1.mono hb0.size)
      clear hb1
      go_wp2_with fail; ((with_reducible refine (l00In_any num _ _ _).mono ?_); rintro e w' ⟨rfl, rfl⟩)
      go_wp2
      refine bodyPost_ret (v := .tuple #[.agg #[.string ByteArray.empty, .int .i64 0, .slice none 0 0], .int .i64 2]) (by simp [results, Try.results12, go_sem, e0, e1, e2] <;> rfl) rfl ?_
      rw [HCC.out]
      exact fanRet_no (((B7.setCell (p := ⟨w.heap.size + 1, 0, none⟩) (by show w.heap.size ≤ w.heap.size + 1; omega) _).setCell (p := ⟨w.heap.size + 1, 1, none⟩) (by show w.heap.size ≤ w.heap.size + 1; omega) _).setCell (p := ⟨w.heap.size + 1, 2, none⟩) (by show w.heap.size ≤ w.heap.size + 1; omega) _)
  · have hc : spCode s a (dat rs) num den = 1 := by unfold spCode; rw [if_neg (by rw [k0]; exact Bool.false_ne_true)]
    have HCC := Lib.hid hc
    rw [k0] at cc
    have HC := Lib.hid cc
    clear hc cc k0
    go_enter Try.func12, Try.ntmps12
    go_wp2_with fail; ((with_reducible refine HC.out.mono ?_); rintro e w1 ⟨rfl, hb1⟩)
    have P1 := HK1.out.below hb1 (by simp)
    have e0 := P1.cell 0
    have e1 := P1.cell 1
    have e2 := P1.cell 2
    have r0 := P1.frozen 0
    have r1 := P1.frozen 1
    have r2 := P1.frozen 2
    have B7 : Below w.heap.size w w1 := hb0.trans (hb1.mono hb0.size)
    clear hb1
    go_wp2
    refine bodyPost_ret (v := .tuple #[.agg #[.string ByteArray.empty, .int .i64 0, .slice none 0 0], .int .i64 1]) (by simp [results, Try.results12, go_sem, e0, e1, e2] <;> rfl) rfl ?_
    rw [HCC.out]
    exact fanRet_no (((B7.setCell (p := ⟨w.heap.size + 1, 0, none⟩) (by show w.heap.size ≤ w.heap.size + 1; omega) _).setCell (p := ⟨w.heap.size + 1, 1, none⟩) (by show w.heap.size ≤ w.heap.size + 1; omega) _).setCell (p := ⟨w.heap.size + 1, 2, none⟩) (by show w.heap.size ≤ w.heap.size + 1; omega) _)
end Go.Proofs.Ytapophggndlhaaa
