/- Contract of two fans side by side, the program's side (written by mk74g.py out of the text of two fans one behind the other, and of parI.part). -/
import Derived.Test.YtapophggndlhaaaParS
import Derived.Test.YtapophggndlhaaaSerI
import Derived.Test.YtapophggndlhaaaBwd
import Derived.Test.YtapophggndlhaaaPri
import Derived.RangeFuncNested
import Derived.RangeFuncBound
import Derived.RangeFuncCalls
import Derived.RangeFuncLeaves
import Derived.RangeFuncBox
import Derived.Shelf.Abstract
import Derived.Shelf.RegionOpen
import Derived.OwnWalkIn
import Derived.TacticsInMore
import Derived.LoopNIn
import Derived.LoopIn
namespace Go.Proofs.Ytapophggndlhaaa
set_option linter.unusedVariables false
set_option linter.unusedSimpArgs false
open Go.RowKit Go.Shelf
attribute [local go_sem] Oper.semAt_some
set_option maxHeartbeats 12800000 in
set_option maxRecDepth 100000 in
theorem implFansInParallel_any (sa : ByteArray) (xa : Int) (A : Option Addr) (n c : Nat) (ra : List Row) (sb : ByteArray) (xb : Int) (B : Option Addr) (m d : Nat) (rb : List Row) (w : World) (hsa : sa.size ≤ maxLen) (hra : RSS w w.heap.size A n ra) (hn : n ≤ 1048576) (hran : ∀ r ∈ ra, r.n ≤ 1048576)
    (hsb : sb.size ≤ maxLen) (hrb : RSS w w.heap.size B m rb) (hm : m ≤ 1048576) (hrbn : ∀ r ∈ rb, r.n ≤ 1048576) :
    Calls Try.prog 34 #[.agg #[.string sa, .int .i64 xa, .slice A n c], .agg #[.string sb, .int .i64 xb, .slice B m d]] w
      (fanRet w (okS (parCode sa xa (dat ra) sb xb (dat rb)) sa) (okA (parCode sa xa (dat ra) sb xb (dat rb)) xa) (okC (parCode sa xa (dat ra) sb xb (dat rb)) (parC (dat ra) (dat rb))) (parCode sa xa (dat ra) sb xb (dat rb))) := by
  obtain ⟨i0, hi0, hz0, hz1, hz2⟩ := info_parts info_Int64SS
  have HLa : Hid ((dat ra).length = n) := show (dat ra).length = n by rw [dat_len]; exact hra.len
  have HLb : Hid ((dat rb).length = m) := show (dat rb).length = m by rw [dat_len]; exact hrb.len
  obtain ⟨w0, hw0⟩ : ∃ w0 : World, w0 = ((w.alloc (.cells #[.string sa, .int .i64 xa, .slice A n c] 26)).alloc (.cells #[.string sb, .int .i64 xb, .slice B m d] 26)).alloc (.cells #[.string { data := #[] }, .int .i64 0, .slice none 0 0] 26) := ⟨_, rfl⟩
  have hsz : w0.heap.size = w.heap.size + 3 := by rw [hw0]; simp
  have hb0 : Below w.heap.size w w0 := by rw [hw0]; exact (((Below.refl _ _).alloc (Nat.le_refl _) _).alloc (by simp) _).alloc (by simp; omega) _
  have K0 : Blk w0 w.heap.size 26 #[.string sa, .int .i64 xa, .slice A n c] := by rw [hw0]; exact ((Blk.new w _ _).alloc _).alloc _
  have K1 : Blk w0 (w.heap.size + 1) 26 #[.string sb, .int .i64 xb, .slice B m d] := by
    have h := (Blk.new (w.alloc (.cells #[.string sa, .int .i64 xa, .slice A n c] 26)) 26 #[.string sb, .int .i64 xb, .slice B m d]).alloc (.cells #[.string { data := #[] }, .int .i64 0, .slice none 0 0] 26)
    rw [← hw0] at h
    simpa using h
  have K2 : Blk w0 (w.heap.size + 2) 26 #[.string { data := #[] }, .int .i64 0, .slice none 0 0] := by
    have h := Blk.new ((w.alloc (.cells #[.string sa, .int .i64 xa, .slice A n c] 26)).alloc (.cells #[.string sb, .int .i64 xb, .slice B m d] 26)) 26 #[.string { data := #[] }, .int .i64 0, .slice none 0 0]
    rw [← hw0] at h
    simpa using h
  have hwa : w.heap.size < w0.heap.size := by omega
  have hwb : w.heap.size + 1 < w0.heap.size := by omega
  have hwc : w.heap.size + 2 < w0.heap.size := by omega
  have ca := implValidFan_any sa xa A n c ra w0 hsa ((hra.below hb0).more hb0.size) hn hran
  have HCB : Hid (∀ W, Below w0.heap.size w0 W → Calls Try.prog 40 #[.agg #[.string sb, .int .i64 xb, .slice B m d]] W fun e w' => e = .returned (.bool (fanOk sb xb (dat rb))) ∧ Below W.heap.size W w') := fun W hW =>
    implValidFan_any sb xb B m d rb W hsb ((hrb.below (hb0.trans (hW.mono hb0.size))).more (hb0.trans (hW.mono hb0.size)).size) hm hrbn
  have f10 : ∀ W, Below w0.heap.size w0 W → Blk W (w.heap.size + 1) 26 #[.string sb, .int .i64 xb, .slice B m d] := fun W hW => K1.below hW hwb
  have F10 := Lib.hid f10
  have HK0 := Lib.hid K0
  have HK1 := Lib.hid K1
  have HK2 := Lib.hid K2
  have HW0 := Lib.hid hw0
  have HB0 := Lib.hid hb0
  clear K0 K1 K2 hran hrbn hsz hb0 f10
  rcases Bool.eq_false_or_eq_true (fanOk sa xa (dat ra)) with ka | ka
  · rcases Bool.eq_false_or_eq_true (fanOk sb xb (dat rb)) with kb | kb
    · have HV : Hid (parCode sa xa (dat ra) sb xb (dat rb) = if 8 < (parC (dat ra) (dat rb)).length then 5 else if fanOk sa xa (parC (dat ra) (dat rb)) = true then 0 else 6) := show _ = _ by unfold parCode; rw [if_pos ⟨ka, kb⟩]
      have HOA := Lib.hid (fanOk_t ka).2.2
      have HOB := Lib.hid (fanOk_t kb).2.2
      rw [ka] at ca
      rw [kb] at HCB
      have HCA := Lib.hid ca
      clear ca ka kb
      subst hw0
      refine (callsIn_wide (n := 3)).1 ?_
      refine callsIn_of_wp_marks Try.func34 rfl trivial ?_ rfl
      simp only [Try.ntmps34, List.size_toArray, List.length_cons, List.length_nil, Nat.reduceAdd, Nat.reduceSub, Array.replicate_succ, Array.replicate_zero, List.push_toArray, List.append_toArray, List.nil_append, List.cons_append]
      gi_wp2_with fail
      refine ⟨trivial, (callsIn_wide.2 HCA.out).mono ?_⟩
      rintro e w1 ⟨rfl, hb1⟩
      have J1 := F10.out w1 hb1
      have j0 := J1.cell 0
      have j1 := J1.cell 1
      have j2 := J1.cell 2
      gi_wp2_with fail
      refine ⟨trivial, (callsIn_wide.2 (HCB.out _ hb1)).mono ?_⟩
      rintro e w2 ⟨rfl, hb2⟩
      have hb12 := hb1.trans (hb2.mono hb1.size)
      have B2 := HB0.out.trans (hb12.mono HB0.out.size)
      have L0 := Lib.hid (HK0.out.below hb12 hwa)
      have L1 := Lib.hid (HK1.out.below hb12 hwb)
      have L2 := Lib.hid (HK2.out.below hb12 hwc)
      have z2 : w.heap.size + 2 < w2.heap.size := by have := hb12.size; omega
      have zz0 : w.heap.size < w2.heap.size := by omega
      have zz1 : w.heap.size + 1 < w2.heap.size := by omega
      clear hb1 hb2 hb12 HCA HCB HK0 HK1 HK2 HW0 HB0 F10 J1 j0 j1 j2
      have nb : (2 ≤ n ∧ n ≤ 8) ∧ 2 ≤ m ∧ m ≤ 8 := by
        have h1 := crvOk_t HOA.out
        have h2 := crvOk_t HOB.out
        have h3 := HLa.out
        have h4 := HLb.out
        omega
      obtain ⟨⟨n2, n8⟩, m2, m8⟩ := nb
      have k0 := L0.out.cell 0
      have k1 := L0.out.cell 1
      have k2 := L0.out.cell 2
      have l0 := L1.out.cell 0
      have l1 := L1.out.cell 1
      have l2 := L1.out.cell 2
      have hbF : Below w.heap.size w (w2.alloc (.cells #[.string sa, .int .i64 xa, .slice none 0 0] 26)) := B2.alloc B2.size _
      have HCN := Lib.hid (curveNumbers_any sa sb xa xb A B n c m d ra rb 1 1 rfl (by omega) _ ((hra.below hbF).more hbF.size) ((hrb.below hbF).more hbF.size) (crv_rows HOA.out) (crv_rows HOB.out) (by omega) (by omega))
      rw [colS_dat, colS_dat] at HCN
      have HKF := Lib.hid (Blk.new w2 26 #[.string sa, .int .i64 xa, .slice none 0 0])
      have hsF : (w2.alloc (.cells #[.string sa, .int .i64 xa, .slice none 0 0] 26)).heap.size = w2.heap.size + 1 := by simp
      rw [hsF] at HCN
      clear hbF
      gi_wp2_with fail
      refine ⟨trivial, (callsIn_wide.2 HCN.out).mono ?_⟩
      rintro e w4 ⟨A4, N4, c4, rfl, ho4, hb4⟩
      have z4 : w2.heap.size < w4.heap.size := by have h := hb4.size; omega
      have HF4 := Lib.hid (HKF.out.below hb4 (by simp))
      have HO4 : Hid (w4.ownsRow (w2.heap.size + 1) 2 1 (.slice A4 N4 c4) N4 (ints (parF (dat ra) (dat rb)))) := ho4
      have HFL : Hid ((parF (dat ra) (dat rb)).length = N4) := ints_len (Reads.of_own HO4.out)
      have hN16 : N4 ≤ 16 := by have h1 := parF_len HOA.out HOB.out; have h2 := HFL.out; omega
      have hN1 : 1 ≤ N4 := by have h1 := parF_pos (cb := dat rb) HOA.out; have h2 := HFL.out; omega
      have h24 : Below w2.heap.size w2 w4 := ((Below.refl _ _).alloc (Nat.le_refl _) _).trans (hb4.mono (by omega))
      clear ho4 hb4 HCN HKF k0 k1 k2 l0 l1 l2 hsF
      gi_wp2_with fail
      refine ⟨trivial, (back_in Fence.wide _ trivial rfl _ _ _ _).mono ?_⟩
      rintro e w5 ⟨rfl, rfl⟩
      gi_wp2_with fail
      obtain ⟨g4, rfl, hg4, hg5, hcells⟩ := own_at HO4.out (by omega)
      have hBs := Blk.new w4 53 #[.slice (some ⟨g4, 0, none⟩) N4 c4]
      have h4s : Below w4.heap.size w4 (w4.alloc (.cells #[.slice (some ⟨g4, 0, none⟩) N4 c4] 53)) := (Below.refl _ _).alloc (Nat.le_refl _) _
      have hsz : (w4.alloc (.cells #[.slice (some ⟨g4, 0, none⟩) N4 c4] 53)).heap.size = w4.heap.size + 1 := by simp
      generalize w4.alloc (.cells #[.slice (some ⟨g4, 0, none⟩) N4 c4] 53) = ws at *
      have HBs := Lib.hid hBs
      have HFS := Lib.hid (HF4.out.below h4s (by omega))
      have h2s : Below w2.heap.size w2 ws := h24.trans (h4s.mono h24.size)
      have HFLn := HFL.out
      have HLA : Hid (∀ (W : World) (x : Int), Below w2.heap.size w2 W → Calls Try.prog 52 #[.agg #[.string sa, .int .i64 xa, .slice A n c], .int .i64 x] W fun e w' => e = .returned (.tuple #[.int .i64 (lastV (dat ra) x), .bool (decide (0 < lastP (dat ra) x))]) ∧ Below W.heap.size W w') := fun W x hW =>
        lastFlow_any sa xa A n c ra x W ((hra.below (B2.trans (hW.mono B2.size))).more (B2.trans (hW.mono B2.size)).size) HOA.out
      have HLB : Hid (∀ (W : World) (x : Int), Below w2.heap.size w2 W → Calls Try.prog 52 #[.agg #[.string sb, .int .i64 xb, .slice B m d], .int .i64 x] W fun e w' => e = .returned (.tuple #[.int .i64 (lastV (dat rb) x), .bool (decide (0 < lastP (dat rb) x))]) ∧ Below W.heap.size W w') := fun W x hW =>
        lastFlow_any sb xb B m d rb x W ((hrb.below (B2.trans (hW.mono B2.size))).more (B2.trans (hW.mono B2.size)).size) HOB.out
      have HCS : Hid (parC (dat ra) (dat rb) = parTo (dat ra) (dat rb) (parF (dat ra) (dat rb)).reverse) := rfl
      generalize parF (dat ra) (dat rb) = fs at *
      subst HFLn
      have HST := Lib.hid (back_stops Fence.wide (3 - 1) trivial rfl (by omega) w4.heap.size ws.heap.size w2.heap.size g4 0 c4 fs (by omega) (by omega) (by omega) (by omega) (by omega) ws (Nat.le_refl _) ((HBs.out.cell 0).trans rfl) (fun j hj => by
        rw [Nat.zero_add]
        refine (h4s.cell (p := ⟨g4, j, none⟩) hg5).trans (hcells j _ ?_)
        unfold ints
        rw [List.getElem?_map, List.getElem?_eq_getElem hj]
        rfl))
      clear hBs hcells
      refine wpIn_rangeFunc_ownG rfl (by omega) (gf := 88) (lb := #[.pointer (some ⟨w4.heap.size, 0, none⟩)]) rfl trivial (enters_of Try.func88 (by kernel_rfl) rfl) HST.out
        (fun h k => h.trans k) (KpB.put (Nat.le_refl _)) (Below.refl _ _) (fun _ => rfl) (ParInv (dat ra) (dat rb) sa xa w2.heap.size ws.heap.size w2 ws) (fun _ _ _ => False)
        (parInv_own (by omega) (by omega)) (fun _ _ _ _ _ hs _ _ => hs) ⟨none, 0, 0, [], HFS.out, ⟨OSS.nil _ _, rfl, fun r h => by simp at h⟩, KpB.refl _ _ _, h2s, by simp, Nat.le_refl _⟩
        (fun x => { tmps := List.toArray ((Value.agg #[.string sa, .int .i64 xa, .slice A n c]) :: (Value.agg #[.string sb, .int .i64 xb, .slice B m d]) :: (Value.pointer (some ⟨w.heap.size, 0, none⟩)) :: (Value.pointer (some ⟨w.heap.size + 1, 0, none⟩)) :: (Value.pointer (some ⟨w.heap.size + 1 + 1, 0, none⟩)) :: (Value.int .i64 0) :: (Value.pointer (some ⟨w2.heap.size, 0, none⟩)) :: undef :: (Value.int .i64 x.2) :: undef :: undef :: undef :: undef :: undef :: undef :: (Value.agg #[.string sa, .int .i64 xa, .slice A n c]) :: (Value.bool true) :: (Value.bool false) :: (Value.bool false) :: (Value.agg #[.string sb, .int .i64 xb, .slice B m d]) :: (Value.bool true) :: (Value.bool false) :: (Value.bool false) :: undef :: (Value.pointer (some ⟨w.heap.size, 0, none⟩)) :: (Value.string sa) :: (Value.pointer (some ⟨w.heap.size, 1, none⟩)) :: (Value.int .i64 xa) :: (Value.agg #[.string sa, .int .i64 xa, .slice none 0 0]) :: (Value.agg #[.string sa, .int .i64 xa, .slice A n c]) :: (Value.agg #[.string sb, .int .i64 xb, .slice B m d]) :: (Value.slice (some ⟨g4, 0, none⟩) fs.length c4) :: (Value.func (.func 88) #[] #[.pointer (some ⟨w4.heap.size, 0, none⟩)]) :: (Value.int .i64 (x.1 : Int)) :: (Value.int .i64 x.2) :: undef :: undef :: undef :: undef :: undef :: undef :: undef :: undef :: undef :: undef :: undef :: undef :: undef :: undef :: undef :: undef :: undef :: undef :: undef :: undef :: undef :: undef :: undef :: undef :: undef :: undef :: undef :: undef :: undef :: undef :: undef :: undef :: undef :: undef :: undef :: undef :: undef :: undef :: undef :: undef :: undef :: undef :: undef :: undef :: undef :: []), defers := [] }) ?assign ?body ?done ?stop
      case assign =>
        intro l x W K hK
        gi_wp2
        exact hK
      case body =>
        rintro l pre ⟨i, q⟩ W ⟨A', k, c', rs', hBK, hM, hKP, hbr, hk, hz⟩ hlt
        have HBK := Lib.hid hBK
        have HM := Lib.hid hM
        have HKP := Lib.hid hKP
        have M0 := L0.out.below hbr (by omega)
        have M1 := L1.out.below hbr (by omega)
        have a0 : W.cell? ⟨w.heap.size, 0, none⟩ = some (.string sa) := (M0.cell 0).trans rfl
        have a1 : W.cell? ⟨w.heap.size, 1, none⟩ = some (.int .i64 xa) := (M0.cell 1).trans rfl
        have a2 : W.cell? ⟨w.heap.size, 2, none⟩ = some (.slice A n c) := (M0.cell 2).trans rfl
        have HQA := Lib.hid (HLA.out _ q hbr)
        have va := lastV_bnd (dat ra) q
        have vb := lastV_bnd (dat rb) q
        have HPQ : Hid (parQ (dat ra) (dat rb) q = min (lastV (dat ra) q + lastV (dat rb) q) 100000) := rfl
        have b0 : W.cell? ⟨w.heap.size + 1, 0, none⟩ = some (.string sb) := (M1.cell 0).trans rfl
        have b1 : W.cell? ⟨w.heap.size + 1, 1, none⟩ = some (.int .i64 xb) := (M1.cell 1).trans rfl
        have b2 : W.cell? ⟨w.heap.size + 1, 2, none⟩ = some (.slice B m d) := (M1.cell 2).trans rfl
        clear hBK hM hKP M0 M1
        gi_wp2_with fail
        refine ⟨trivial, (CallsIn.inRound l (callsIn_wide.2 HQA.out)).mono ?_⟩
        rintro e w6 ⟨rfl, hb6⟩
        have c0 := (hb6.cell (block_lt_of_cell b0)).trans b0
        have c1 := (hb6.cell (block_lt_of_cell b1)).trans b1
        have c2 := (hb6.cell (block_lt_of_cell b2)).trans b2
        have HQB := Lib.hid (HLB.out _ q (hbr.trans (hb6.mono hbr.size)))
        gi_wp2_with fail
        refine ⟨trivial, (CallsIn.inRound l (callsIn_wide.2 HQB.out)).mono ?_⟩
        rintro e w7 ⟨rfl, hb7⟩
        have hb67 : Below W.heap.size W w7 := hb6.trans (hb7.mono hb6.size)
        clear a0 a1 a2 b0 b1 b2 c0 c1 c2 HQA HQB hb6 hb7
        have g2 : w7.cell? ⟨w2.heap.size, 2, none⟩ = some (.slice A' k c') := ((HBK.out.below hb67 HBK.out.lt).cell 2).trans rfl
        have hk16 : k ≤ 16 := by omega
        generalize lastV (dat ra) q = ma at *
        generalize lastV (dat rb) q = mb at *
        generalize decide (0 < lastP (dat ra) q) = oa at *
        generalize decide (0 < lastP (dat rb) q) = ob at *
        have hgs : w2.heap.size < ws.heap.size := by omega
        have z67 := hb67.size
        have HM7 := Lib.hid (HM.out.below hb67)
        rcases Nat.eq_zero_or_pos k with hk0 | hk0
        · subst hk0
          have HQN : Hid (lastQ (parTo (dat ra) (dat rb) (pre.map Prod.snd)) ≠ some (parQ (dat ra) (dat rb) q)) := by rw [HM.out.nil]; simp [Hid, lastQ]
          gi_wp2_with (gi_at_builtin; refine wpListIn_append_own _ rfl _ _ 22 rfl ws.heap.size 53 i0 _ 1 24 Try.underlying22 hi0 hz0 hz1 hz2 rfl (by omega) (.slice A' 0 c') (0) (rowsV rs') rfl ((HM7.out.oss.out.alloc _).alloc _) ⟨w7.heap.size + 1, 0, none⟩ 1 1 [.slice (some ⟨w7.heap.size, 0, none⟩) 2 2] rfl rfl (news_two w7 _ _) (by simp [Value.oneCell']) (by unfold maxLen; omega) (by omega) (by simp; omega) ?_; intro v8 w8 ho8 hgr hnil8; clear hnil8; obtain ⟨gg, cap, rfl⟩ := ownsRow_succ ho8; rw [← HPQ.out] at hgr; have HADD := Lib.hid (parInv_add (i := i) (q := q) (pre := pre) hgs (Nat.le_refl _) (Nat.le_of_lt hgs) HBK.out HM.out HKP.out hbr hk hz hb67 HQN.out ho8 hgr); have o2 := HADD.out.1.cell 2; have f2 := HADD.out.1.frozen 2; clear ho8 hgr)
          exact HADD.out.2
        · obtain ⟨k, rfl⟩ : ∃ t, k = t + 1 := ⟨k - 1, by omega⟩
          obtain ⟨adl, rl, ccl, ql, rfl, l0, l1, l2, hlq⟩ := HM7.out.last
          have hwk : IntKind.i64.wrap (((k + 1 : Nat) : Int) - 1) = (k : Int) := by rw [IntWalk.i64_in _ (by omega)]; omega
          have hkI : (k : Int) < ((k + 1 : Nat) : Int) := by omega
          by_cases hpq : ql = min (ma + mb) 100000
          · have HQY : Hid (lastQ (parTo (dat ra) (dat rb) (pre.map Prod.snd)) = some (parQ (dat ra) (dat rb) q)) := show _ = _ by rw [hlq, hpq, HPQ.out]
            have hne : (ql != min (ma + mb) 100000) = false := by simp [hpq]
            clear hlq hpq
            gi_wp2
            exact parInv_skip (i := i) (q := q) hgs (Nat.le_of_lt hgs) HBK.out HM.out HKP.out hbr hk hz hb67 HQY.out
          · have HQN : Hid (lastQ (parTo (dat ra) (dat rb) (pre.map Prod.snd)) ≠ some (parQ (dat ra) (dat rb) q)) := show _ ≠ _ by rw [hlq, HPQ.out]; simpa using hpq
            have hne : (ql != min (ma + mb) 100000) = true := by simpa using hpq
            clear hlq hpq
            gi_wp2_with (gi_at_builtin; refine wpListIn_append_own _ rfl _ _ 22 rfl ws.heap.size 53 i0 _ 1 24 Try.underlying22 hi0 hz0 hz1 hz2 rfl (by omega) (.slice (some adl) (k + 1) c') (k + 1) (rowsV rs') rfl ((HM7.out.oss.out.alloc _).alloc _) ⟨w7.heap.size + 1, 0, none⟩ 1 1 [.slice (some ⟨w7.heap.size, 0, none⟩) 2 2] rfl rfl (news_two w7 _ _) (by simp [Value.oneCell']) (by unfold maxLen; omega) (by omega) (by simp; omega) ?_; intro v8 w8 ho8 hgr hnil8; clear hnil8; obtain ⟨gg, cap, rfl⟩ := ownsRow_succ ho8; rw [← HPQ.out] at hgr; have HADD := Lib.hid (parInv_add (i := i) (q := q) (pre := pre) hgs (Nat.le_refl _) (Nat.le_of_lt hgs) HBK.out HM.out HKP.out hbr hk hz hb67 HQN.out ho8 hgr); have o2 := HADD.out.1.cell 2; have f2 := HADD.out.1.frozen 2; clear ho8 hgr)
            exact HADD.out.2
      case done =>
        rintro D ys W hD rfl ⟨A', k, c', rs', hBK, hM, hKP, hbr, hk, hz⟩ hK
        rw [bwU_all, ← HCS.out] at hM
        rw [bwU_len] at hk
        have hl := hM.len
        have hDt := hM.dat
        have HM := Lib.hid hM
        have HX := Lib.hid hM.oss.reads
        have HTW := Lib.hid hM.two
        have HK := Lib.hid hK
        have y0 := hBK.cell 0
        have y1 := hBK.cell 1
        have y2 := hBK.cell 2
        have Bo := B2.trans (hbr.mono B2.size)
        have hDl : D < W.heap.size := (Array.getElem?_eq_some_iff.1 hK).1
        clear hM hKP hBK hK HLA HLB HST
        by_cases h8 : 8 < k
        · have HCC : Hid (parCode sa xa (dat ra) sb xb (dat rb) = 5) := show _ = _ by rw [HV.out, if_pos (by omega)]
          have HCD := Lib.hid (checked_full sa xa A' k c' W h8)
          clear hl hDt
          gi_wp2_with fail
          refine ⟨trivial, (callsIn_wide.2 HCD.out).mono ?_⟩
          rintro e w7 ⟨rfl, hb7⟩
          have P2 := L2.out.below (hbr.trans (hb7.mono hbr.size)) (by omega)
          have e0 := P2.cell 0
          have e1 := P2.cell 1
          have e2 := P2.cell 2
          have r0 := P2.frozen 0
          have r1 := P2.frozen 1
          have r2 := P2.frozen 2
          have B7 : Below w.heap.size w w7 := Bo.trans (hb7.mono Bo.size)
          have HPE := Lib.hid (put_end (u0 := .string ByteArray.empty) (u1 := .int .i64 0) (u2 := .slice none 0 0) P2 ((hb7.block D hDl).trans HK.out))
          have hDw : w.heap.size ≤ D := by omega
          clear P2 y0 y1 y2
          gi_wp2
          obtain ⟨p0, p1, p2, p3⟩ := HPE.out
          refine ⟨by simp, .inl ⟨_, _, rfl, run_takeDeferred p0, ?_⟩⟩
          refine ⟨.tuple #[.agg #[.string ByteArray.empty, .int .i64 0, .slice none 0 0], .int .i64 5], by simp [results, Try.results34, go_sem, p1, p2, p3] <;> rfl, ?_⟩
          rw [HCC.out]
          exact fanRet_defer _ (fanRet_no (((B7.setCell (p := ⟨w.heap.size + 2, 0, none⟩) (by show w.heap.size ≤ w.heap.size + 2; omega) _).setCell (p := ⟨w.heap.size + 2, 1, none⟩) (by show w.heap.size ≤ w.heap.size + 2; omega) _).setCell (p := ⟨w.heap.size + 2, 2, none⟩) (by show w.heap.size ≤ w.heap.size + 2; omega) _)) hDw p0 rfl
        · have HMd := Lib.hid hDt
          have hk8 : k ≤ 8 := by omega
          rcases Bool.eq_false_or_eq_true (fanOk sa xa (parC (dat ra) (dat rb))) with k3 | k3
          · have HCC : Hid (parCode sa xa (dat ra) sb xb (dat rb) = 0) := show _ = _ by rw [HV.out, if_neg (by omega), if_pos k3]
            have HCD := Lib.hid (checked_ok sa xa A' k c' rs' W hsa HX.out (fun r hr => by rw [HTW.out r hr]; omega) hk8 (by rw [HMd.out]; exact k3))
            have HMS := HM
            clear hl hDt k3
            gi_wp2_with fail
            refine ⟨trivial, (callsIn_wide.2 HCD.out).mono ?_⟩
            rintro e w7 ⟨rfl, hb7⟩
            have P2 := L2.out.below (hbr.trans (hb7.mono hbr.size)) (by omega)
            have e0 := P2.cell 0
            have e1 := P2.cell 1
            have e2 := P2.cell 2
            have r0 := P2.frozen 0
            have r1 := P2.frozen 1
            have r2 := P2.frozen 2
            have B7 : Below w.heap.size w w7 := Bo.trans (hb7.mono Bo.size)
            have HPE := Lib.hid (put_end (u0 := .string sa) (u1 := .int .i64 xa) (u2 := .slice A' k c') P2 ((hb7.block D hDl).trans HK.out))
            have hDw : w.heap.size ≤ D := by omega
            clear P2 y0 y1 y2
            gi_wp2
            obtain ⟨p0, p1, p2, p3⟩ := HPE.out
            refine ⟨by simp, .inl ⟨_, _, rfl, run_takeDeferred p0, ?_⟩⟩
            refine ⟨.tuple #[.agg #[.string sa, .int .i64 xa, .slice A' k c'], .int .i64 0], by simp [results, Try.results34, go_sem, p1, p2, p3] <;> rfl, ?_⟩
            rw [HCC.out]
            show fanRet w sa xa (parC (dat ra) (dat rb)) 0 _ _
            exact fanRet_defer _ (fanRet_put _ _ _ (HMS.out.below hb7) (by omega) B7 (by omega) (by omega) (by omega)) hDw p0 rfl
          · have HCC : Hid (parCode sa xa (dat ra) sb xb (dat rb) = 6) := show _ = _ by rw [HV.out, if_neg (by omega), if_neg (by rw [k3]; exact Bool.false_ne_true)]
            have HCD := Lib.hid (checked_bad sa xa A' k c' rs' W hsa HX.out (fun r hr => by rw [HTW.out r hr]; omega) hk8 (by rw [HMd.out]; exact k3))
            clear hl hDt k3
            gi_wp2_with fail
            refine ⟨trivial, (callsIn_wide.2 HCD.out).mono ?_⟩
            rintro e w7 ⟨rfl, hb7⟩
            have P2 := L2.out.below (hbr.trans (hb7.mono hbr.size)) (by omega)
            have e0 := P2.cell 0
            have e1 := P2.cell 1
            have e2 := P2.cell 2
            have r0 := P2.frozen 0
            have r1 := P2.frozen 1
            have r2 := P2.frozen 2
            have B7 : Below w.heap.size w w7 := Bo.trans (hb7.mono Bo.size)
            have HPE := Lib.hid (put_end (u0 := .string ByteArray.empty) (u1 := .int .i64 0) (u2 := .slice none 0 0) P2 ((hb7.block D hDl).trans HK.out))
            have hDw : w.heap.size ≤ D := by omega
            clear P2 y0 y1 y2
            gi_wp2
            obtain ⟨p0, p1, p2, p3⟩ := HPE.out
            refine ⟨by simp, .inl ⟨_, _, rfl, run_takeDeferred p0, ?_⟩⟩
            refine ⟨.tuple #[.agg #[.string ByteArray.empty, .int .i64 0, .slice none 0 0], .int .i64 6], by simp [results, Try.results34, go_sem, p1, p2, p3] <;> rfl, ?_⟩
            rw [HCC.out]
            exact fanRet_defer _ (fanRet_no (((B7.setCell (p := ⟨w.heap.size + 2, 0, none⟩) (by show w.heap.size ≤ w.heap.size + 2; omega) _).setCell (p := ⟨w.heap.size + 2, 1, none⟩) (by show w.heap.size ≤ w.heap.size + 2; omega) _).setCell (p := ⟨w.heap.size + 2, 2, none⟩) (by show w.heap.size ≤ w.heap.size + 2; omega) _)) hDw p0 rfl
      case stop =>
        rintro D c pre W _ _ h _
        exact h.elim
    · have HCC : Hid (parCode sa xa (dat ra) sb xb (dat rb) = 1) := show _ = _ by unfold parCode; rw [if_neg (by rw [kb]; simp)]
      rw [ka] at ca
      rw [kb] at HCB
      have HCA := Lib.hid ca
      clear ca
      subst hw0
      go_enter Try.func34, Try.ntmps34
      go_wp2_with fail; ((with_reducible refine HCA.out.mono ?_); rintro e w1 ⟨rfl, hb1⟩)
      have J1 := F10.out w1 hb1
      have j0 := J1.cell 0
      have j1 := J1.cell 1
      have j2 := J1.cell 2
      go_wp2_with fail; ((with_reducible refine (HCB.out _ hb1).mono ?_); rintro e w2 ⟨rfl, hb2⟩)
      have hb12 := hb1.trans (hb2.mono hb1.size)
      have B2 := HB0.out.trans (hb12.mono HB0.out.size)
      clear j0 j1 j2 J1
      have P2 := HK2.out.below hb12 hwc
      have e0 := P2.cell 0
      have e1 := P2.cell 1
      have e2 := P2.cell 2
      have r0 := P2.frozen 0
      have r1 := P2.frozen 1
      have r2 := P2.frozen 2
      clear P2
      go_wp2
      refine bodyPost_ret (v := .tuple #[.agg #[.string ByteArray.empty, .int .i64 0, .slice none 0 0], .int .i64 1]) (by simp [results, Try.results34, go_sem, e0, e1, e2] <;> rfl) rfl ?_
      rw [HCC.out]
      exact fanRet_no (((B2.setCell (p := ⟨w.heap.size + 2, 0, none⟩) (by show w.heap.size ≤ w.heap.size + 2; omega) _).setCell (p := ⟨w.heap.size + 2, 1, none⟩) (by show w.heap.size ≤ w.heap.size + 2; omega) _).setCell (p := ⟨w.heap.size + 2, 2, none⟩) (by show w.heap.size ≤ w.heap.size + 2; omega) _)
  · have HCC : Hid (parCode sa xa (dat ra) sb xb (dat rb) = 1) := show _ = _ by unfold parCode; rw [if_neg (by rw [ka]; simp)]
    rw [ka] at ca
    have HCA := Lib.hid ca
    clear ca
    subst hw0
    go_enter Try.func34, Try.ntmps34
    go_wp2_with fail; ((with_reducible refine HCA.out.mono ?_); rintro e w1 ⟨rfl, hb1⟩)
    have B2 := HB0.out.trans (hb1.mono HB0.out.size)
    have P2 := HK2.out.below hb1 hwc
    have e0 := P2.cell 0
    have e1 := P2.cell 1
    have e2 := P2.cell 2
    have r0 := P2.frozen 0
    have r1 := P2.frozen 1
    have r2 := P2.frozen 2
    clear P2
    go_wp2
    refine bodyPost_ret (v := .tuple #[.agg #[.string ByteArray.empty, .int .i64 0, .slice none 0 0], .int .i64 1]) (by simp [results, Try.results34, go_sem, e0, e1, e2] <;> rfl) rfl ?_
    rw [HCC.out]
    exact fanRet_no (((B2.setCell (p := ⟨w.heap.size + 2, 0, none⟩) (by show w.heap.size ≤ w.heap.size + 2; omega) _).setCell (p := ⟨w.heap.size + 2, 1, none⟩) (by show w.heap.size ≤ w.heap.size + 2; omega) _).setCell (p := ⟨w.heap.size + 2, 2, none⟩) (by show w.heap.size ≤ w.heap.size + 2; omega) _)
end Go.Proofs.Ytapophggndlhaaa
