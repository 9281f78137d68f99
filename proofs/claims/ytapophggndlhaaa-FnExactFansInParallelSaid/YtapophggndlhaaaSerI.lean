/- Contract of two fans one behind the other, the program's side. -/
import Derived.Test.YtapophggndlhaaaSerS
import Derived.Test.YtapophggndlhaaaCrvN
import Derived.Test.YtapophggndlhaaaChk
import Derived.Deep.RegionLaw
import Derived.Deep.RegionWith
import Derived.BigRegion
namespace Go.Proofs.Ytapophggndlhaaa
set_option linter.unusedVariables false
set_option linter.unusedSimpArgs false
open Go.RowKit
theorem colS_dat (rs : List Row) (j : Nat) : colS rs j = colL (dat rs) j := by unfold colS colL dat; rw [List.map_map]; rfl
theorem crv_rows {rs : List Row} (h : crvOk (dat rs) = true) : ∀ r ∈ rs, r.xs.length = 2 := fun r hr => by
  obtain ⟨k, hk⟩ := List.mem_iff_getElem?.1 hr
  have h1 := crv_two ((crvOk_t h).2.2 k (by rw [dat_len]; exact (List.getElem?_eq_some_iff.1 hk).1))
  rwa [(lock_row (dat_at hk)).1] at h1
theorem own_at {w : World} {base n c : Nat} {e : TypeId} {A : Option Addr} {xs : List Value} (h : w.ownsRow base e 1 (.slice A n c) n xs) (hn : 0 < n) : ∃ g, A = some ⟨g, 0, none⟩ ∧ base ≤ g ∧ g < w.heap.size ∧ ∀ j u, xs[j]? = some u → w.cell? ⟨g, j, none⟩ = some u := by
  have hl : xs.length = n := by have := h.1; simpa using this
  rcases h.2 with ⟨_, h0⟩ | ⟨g, cap, cur, hv, hbg, hgb, hnc, hcm, hcs, htake⟩
  · exfalso; omega
  injection hv with hA _ hc
  subst hA
  have hBlk : Blk w g e cur := hgb
  refine ⟨g, rfl, hbg, hBlk.lt, fun j u hu => (hBlk.cell j).trans ?_⟩
  rw [← htake, List.getElem?_take] at hu
  split at hu
  · rw [← Array.getElem?_toList]; exact hu
  · cases hu
theorem news_pair (w : World) (x y : Value) : ∀ j u, [Value.slice (some ⟨w.heap.size, 0, none⟩) 2 2][j]? = some u →
    ((w.alloc (.cells #[x, y] 2)).alloc (.cells #[.slice (some ⟨w.heap.size, 0, none⟩) 2 2] 53)).cell? ((⟨w.heap.size + 1, 0, none⟩ : Addr).add j) = some u := news_row w x y
set_option maxHeartbeats 12800000 in
set_option maxRecDepth 100000 in
theorem implFansInSeries_any (sa : ByteArray) (xa : Int) (A : Option Addr) (n c : Nat) (ra : List Row) (sb : ByteArray) (xb : Int) (B : Option Addr) (m d : Nat) (rb : List Row) (w : World) (hsa : sa.size ≤ maxLen) (hra : RSS w w.heap.size A n ra) (hn : n ≤ 1048576) (hran : ∀ r ∈ ra, r.n ≤ 1048576)
    (hsb : sb.size ≤ maxLen) (hrb : RSS w w.heap.size B m rb) (hm : m ≤ 1048576) (hrbn : ∀ r ∈ rb, r.n ≤ 1048576) :
    Calls Try.prog 32 #[.agg #[.string sa, .int .i64 xa, .slice A n c], .agg #[.string sb, .int .i64 xb, .slice B m d]] w
      (fanRet w (okS (serCode sa xa (dat ra) sb xb (dat rb)) sa) (okA (serCode sa xa (dat ra) sb xb (dat rb)) xa) (okC (serCode sa xa (dat ra) sb xb (dat rb)) (serC (dat ra) (dat rb))) (serCode sa xa (dat ra) sb xb (dat rb))) := by
  obtain ⟨i0, hi0, hz0, hz1, hz2⟩ := info_parts info_Int64SS
  have HLa : Hid ((dat ra).length = n) := show (dat ra).length = n by rw [dat_len]; exact hra.len
  have HLb : Hid ((dat rb).length = m) := show (dat rb).length = m by rw [dat_len]; exact hrb.len
  obtain ⟨w0, hw0⟩ : ∃ w0 : World, w0 = ((w.alloc (.cells #[.string sa, .int .i64 xa, .slice A n c] 26)).alloc (.cells #[.string sb, .int .i64 xb, .slice B m d] 26)).alloc (.cells #[.string { data := #[] }, .int .i64 0, .slice none 0 0] 26) := ⟨_, rfl⟩
  have hsz : w0.heap.size = w.heap.size + 3 := by rw [hw0]; simp
  have hb0 : Below w.heap.size w w0 := by rw [hw0]; exact (((Below.refl _ _).alloc (Nat.le_refl _) _).alloc (by simp) _).alloc (by simp; omega) _
  have K0 : Blk w0 w.heap.size 26 #[.string sa, .int .i64 xa, .slice A n c] := by rw [hw0]; exact ((Blk.new w _ _).alloc _).alloc _
  have K1 : Blk w0 (w.heap.size + 1) 26 #[.string sb, .int .i64 xb, .slice B m d] := by
    have h := (Blk.new (w.alloc (.cells #[.string sa, .int .i64 xa, .slice A n c] 26)) 26 #[.string sb, .int .i64 xb, .slice B m d]).alloc (.cells #[.string { data := #[] }, .int .i64 0, .slice none 0 0] 26)
    rw [← hw0] at h
    simpa using h
  have K2 : Blk w0 (w.heap.size + 2) 26 #[.string { data := #[] }, .int .i64 0, .slice none 0 0] := by
    have h := Blk.new ((w.alloc (.cells #[.string sa, .int .i64 xa, .slice A n c] 26)).alloc (.cells #[.string sb, .int .i64 xb, .slice B m d] 26)) 26 #[.string { data := #[] }, .int .i64 0, .slice none 0 0]
    rw [← hw0] at h
    simpa using h
  have hwa : w.heap.size < w0.heap.size := by omega
  have hwb : w.heap.size + 1 < w0.heap.size := by omega
  have hwc : w.heap.size + 2 < w0.heap.size := by omega
  have ca := implValidFan_any sa xa A n c ra w0 hsa ((hra.below hb0).more hb0.size) hn hran
  have HCB : Hid (∀ W, Below w0.heap.size w0 W → Calls Try.prog 40 #[.agg #[.string sb, .int .i64 xb, .slice B m d]] W fun e w' => e = .returned (.bool (fanOk sb xb (dat rb))) ∧ Below W.heap.size W w') := fun W hW =>
    implValidFan_any sb xb B m d rb W hsb ((hrb.below (hb0.trans (hW.mono hb0.size))).more (hb0.trans (hW.mono hb0.size)).size) hm hrbn
  have f10 : ∀ W, Below w0.heap.size w0 W → Blk W (w.heap.size + 1) 26 #[.string sb, .int .i64 xb, .slice B m d] := fun W hW => K1.below hW hwb
  have F10 := Lib.hid f10
  have HK0 := Lib.hid K0
  have HK1 := Lib.hid K1
  have HK2 := Lib.hid K2
  have HW0 := Lib.hid hw0
  have HB0 := Lib.hid hb0
  clear K0 K1 K2 hran hrbn hsz hb0 f10
  rcases Bool.eq_false_or_eq_true (fanOk sa xa (dat ra)) with ka | ka
  · rcases Bool.eq_false_or_eq_true (fanOk sb xb (dat rb)) with kb | kb
    · have HV : Hid (serCode sa xa (dat ra) sb xb (dat rb) = if 8 < (serC (dat ra) (dat rb)).length then 5 else if fanOk sa xa (serC (dat ra) (dat rb)) = true then 0 else 6) := show _ = _ by unfold serCode; rw [if_pos ⟨ka, kb⟩]
      have HOA := Lib.hid (fanOk_t ka).2.2
      have HOB := Lib.hid (fanOk_t kb).2.2
      rw [ka] at ca
      rw [kb] at HCB
      have HCA := Lib.hid ca
      clear ca ka kb
      subst hw0
      go_enter Try.func32, Try.ntmps32
      go_wp2_with fail; ((with_reducible refine HCA.out.mono ?_); rintro e w1 ⟨rfl, hb1⟩)
      have J1 := F10.out w1 hb1
      have j0 := J1.cell 0
      have j1 := J1.cell 1
      have j2 := J1.cell 2
      go_wp2_with fail; ((with_reducible refine (HCB.out _ hb1).mono ?_); rintro e w2 ⟨rfl, hb2⟩)
      have hb12 := hb1.trans (hb2.mono hb1.size)
      have B2 := HB0.out.trans (hb12.mono HB0.out.size)
      have L0 := Lib.hid (HK0.out.below hb12 hwa)
      have L1 := Lib.hid (HK1.out.below hb12 hwb)
      have L2 := Lib.hid (HK2.out.below hb12 hwc)
      have z2 : w.heap.size + 2 < w2.heap.size := by have := hb12.size; omega
      have zz0 : w.heap.size < w2.heap.size := by omega
      have zz1 : w.heap.size + 1 < w2.heap.size := by omega
      clear hb1 hb2 hb12 HCA HCB HK0 HK1 HK2 HW0 HB0 F10 J1 j0 j1 j2
      have nb : (2 ≤ n ∧ n ≤ 8) ∧ 2 ≤ m ∧ m ≤ 8 := by
        have h1 := crvOk_t HOA.out
        have h2 := crvOk_t HOB.out
        have h3 := HLa.out
        have h4 := HLb.out
        omega
      obtain ⟨⟨n2, n8⟩, m2, m8⟩ := nb
      have k0 := L0.out.cell 0
      have k1 := L0.out.cell 1
      have k2 := L0.out.cell 2
      have l0 := L1.out.cell 0
      have l1 := L1.out.cell 1
      have l2 := L1.out.cell 2
      have hbF : Below w.heap.size w (w2.alloc (.cells #[.string sa, .int .i64 xa, .slice none 0 0] 26)) := B2.alloc B2.size _
      have HCN := Lib.hid (curveNumbers_any sa sb xa xb A B n c m d ra rb 0 0 rfl (by omega) _ ((hra.below hbF).more hbF.size) ((hrb.below hbF).more hbF.size) (crv_rows HOA.out) (crv_rows HOB.out) (by omega) (by omega))
      rw [colS_dat, colS_dat] at HCN
      have HKF := Lib.hid (Blk.new w2 26 #[.string sa, .int .i64 xa, .slice none 0 0])
      have hsF : (w2.alloc (.cells #[.string sa, .int .i64 xa, .slice none 0 0] 26)).heap.size = w2.heap.size + 1 := by simp
      rw [hsF] at HCN
      clear hbF
      go_wp2_with fail; ((with_reducible refine HCN.out.mono ?_); rintro e w4 ⟨A4, N4, c4, rfl, ho4, hb4⟩)
      have z4 : w2.heap.size < w4.heap.size := by have h := hb4.size; omega
      have HF4 := Lib.hid (HKF.out.below hb4 (by simp))
      have HO4 : Hid (w4.ownsRow (w2.heap.size + 1) 2 1 (.slice A4 N4 c4) N4 (ints (serF (dat ra) (dat rb)))) := ho4
      have HFL : Hid ((serF (dat ra) (dat rb)).length = N4) := ints_len (Reads.of_own HO4.out)
      have hN16 : N4 ≤ 16 := by have h1 := serF_len HOA.out HOB.out; have h2 := HFL.out; omega
      have HMEM := Lib.hid (fun q h => serF_mem HOA.out HOB.out (q := q) h)
      have HCS : Hid (serC (dat ra) (dat rb) = serTo (dat ra) (dat rb) (serF (dat ra) (dat rb)) N4) := show _ = _ by unfold serC; rw [HFL.out]
      have h24 : Below w2.heap.size w2 w4 := ((Below.refl _ _).alloc (Nat.le_refl _) _).trans (hb4.mono (by omega))
      have HPA : Hid (∀ (W : World) (x : Int), Below w2.heap.size w2 W → 0 ≤ x ∧ x ≤ 100000 → Calls Try.prog 48 #[.agg #[.string sa, .int .i64 xa, .slice A n c], .int .i64 x] W fun e w' => e = .returned (.int .i64 (prT (dat ra) x)) ∧ Below W.heap.size W w') := fun W x hW hx =>
        pressure_any sa xa A n c ra x W ((hra.below (B2.trans (hW.mono B2.size))).more (B2.trans (hW.mono B2.size)).size) HOA.out (by omega)
      have HPB : Hid (∀ (W : World) (x : Int), Below w2.heap.size w2 W → 0 ≤ x ∧ x ≤ 100000 → Calls Try.prog 48 #[.agg #[.string sb, .int .i64 xb, .slice B m d], .int .i64 x] W fun e w' => e = .returned (.int .i64 (prT (dat rb) x)) ∧ Below W.heap.size W w') := fun W x hW hx =>
        pressure_any sb xb B m d rb x W ((hrb.below (B2.trans (hW.mono B2.size))).more (B2.trans (hW.mono B2.size)).size) HOB.out (by omega)
      clear ho4 hb4 HCN HKF k0 k1 k2 l0 l1 l2 hsF
      generalize serF (dat ra) (dat rb) = fs at *
      go_wp2
      go_loopw [27] (fun i wr => ∃ (k : Nat) (A' : Option Addr) (c' : Nat) (rs' : List Row), k ≤ N4 ∧ i = .int .i64 k ∧ Hid (Blk wr w2.heap.size 26 #[.string sa, .int .i64 xa, .slice A' k c']) ∧ Hid (Made wr w4.heap.size A' k c' (serTo (dat ra) (dat rb) fs k) rs') ∧ Hid (∀ p : Addr, p.block < w4.heap.size → p.block ≠ w2.heap.size → wr.cell? p = w4.cell? p) ∧ w4.heap.size ≤ wr.heap.size ∧ Below w2.heap.size w2 wr) (fun i _ => N4 - (intOf i).toNat)
      case atStart => exact ⟨0, none, 0, [], by omega, rfl, HF4.out, ⟨OSS.nil _ _, rfl, fun r h => by simp at h⟩, (fun p _ _ => rfl), Nat.le_refl _, h24⟩
      case round =>
        obtain ⟨k, A', c', rs', hk, rfl, HBK, HM, HKP, hz4, hbr⟩ := hrel
        obtain ⟨wo, rfl⟩ : ∃ wo : World, wo = wr := ⟨_, rfl⟩
        have Bo := B2.trans (hbr.mono B2.size)
        have M0 := Lib.hid (L0.out.below hbr (by omega))
        have M1 := Lib.hid (L1.out.below hbr (by omega))
        by_cases hlt : k < N4
        · obtain ⟨g4, rfl, hg4, hg5, hcells⟩ := own_at HO4.out (by omega)
          obtain ⟨q, hq⟩ : ∃ q, fs[k]? = some q := ⟨_, List.getElem?_eq_getElem (by rw [HFL.out]; exact hlt)⟩
          have cq := (HKP.out ⟨g4, k, none⟩ hg5 (by show g4 ≠ _; omega)).trans (hcells k _ (by unfold ints; rw [List.getElem?_map, hq]; rfl))
          have hqb := HMEM.out q (mem_of_at hq)
          have hSn := serTo_s (ca := dat ra) (cb := dat rb) hq
          have pab := prT_bnd HOA.out q
          have pbb := prT_bnd HOB.out q
          have HQA : Hid (∀ (W : World), Below w2.heap.size w2 W → Calls Try.prog 48 #[.agg #[.string sa, .int .i64 xa, .slice A n c], .int .i64 q] W fun e w' => e = .returned (.int .i64 (prT (dat ra) q)) ∧ Below W.heap.size W w') := fun W hW => HPA.out W q hW hqb
          have HQB : Hid (∀ (W : World), Below w2.heap.size w2 W → Calls Try.prog 48 #[.agg #[.string sb, .int .i64 xb, .slice B m d], .int .i64 q] W fun e w' => e = .returned (.int .i64 (prT (dat rb) q)) ∧ Below W.heap.size W w') := fun W hW => HPB.out W q hW hqb
          have HSN := Lib.hid hSn
          have hws : IntKind.i64.wrap (prT (dat ra) q + prT (dat rb) q) = prT (dat ra) q + prT (dat rb) q := IntWalk.i64_in _ (by omega)
          have hkI : (k : Int) < (N4 : Int) := by omega
          have hbd := below_drew hbr
          have a0 : wo.cell? ⟨w.heap.size, 0, none⟩ = some (.string sa) := (M0.out.cell 0).trans rfl
          have a1 : wo.cell? ⟨w.heap.size, 1, none⟩ = some (.int .i64 xa) := (M0.out.cell 1).trans rfl
          have a2 : wo.cell? ⟨w.heap.size, 2, none⟩ = some (.slice A n c) := (M0.out.cell 2).trans rfl
          have b0 : wo.cell? ⟨w.heap.size + 1, 0, none⟩ = some (.string sb) := (M1.out.cell 0).trans rfl
          have b1 : wo.cell? ⟨w.heap.size + 1, 1, none⟩ = some (.int .i64 xb) := (M1.out.cell 1).trans rfl
          have b2 : wo.cell? ⟨w.heap.size + 1, 2, none⟩ = some (.slice B m d) := (M1.out.cell 2).trans rfl
          have h2 : wo.cell? ⟨w2.heap.size, 2, none⟩ = some (.slice A' k c') := (HBK.out.cell 2).trans rfl
          generalize prT (dat ra) q = pa at *
          generalize prT (dat rb) q = pb at *
          have hk16 : k ≤ 16 := by omega
          have HAPP : Hid (∀ (w6 w7 : World), Below wo.heap.size wo w6 → ((w6.alloc (.cells #[.int .i64 q, .int .i64 (pa + pb)] 2)).alloc (.cells #[.slice (some ⟨w6.heap.size, 0, none⟩) 2 2] 53)).grownBy w7 (Value.ownBlock (.slice A' k c')) → Blk w7 w2.heap.size 26 #[.string sa, .int .i64 xa, .slice A' k c'] ∧ Below w2.heap.size w2 w7 ∧ ∀ p : Addr, p.block < w4.heap.size → w7.cell? p = w4.cell? p ∨ p.block = w2.heap.size) := fun w6 w7 h6 hgrow => by
            have hM := (HM.out.below h6).oss.out
            have hW := (hM.alloc (.cells #[.int .i64 q, .int .i64 (pa + pb)] 2)).alloc (.cells #[.slice (some ⟨w6.heap.size, 0, none⟩) 2 2] 53)
            have hz6 := h6.size
            refine ⟨(((HBK.out.below h6 HBK.out.lt).alloc _).alloc _).grown hgrow fun h => by have := (hW.lt _ h.symm).1; omega, (((hbr.trans (h6.mono hbr.size)).alloc (by omega) _).alloc (by simp; omega) _).grown hgrow (by simp; omega) fun x hx => by have := (hW.lt x hx).1; omega, fun p hp => ?_⟩
            by_cases e : p.block = w2.heap.size
            · exact .inr e
            · have hB : Below w4.heap.size wo w7 := ((((Below.refl w4.heap.size wo).trans (h6.mono hz4)).alloc (by omega) _).alloc (by simp; omega) _).grown hgrow (by simp; omega) fun x hx => (hW.lt x hx).1
              exact .inl ((hB.cell hp).trans (HKP.out p hp e))
          clear hq hSn pab pbb hqb hcells
          go_wp2
          go_region_law
            ((first
              | (refine step_append_lies _ (by rfl) _ _ _ (by rfl) w4.heap.size 53 i0 _ 1 24 Try.underlying22 hi0 hz0 hz1 hz2 rfl (by omega) (.slice A' k c') k (rowsV rs') (by rfl) (((HM.out.below hB6).oss.out.alloc _).alloc _) ⟨w6.heap.size + 1, 0, none⟩ 1 1 [.slice (some ⟨w6.heap.size, 0, none⟩) 2 2] (by rfl) (by rfl) (news_pair w6 _ _) (by simp [Value.oneCell']) (by omega) (by unfold maxLen; omega) (by omega) (by have := hB6.size; simp; omega) (w6.heap.size + 2) (by simp) ?_; intro gg cap w7 ho7 hgrow hat hlt7; have hAP := HAPP.out _ _ hB6 hgrow; have o2 := hAP.1.cell 2; have fz7 := hAP.1.frozen 2)
              | (go_simp; go_at_call 48; with_reducible refine (HQA.out _ hbd).mono ?_; rintro e w5 ⟨rfl, hb5⟩; have hB5 := below_undrew hb5; have p0 := (hB5.cell (block_lt_of_cell b0)).trans b0; have p1 := (hB5.cell (block_lt_of_cell b1)).trans b1; have p2 := (hB5.cell (block_lt_of_cell b2)).trans b2; have p3 := (hB5.cell (block_lt_of_cell h2)).trans h2; have hbr5 := hbr.trans (hB5.mono hbr.size))
              | (go_simp; go_at_call 48; with_reducible refine (HQB.out _ hbd).mono ?_; rintro e w5 ⟨rfl, hb5⟩; have hB5 := below_undrew hb5; have p0 := (hB5.cell (block_lt_of_cell a0)).trans a0; have p1 := (hB5.cell (block_lt_of_cell a1)).trans a1; have p2 := (hB5.cell (block_lt_of_cell a2)).trans a2; have p3 := (hB5.cell (block_lt_of_cell h2)).trans h2; have hbr5 := hbr.trans (hB5.mono hbr.size))
              | (go_simp; go_at_call 48; with_reducible refine (HQA.out _ hbr5).mono ?_; rintro e w6 ⟨rfl, hb6⟩; have hB6 := hB5.trans (hb6.mono hB5.size); have s3 := (hB6.cell (block_lt_of_cell h2)).trans h2; have zs6 : w2.heap.size < w6.heap.size := by have := hB6.size; omega)
              | (go_simp; go_at_call 48; with_reducible refine (HQB.out _ hbr5).mono ?_; rintro e w6 ⟨rfl, hb6⟩; have hB6 := hB5.trans (hb6.mono hB5.size); have s3 := (hB6.cell (block_lt_of_cell h2)).trans h2; have zs6 : w2.heap.size < w6.heap.size := by have := hB6.size; omega)))
          all_goals
            have HM7 := Lib.hid ((HM.out.below hB6).app (w := w6) q (pa + pb) (by have := hB6.size; omega) ho7 ⟨hgrow.os, hgrow.tape, hgrow.output, hgrow.size, hgrow.block⟩)
            have HAP1 := Lib.hid hAP.1
            have HAP2 := Lib.hid hAP.2.1
            have HAP3 := Lib.hid hAP.2.2
            have z7 : w4.heap.size ≤ w7.heap.size := by have h := hgrow.size; have := hB6.size; simp at h; omega
            clear ho7 hgrow hat o2 fz7 hAP
            go_wp2
            go_roundw
            case rel => exact ⟨k + 1, some ⟨gg, 0, none⟩, cap, _, by omega, by go_num, HAP1.out.set_ 2 _, by rw [HSN.out]; exact HM7.out.setLow (p := ⟨w2.heap.size, 2, none⟩) z4 _, (fun p hp hne => (World.cell?_setCell_other _ _ _ _ (fun e => hne (by rw [← e]))).trans ((HAP3.out p hp).resolve_right hne)), by simpa using z7, HAP2.out.setCell (p := ⟨w2.heap.size, 2, none⟩) (Nat.le_refl _) _⟩
            case measure => simp [intOf]; omega
        · have e : k = N4 := by omega
          subst e
          have hl := HM.out.len
          have hD := HM.out.dat
          rw [← HCS.out] at hl hD
          have y0 := HBK.out.cell 0
          have y1 := HBK.out.cell 1
          have y2 := HBK.out.cell 2
          have HX := Lib.hid HM.out.oss.reads
          have HTW := Lib.hid HM.out.two
          by_cases h8 : 8 < k
          · have HCC : Hid (serCode sa xa (dat ra) sb xb (dat rb) = 5) := show _ = _ by rw [HV.out, if_pos (by omega)]
            have HCD := Lib.hid (checked_full sa xa A' k c' wo h8)
            clear hl hD HPA HPB HMEM
            go_wp2_with fail; ((with_reducible refine HCD.out.mono ?_); rintro e w7 ⟨rfl, hb7⟩)
            have P2 := L2.out.below (hbr.trans (hb7.mono hbr.size)) (by omega)
            have e0 := P2.cell 0
            have e1 := P2.cell 1
            have e2 := P2.cell 2
            have r0 := P2.frozen 0
            have r1 := P2.frozen 1
            have r2 := P2.frozen 2
            have B7 : Below w.heap.size w w7 := Bo.trans (hb7.mono Bo.size)
            clear P2 y0 y1 y2
            go_wp2
            refine bodyPost_ret (v := .tuple #[.agg #[.string ByteArray.empty, .int .i64 0, .slice none 0 0], .int .i64 5]) (by simp [results, Try.results32, go_sem, e0, e1, e2] <;> rfl) rfl ?_
            rw [HCC.out]
            exact fanRet_no (((B7.setCell (p := ⟨w.heap.size + 2, 0, none⟩) (by show w.heap.size ≤ w.heap.size + 2; omega) _).setCell (p := ⟨w.heap.size + 2, 1, none⟩) (by show w.heap.size ≤ w.heap.size + 2; omega) _).setCell (p := ⟨w.heap.size + 2, 2, none⟩) (by show w.heap.size ≤ w.heap.size + 2; omega) _)
          · have HMd := Lib.hid hD
            have hk8 : k ≤ 8 := by omega
            rcases Bool.eq_false_or_eq_true (fanOk sa xa (serC (dat ra) (dat rb))) with k3 | k3
            · have HCC : Hid (serCode sa xa (dat ra) sb xb (dat rb) = 0) := show _ = _ by rw [HV.out, if_neg (by omega), if_pos k3]
              have HCD := Lib.hid (checked_ok sa xa A' k c' rs' wo hsa HX.out (fun r hr => by rw [HTW.out r hr]; omega) hk8 (by rw [HMd.out]; exact k3))
              have HMS := Lib.hid (HM.out.cast HCS.out.symm)
              clear hl hD k3 HPA HPB HMEM
              go_wp2_with fail; ((with_reducible refine HCD.out.mono ?_); rintro e w7 ⟨rfl, hb7⟩)
              have P2 := L2.out.below (hbr.trans (hb7.mono hbr.size)) (by omega)
              have e0 := P2.cell 0
              have e1 := P2.cell 1
              have e2 := P2.cell 2
              have r0 := P2.frozen 0
              have r1 := P2.frozen 1
              have r2 := P2.frozen 2
              have B7 : Below w.heap.size w w7 := Bo.trans (hb7.mono Bo.size)
              clear P2 y0 y1 y2
              go_wp2
              refine bodyPost_ret (v := .tuple #[.agg #[.string sa, .int .i64 xa, .slice A' k c'], .int .i64 0]) (by simp [results, Try.results32, go_sem, e0, e1, e2]) rfl ?_
              rw [HCC.out]
              show fanRet w sa xa (serC (dat ra) (dat rb)) 0 _ _
              exact fanRet_put _ _ _ (HMS.out.below hb7) (by omega) B7 (by omega) (by omega) (by omega)
            · have HCC : Hid (serCode sa xa (dat ra) sb xb (dat rb) = 6) := show _ = _ by rw [HV.out, if_neg (by omega), if_neg (by rw [k3]; exact Bool.false_ne_true)]
              have HCD := Lib.hid (checked_bad sa xa A' k c' rs' wo hsa HX.out (fun r hr => by rw [HTW.out r hr]; omega) hk8 (by rw [HMd.out]; exact k3))
              clear hl hD k3 HPA HPB HMEM
              go_wp2_with fail; ((with_reducible refine HCD.out.mono ?_); rintro e w7 ⟨rfl, hb7⟩)
              have P2 := L2.out.below (hbr.trans (hb7.mono hbr.size)) (by omega)
              have e0 := P2.cell 0
              have e1 := P2.cell 1
              have e2 := P2.cell 2
              have r0 := P2.frozen 0
              have r1 := P2.frozen 1
              have r2 := P2.frozen 2
              have B7 : Below w.heap.size w w7 := Bo.trans (hb7.mono Bo.size)
              clear P2 y0 y1 y2
              go_wp2
              refine bodyPost_ret (v := .tuple #[.agg #[.string ByteArray.empty, .int .i64 0, .slice none 0 0], .int .i64 6]) (by simp [results, Try.results32, go_sem, e0, e1, e2] <;> rfl) rfl ?_
              rw [HCC.out]
              exact fanRet_no (((B7.setCell (p := ⟨w.heap.size + 2, 0, none⟩) (by show w.heap.size ≤ w.heap.size + 2; omega) _).setCell (p := ⟨w.heap.size + 2, 1, none⟩) (by show w.heap.size ≤ w.heap.size + 2; omega) _).setCell (p := ⟨w.heap.size + 2, 2, none⟩) (by show w.heap.size ≤ w.heap.size + 2; omega) _)
    · have HCC : Hid (serCode sa xa (dat ra) sb xb (dat rb) = 1) := show _ = _ by unfold serCode; rw [if_neg (by rw [kb]; simp)]
      rw [ka] at ca
      rw [kb] at HCB
      have HCA := Lib.hid ca
      clear ca
      subst hw0
      go_enter Try.func32, Try.ntmps32
      go_wp2_with fail; ((with_reducible refine HCA.out.mono ?_); rintro e w1 ⟨rfl, hb1⟩)
      have J1 := F10.out w1 hb1
      have j0 := J1.cell 0
      have j1 := J1.cell 1
      have j2 := J1.cell 2
      go_wp2_with fail; ((with_reducible refine (HCB.out _ hb1).mono ?_); rintro e w2 ⟨rfl, hb2⟩)
      have hb12 := hb1.trans (hb2.mono hb1.size)
      have B2 := HB0.out.trans (hb12.mono HB0.out.size)
      clear j0 j1 j2 J1
      have P2 := HK2.out.below hb12 hwc
      have e0 := P2.cell 0
      have e1 := P2.cell 1
      have e2 := P2.cell 2
      have r0 := P2.frozen 0
      have r1 := P2.frozen 1
      have r2 := P2.frozen 2
      clear P2
      go_wp2
      refine bodyPost_ret (v := .tuple #[.agg #[.string ByteArray.empty, .int .i64 0, .slice none 0 0], .int .i64 1]) (by simp [results, Try.results32, go_sem, e0, e1, e2] <;> rfl) rfl ?_
      rw [HCC.out]
      exact fanRet_no (((B2.setCell (p := ⟨w.heap.size + 2, 0, none⟩) (by show w.heap.size ≤ w.heap.size + 2; omega) _).setCell (p := ⟨w.heap.size + 2, 1, none⟩) (by show w.heap.size ≤ w.heap.size + 2; omega) _).setCell (p := ⟨w.heap.size + 2, 2, none⟩) (by show w.heap.size ≤ w.heap.size + 2; omega) _)
  · have HCC : Hid (serCode sa xa (dat ra) sb xb (dat rb) = 1) := show _ = _ by unfold serCode; rw [if_neg (by rw [ka]; simp)]
    rw [ka] at ca
    have HCA := Lib.hid ca
    clear ca
    subst hw0
    go_enter Try.func32, Try.ntmps32
    go_wp2_with fail; ((with_reducible refine HCA.out.mono ?_); rintro e w1 ⟨rfl, hb1⟩)
    have B2 := HB0.out.trans (hb1.mono HB0.out.size)
    have P2 := HK2.out.below hb1 hwc
    have e0 := P2.cell 0
    have e1 := P2.cell 1
    have e2 := P2.cell 2
    have r0 := P2.frozen 0
    have r1 := P2.frozen 1
    have r2 := P2.frozen 2
    clear P2
    go_wp2
    refine bodyPost_ret (v := .tuple #[.agg #[.string ByteArray.empty, .int .i64 0, .slice none 0 0], .int .i64 1]) (by simp [results, Try.results32, go_sem, e0, e1, e2] <;> rfl) rfl ?_
    rw [HCC.out]
    exact fanRet_no (((B2.setCell (p := ⟨w.heap.size + 2, 0, none⟩) (by show w.heap.size ≤ w.heap.size + 2; omega) _).setCell (p := ⟨w.heap.size + 2, 1, none⟩) (by show w.heap.size ≤ w.heap.size + 2; omega) _).setCell (p := ⟨w.heap.size + 2, 2, none⟩) (by show w.heap.size ≤ w.heap.size + 2; omega) _)
end Go.Proofs.Ytapophggndlhaaa
