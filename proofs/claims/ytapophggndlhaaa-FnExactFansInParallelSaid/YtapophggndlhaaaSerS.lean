/- Contract of two fans one behind the other, the reference's side. -/
import Derived.Test.YtapophggndlhaaaPrsD
import Derived.Test.YtapophggndlhaaaPutC
import Derived.Test.YtapophggndlhaaaSpf
namespace Go.Proofs.Ytapophggndlhaaa
set_option linter.unusedVariables false
set_option linter.unusedSimpArgs false
open Go.RowKit
def colL (ls : List (List Int)) (j : Nat) : List Int := ls.map fun x => x.getD j 0
/-- The flows of both, in order, each once. -/
def serF (ca cb : List (List Int)) : List Int := putAll (colL ca 0 ++ colL cb 0)
def serTo (ca cb : List (List Int)) (fs : List Int) (k : Nat) : List (List Int) := (fs.take k).map fun q => [q, prT ca q + prT cb q]
def serC (ca cb : List (List Int)) : List (List Int) := serTo ca cb (serF ca cb) (serF ca cb).length
def serCode (sa : ByteArray) (xa : Int) (ca : List (List Int)) (sb : ByteArray) (xb : Int) (cb : List (List Int)) : Int :=
  if fanOk sa xa ca = true ∧ fanOk sb xb cb = true then (if 8 < (serC ca cb).length then 5 else if fanOk sa xa (serC ca cb) = true then 0 else 6) else 1
theorem serTo_s {ca cb : List (List Int)} {fs : List Int} {k : Nat} {q : Int} (h : fs[k]? = some q) : serTo ca cb fs (k + 1) = serTo ca cb fs k ++ [[q, prT ca q + prT cb q]] := by
  unfold serTo; rw [List.take_add_one, h]; simp
theorem colL_s {ls : List (List Int)} {k : Nat} (hk : k < ls.length) (pre : List Int) : putAll (pre ++ (colL ls 0).take (k + 1)) = putL (putAll (pre ++ (colL ls 0).take k)) (lockA ls k) := by
  obtain ⟨x, hx⟩ : ∃ x, ls[k]? = some x := ⟨_, List.getElem?_eq_getElem hk⟩
  have h1 : (colL ls 0)[k]? = some (lockA ls k) := by
    unfold colL
    rw [List.getElem?_map, hx, (lock_row hx).2.1]; rfl
  rw [List.take_add_one, h1, ← List.append_assoc]
  exact putAll_snoc _ _
theorem colL_len (ls : List (List Int)) (j : Nat) : (colL ls j).length = ls.length := by unfold colL; simp
theorem colL_mem {cs : List (List Int)} (h : crvOk cs = true) {q : Int} (hq : q ∈ colL cs 0) : 0 ≤ q ∧ q ≤ 100000 := by
  unfold colL at hq
  obtain ⟨x, hx, rfl⟩ := List.mem_map.1 hq
  obtain ⟨k, hk⟩ := List.mem_iff_getElem?.1 hx
  have := (crv_num h (List.getElem?_eq_some_iff.1 hk).1).1
  rw [(lock_row hk).2.1] at this
  exact this
theorem serF_mem {ca cb : List (List Int)} (ha : crvOk ca = true) (hb : crvOk cb = true) {q : Int} (hq : q ∈ serF ca cb) : 0 ≤ q ∧ q ≤ 100000 := by
  rcases List.mem_append.1 (((putAll_srt _).2 q).1 hq) with h | h
  · exact colL_mem ha h
  · exact colL_mem hb h
theorem serF_len {ca cb : List (List Int)} (ha : crvOk ca = true) (hb : crvOk cb = true) : (serF ca cb).length ≤ 16 := by
  have h := putAll_len (colL ca 0 ++ colL cb 0)
  have h1 := (crvOk_t ha).2.1
  have h2 := (crvOk_t hb).2.1
  unfold serF
  rw [List.length_append, colL_len, colL_len] at h
  omega
theorem blk_cells {w : World} {g : Nat} {t : TypeId} {cs : Array Value} (h : Blk w g t cs) : Cells w ⟨g, 0, none⟩ cs.toList := by
  intro i u hu
  have h1 := h.cell i
  rw [← Array.getElem?_toList] at h1
  rw [Addr.add]
  split
  · rename_i hi; subst hi; exact h1.trans hu
  · simpa using h1.trans hu
theorem news_dr (w : World) (N : Nat) (x y : Value) : ∀ j u, [Value.slice (some ⟨w.heap.size, 0, none⟩) 2 2][j]? = some u →
    (((w.drewN N).alloc (.cells #[x, y] 2)).alloc (.cells #[.slice (some ⟨w.heap.size, 0, none⟩) 2 2] 53)).cell? ((⟨w.heap.size + 1, 0, none⟩ : Addr).add j) = some u := news_row w x y
theorem l06Done_full (s : ByteArray) (a : Int) (A : Option Addr) (n c : Nat) (p : Addr) (w : World) (h0 : w.cell? p = some (.string s)) (h1 : w.cell? ⟨p.block, p.off + 1, none⟩ = some (.int .i64 a)) (h8 : 8 < n) :
    Calls Try.prog 38 #[.pointer (some p), .slice A n c] w fun e w' => e = .returned (.tuple #[.agg #[.string ByteArray.empty, .int .i64 0, .slice none 0 0], .int .i64 5]) ∧ Below w.heap.size w w' := by
  have hI : (8 : Int) < (n : Int) := by omega
  go_enter Try.func38, Try.ntmps38
  go_wp2
  refine bodyPost_ret (v := .tuple #[.agg #[.string ByteArray.empty, .int .i64 0, .slice none 0 0], .int .i64 5]) (by simp [results, Try.results38, go_sem] <;> rfl) rfl ⟨rfl, ?_⟩
  repeat (first | exact Below.refl _ _ | (refine Below.alloc ?_ (by first | exact Nat.le_refl _ | (simp; done) | (simp; omega)) _) | (refine Below.setCell ?_ (by first | (simp; done) | (simp; omega)) _))
set_option maxHeartbeats 3200000 in
set_option maxRecDepth 100000 in
theorem specFansInSeries_any (sa : ByteArray) (xa : Int) (A : Option Addr) (n c : Nat) (ra : List Row) (sb : ByteArray) (xb : Int) (B : Option Addr) (m d : Nat) (rb : List Row) (w : World) (hsa : sa.size ≤ maxLen) (hra : RSS w w.heap.size A n ra) (hn : n ≤ 1048576) (hran : ∀ r ∈ ra, r.n ≤ 1048576)
    (hsb : sb.size ≤ maxLen) (hrb : RSS w w.heap.size B m rb) (hm : m ≤ 1048576) (hrbn : ∀ r ∈ rb, r.n ≤ 1048576) :
    Calls Try.prog 31 #[.agg #[.string sa, .int .i64 xa, .slice A n c], .agg #[.string sb, .int .i64 xb, .slice B m d]] w
      (fanRet w (okS (serCode sa xa (dat ra) sb xb (dat rb)) sa) (okA (serCode sa xa (dat ra) sb xb (dat rb)) xa) (okC (serCode sa xa (dat ra) sb xb (dat rb)) (serC (dat ra) (dat rb))) (serCode sa xa (dat ra) sb xb (dat rb))) := by
  obtain ⟨i0, hi0, hz0, hz1, hz2⟩ := info_parts info_Int64SS
  have HLa : Hid ((dat ra).length = n) := show (dat ra).length = n by rw [dat_len]; exact hra.len
  have HLb : Hid ((dat rb).length = m) := show (dat rb).length = m by rw [dat_len]; exact hrb.len
  obtain ⟨w0, hw0⟩ : ∃ w0 : World, w0 = ((w.alloc (.cells #[.string sa, .int .i64 xa, .slice A n c] 26)).alloc (.cells #[.string sb, .int .i64 xb, .slice B m d] 26)).alloc (.cells #[.string { data := #[] }, .int .i64 0, .slice none 0 0] 26) := ⟨_, rfl⟩
  have hsz : w0.heap.size = w.heap.size + 3 := by rw [hw0]; simp
  have hb0 : Below w.heap.size w w0 := by rw [hw0]; exact (((Below.refl _ _).alloc (Nat.le_refl _) _).alloc (by simp) _).alloc (by simp; omega) _
  have K0 : Blk w0 w.heap.size 26 #[.string sa, .int .i64 xa, .slice A n c] := by rw [hw0]; exact ((Blk.new w _ _).alloc _).alloc _
  have K1 : Blk w0 (w.heap.size + 1) 26 #[.string sb, .int .i64 xb, .slice B m d] := by
    have h := (Blk.new (w.alloc (.cells #[.string sa, .int .i64 xa, .slice A n c] 26)) 26 #[.string sb, .int .i64 xb, .slice B m d]).alloc (.cells #[.string { data := #[] }, .int .i64 0, .slice none 0 0] 26)
    rw [← hw0] at h
    simpa using h
  have K2 : Blk w0 (w.heap.size + 2) 26 #[.string { data := #[] }, .int .i64 0, .slice none 0 0] := by
    have h := Blk.new ((w.alloc (.cells #[.string sa, .int .i64 xa, .slice A n c] 26)).alloc (.cells #[.string sb, .int .i64 xb, .slice B m d] 26)) 26 #[.string { data := #[] }, .int .i64 0, .slice none 0 0]
    rw [← hw0] at h
    simpa using h
  have hwa : w.heap.size < w0.heap.size := by omega
  have hwb : w.heap.size + 1 < w0.heap.size := by omega
  have hwc : w.heap.size + 2 < w0.heap.size := by omega
  have ca := l06Ok_any sa xa A n c ra ⟨w.heap.size, 0, none⟩ w0 hsa ((hra.below hb0).more hb0.size) hn hran (blk_cells K0)
  have HCB : Hid (∀ W, Below w0.heap.size w0 W → Calls Try.prog 36 #[.pointer (some ⟨w.heap.size + 1, 0, none⟩)] W fun e w' => e = .returned (.bool (fanOk sb xb (dat rb))) ∧ Below W.heap.size W w') := fun W hW =>
    l06Ok_any sb xb B m d rb ⟨w.heap.size + 1, 0, none⟩ W hsb ((hrb.below (hb0.trans (hW.mono hb0.size))).more (hb0.trans (hW.mono hb0.size)).size) hm hrbn (blk_cells (K1.below hW hwb))
  have HK0 := Lib.hid K0
  have HK1 := Lib.hid K1
  have HK2 := Lib.hid K2
  have HW0 := Lib.hid hw0
  have HB0 := Lib.hid hb0
  clear K0 K1 K2 hran hrbn hsz hb0
  rcases Bool.eq_false_or_eq_true (fanOk sa xa (dat ra)) with ka | ka
  · rcases Bool.eq_false_or_eq_true (fanOk sb xb (dat rb)) with kb | kb
    · have HV : Hid (serCode sa xa (dat ra) sb xb (dat rb) = if 8 < (serC (dat ra) (dat rb)).length then 5 else if fanOk sa xa (serC (dat ra) (dat rb)) = true then 0 else 6) := show _ = _ by unfold serCode; rw [if_pos ⟨ka, kb⟩]
      have HOA := Lib.hid (fanOk_t ka).2.2
      have HOB := Lib.hid (fanOk_t kb).2.2
      rw [ka] at ca
      rw [kb] at HCB
      have HCA := Lib.hid ca
      clear ca ka kb
      subst hw0
      go_enter Try.func31, Try.ntmps31
      go_wp2_with fail; ((with_reducible refine HCA.out.mono ?_); rintro e w1 ⟨rfl, hb1⟩)
      go_wp2_with fail; ((with_reducible refine (HCB.out _ hb1).mono ?_); rintro e w2 ⟨rfl, hb2⟩)
      have hb12 := hb1.trans (hb2.mono hb1.size)
      have B2 := HB0.out.trans (hb12.mono HB0.out.size)
      have L0 := Lib.hid (HK0.out.below hb12 hwa)
      have L1 := Lib.hid (HK1.out.below hb12 hwb)
      have L2 := Lib.hid (HK2.out.below hb12 hwc)
      have z2 : w.heap.size + 2 < w2.heap.size := by have := hb12.size; omega
      clear hb1 hb2 hb12 HCA HCB HK0 HK1 HK2 HW0 HB0
      have nb : n ≤ 8 ∧ m ≤ 8 := by
        have h1 := (crvOk_t HOA.out).2.1
        have h2 := (crvOk_t HOB.out).2.1
        have h3 := HLa.out
        have h4 := HLb.out
        omega
      obtain ⟨n8, m8⟩ := nb
      go_wp2
      go_loopw [6, 7] (fun o i wr => ∃ (k N' : Nat) (A' : Option Addr) (c' : Nat), k ≤ n ∧ N' ≤ k ∧ o = .slice A' N' c' ∧ i = .int .i64 k ∧ Hid (wr.ownsRow w2.heap.size 2 1 (.slice A' N' c') N' (ints (putAll ((colL (dat ra) 0).take k)))) ∧ Below w2.heap.size w2 wr) (fun _ i _ => n - (intOf i).toNat)
      case atStart => exact ⟨0, 0, _, 0, by omega, by omega, rfl, rfl, own_empty _ _ _, (Below.refl _ _).alloc (Nat.le_refl _) _⟩
      case round =>
        obtain ⟨k, N', A', c', hk, hN, rfl, rfl, HO, hbr⟩ := hrel
        obtain ⟨wo, rfl⟩ : ∃ wo : World, wo = wr := ⟨_, rfl⟩
        have Bo := B2.trans (hbr.mono B2.size)
        have M0 := L0.out.below hbr (by omega)
        have g2 : wo.cell? ⟨w.heap.size, 2, none⟩ = some (.slice A n c) := (M0.cell 2).trans rfl
        by_cases hlt : k < n
        · obtain ⟨ad, ra1, cc0, rfl, e0, e1, e2, e3⟩ := pt_at hra HOA.out hlt
          have f0 := (Bo.cell (block_lt_of_cell e0)).trans e0
          have f1 := (Bo.cell (block_lt_of_cell e1)).trans e1
          have f2 := (Bo.cell (block_lt_of_cell e2)).trans e2
          have hltI : (k : Int) < (n : Int) := by omega
          have HP := Lib.hid (l00Put_any A' N' c' (putAll ((colL (dat ra) 0).take k)) (lockA (dat ra) k) wo (Reads.of_own HO.out) (by omega))
          have hS := colL_s (ls := dat ra) (k := k) (by rw [HLa.out]; exact hlt) []
          rw [List.nil_append, List.nil_append] at hS
          rw [← hS] at HP
          have HL1 : Hid ((putAll ((colL (dat ra) 0).take (k + 1))).length ≤ k + 1) := show _ ≤ _ by
            have h := putAll_len ((colL (dat ra) 0).take (k + 1))
            rw [List.length_take] at h; omega
          clear e0 e1 e2 e3 hS M0
          go_wp2_with fail; ((with_reducible refine HP.out.mono ?_); rintro e w3 ⟨A3, N3, c3, rfl, ho3, hb3⟩)
          have hN3 : N3 ≤ k + 1 := by
            have h := ints_len (Reads.of_own ho3)
            have h2 := HL1.out
            omega
          have HO3 := Lib.hid ho3
          clear ho3
          go_wp2
          go_roundw
          case rel => exact ⟨k + 1, N3, A3, c3, by omega, hN3, rfl, by go_num, own_base HO3.out hbr.size, hbr.trans (hb3.mono hbr.size)⟩
          case measure => simp [intOf]; omega
        · have e : k = n := by omega
          have htk : (colL (dat ra) 0).take k = colL (dat ra) 0 := List.take_of_length_le (by rw [colL_len, HLa.out]; omega)
          rw [htk] at HO
          obtain ⟨w3, rfl⟩ : ∃ w3 : World, w3 = wo := ⟨_, rfl⟩
          have hz3 := hbr.size
          clear htk e M0
          go_wp2
          go_loopw [6, 8] (fun o i wr => ∃ (q N2 : Nat) (A2 : Option Addr) (c2 : Nat), q ≤ m ∧ N2 ≤ 8 + q ∧ o = .slice A2 N2 c2 ∧ i = .int .i64 q ∧ Hid (wr.ownsRow w2.heap.size 2 1 (.slice A2 N2 c2) N2 (ints (putAll (colL (dat ra) 0 ++ (colL (dat rb) 0).take q)))) ∧ Below w2.heap.size w2 wr) (fun _ i _ => m - (intOf i).toNat)
          case atStart => exact ⟨0, N', A', c', by omega, by omega, rfl, rfl, (show World.ownsRow _ _ _ _ _ _ _ by rw [List.take_zero, List.append_nil]; exact HO.out), hbr⟩
          case round =>
            clear HO hbr Bo hz3
            obtain ⟨q, N2, A2, c2, hq, hN2, rfl, rfl, HO, hbr⟩ := hrel
            obtain ⟨wo, rfl⟩ : ∃ wo : World, wo = wr := ⟨_, rfl⟩
            have Bo := B2.trans (hbr.mono B2.size)
            have M1 := L1.out.below hbr (by omega)
            have g2 : wo.cell? ⟨w.heap.size + 1, 2, none⟩ = some (.slice B m d) := (M1.cell 2).trans rfl
            by_cases hlt : q < m
            · obtain ⟨ad, rb1, cc0, rfl, e0, e1, e2, e3⟩ := pt_at hrb HOB.out hlt
              have f0 := (Bo.cell (block_lt_of_cell e0)).trans e0
              have f1 := (Bo.cell (block_lt_of_cell e1)).trans e1
              have f2 := (Bo.cell (block_lt_of_cell e2)).trans e2
              have hltI : (q : Int) < (m : Int) := by omega
              have HP := Lib.hid (l00Put_any A2 N2 c2 (putAll (colL (dat ra) 0 ++ (colL (dat rb) 0).take q)) (lockA (dat rb) q) wo (Reads.of_own HO.out) (by omega))
              have hS := colL_s (ls := dat rb) (k := q) (by rw [HLb.out]; exact hlt) (colL (dat ra) 0)
              rw [← hS] at HP
              have HL1 : Hid ((putAll (colL (dat ra) 0 ++ (colL (dat rb) 0).take (q + 1))).length ≤ 8 + (q + 1)) := show _ ≤ _ by
                have h := putAll_len (colL (dat ra) 0 ++ (colL (dat rb) 0).take (q + 1))
                have h2 := HLa.out
                rw [List.length_append, List.length_take, colL_len] at h; omega
              clear e0 e1 e2 e3 hS M1
              go_wp2_with fail; ((with_reducible refine HP.out.mono ?_); rintro e w4 ⟨A3, N3, c3, rfl, ho3, hb3⟩)
              have hN3 : N3 ≤ 8 + (q + 1) := by
                have h := ints_len (Reads.of_own ho3)
                have h2 := HL1.out
                omega
              have HO3 := Lib.hid ho3
              clear ho3
              go_wp2
              go_roundw
              case rel => exact ⟨q + 1, N3, A3, c3, by omega, hN3, rfl, by go_num, own_base HO3.out hbr.size, hbr.trans (hb3.mono hbr.size)⟩
              case measure => simp [intOf]; omega
            · have htk : (colL (dat rb) 0).take q = colL (dat rb) 0 := List.take_of_length_le (by rw [colL_len, HLb.out]; omega)
              rw [htk] at HO
              have HO4 : Hid (wo.ownsRow w2.heap.size 2 1 (.slice A2 N2 c2) N2 (ints (serF (dat ra) (dat rb)))) := HO.out
              have HFL : Hid ((serF (dat ra) (dat rb)).length = N2) := ints_len (Reads.of_own HO4.out)
              have hN16 : N2 ≤ 16 := by omega
              have HMEM := Lib.hid (fun q h => serF_mem HOA.out HOB.out (q := q) h)
              obtain ⟨w4, rfl⟩ : ∃ w4 : World, w4 = wo := ⟨_, rfl⟩
              have HX0 := Lib.hid (L0.out.below hbr (by omega))
              have HX1 := Lib.hid (L1.out.below hbr (by omega))
              have HX2 := Lib.hid (L2.out.below hbr (by omega))
              have z4 : w.heap.size + 2 < w4.heap.size := by have := hbr.size; omega
              have HRD := Lib.hid (Reads.of_own HO4.out)
              have HCS : Hid (serC (dat ra) (dat rb) = serTo (dat ra) (dat rb) (serF (dat ra) (dat rb)) N2) := show _ = _ by unfold serC; rw [HFL.out]
              have HPA : Hid (∀ (W : World) (x : Int), Below w4.heap.size w4 W → 0 ≤ x ∧ x ≤ 100000 → Calls Try.prog 46 #[.pointer (some ⟨w.heap.size, 0, none⟩), .int .i64 x] W fun e w' => e = .returned (.int .i64 (prT (dat ra) x)) ∧ ∃ m, w' = W.drewN m) := fun W x hW hx =>
                l06Pressure_dr A n c ra x ⟨w.heap.size, 0, none⟩ W ((hra.below (Bo.trans (hW.mono Bo.size))).more (Bo.trans (hW.mono Bo.size)).size) HOA.out (by omega) (((HX0.out.below hW (by omega)).cell 2).trans rfl)
              have HPB : Hid (∀ (W : World) (x : Int), Below w4.heap.size w4 W → 0 ≤ x ∧ x ≤ 100000 → Calls Try.prog 46 #[.pointer (some ⟨w.heap.size + 1, 0, none⟩), .int .i64 x] W fun e w' => e = .returned (.int .i64 (prT (dat rb) x)) ∧ ∃ m, w' = W.drewN m) := fun W x hW hx =>
                l06Pressure_dr B m d rb x ⟨w.heap.size + 1, 0, none⟩ W ((hrb.below (Bo.trans (hW.mono Bo.size))).more (Bo.trans (hW.mono Bo.size)).size) HOB.out (by omega) (((HX1.out.below hW (by omega)).cell 2).trans rfl)
              clear htk HO HO4 hbr L0 L1 L2 M1
              generalize serF (dat ra) (dat rb) = fs at *
              go_wp2
              go_loopw [9, 10] (fun o i wr => ∃ (k : Nat) (A' : Option Addr) (c' : Nat) (rs' : List Row), k ≤ N2 ∧ o = .slice A' k c' ∧ i = .int .i64 k ∧ Hid (Made wr w4.heap.size A' k c' (serTo (dat ra) (dat rb) fs k) rs') ∧ Below w4.heap.size w4 wr) (fun _ i _ => N2 - (intOf i).toNat)
              case atStart => exact ⟨0, _, 0, [], by omega, rfl, rfl, ⟨⟨own_empty _ _ _, fun r h => by simp at h, List.Pairwise.nil⟩, rfl, fun r h => by simp at h⟩, (Below.refl _ _).alloc (Nat.le_refl _) _⟩
              case round =>
                obtain ⟨k, A', c', rs', hk, rfl, rfl, HM, hbr⟩ := hrel
                obtain ⟨wo, rfl⟩ : ∃ wo : World, wo = wr := ⟨_, rfl⟩
                have B5 := Bo.trans (hbr.mono Bo.size)
                by_cases hlt : k < N2
                · obtain ⟨ad, u, rfl, had, hx, hc4⟩ := HRD.out.at_ hlt
                  obtain ⟨q, hq, rfl⟩ := ints_at hx
                  have hc := (hbr.cell (block_lt_of_cell hc4)).trans hc4
                  have hqb := HMEM.out q (mem_of_at hq)
                  have hSn := serTo_s (ca := dat ra) (cb := dat rb) hq
                  have pab := prT_bnd HOA.out q
                  have pbb := prT_bnd HOB.out q
                  have HQA : Hid (∀ (W : World), Below w4.heap.size w4 W → Calls Try.prog 46 #[.pointer (some ⟨w.heap.size, 0, none⟩), .int .i64 q] W fun e w' => e = .returned (.int .i64 (prT (dat ra) q)) ∧ ∃ m, w' = W.drewN m) := fun W hW => HPA.out W q hW hqb
                  have HQB : Hid (∀ (W : World), Below w4.heap.size w4 W → Calls Try.prog 46 #[.pointer (some ⟨w.heap.size + 1, 0, none⟩), .int .i64 q] W fun e w' => e = .returned (.int .i64 (prT (dat rb) q)) ∧ ∃ m, w' = W.drewN m) := fun W hW => HPB.out W q hW hqb
                  have HSN := Lib.hid hSn
                  have hws : IntKind.i64.wrap (prT (dat ra) q + prT (dat rb) q) = prT (dat ra) q + prT (dat rb) q := IntWalk.i64_in _ (by omega)
                  have hkI : (k : Int) < (N2 : Int) := by omega
                  have hadk : (ad.add k).block < w4.heap.size := by rw [block_of_add]; exact had
                  have hbd := below_drew hbr
                  generalize prT (dat ra) q = pa at *
                  generalize prT (dat rb) q = pb at *
                  have hsz := hbr.size
                  clear hx hq hSn pab pbb hqb
                  go_wp2
                  have HWB : Hid (∀ N, Below w4.heap.size w4 (((wo.drewN N).alloc (.cells #[.int .i64 q, .int .i64 (pa + pb)] 2)).alloc (.cells #[.slice (some ⟨wo.heap.size, 0, none⟩) 2 2] 53))) := fun N => ((below_drewN hbr N).alloc hsz _).alloc (by simp; omega) _
                  have HWO : Hid (∀ N, (((wo.drewN N).alloc (.cells #[.int .i64 q, .int .i64 (pa + pb)] 2)).alloc (.cells #[.slice (some ⟨wo.heap.size, 0, none⟩) 2 2] 53)).ownsRow w4.heap.size 53 1 (.slice A' k c') k (rowsV rs')) := fun N => ((own_drewN HM.out.oss.out N).alloc _).alloc _
                  have HNW := Lib.hid (fun N => news_dr wo N (.int .i64 q) (.int .i64 (pa + pb)))
                  have HGR : Hid (∀ (N : Nat) (w6 : World), (((wo.drewN N).alloc (.cells #[.int .i64 q, .int .i64 (pa + pb)] 2)).alloc (.cells #[.slice (some ⟨wo.heap.size, 0, none⟩) 2 2] 53)).grownBy w6 (Value.ownBlock (.slice A' k c')) → Below w4.heap.size w4 w6) := fun N w6 hgrow =>
                    (HWB.out N).grown hgrow (by simp; omega) fun x hx => ((HWO.out N).lt x hx).1
                  have hk16 : k ≤ 16 := by omega
                  go_region_held3 (fun w' => w'.cell? (ad.add k) = some (.int .i64 q))
                    (first | go_keep | (exact ((HGR.out _ _ hgrow).cell (block_lt_of_cell hc4)).trans hc4))
                    ((first
                      | (refine step_append_lies _ (by rfl) _ _ _ (by rfl) w4.heap.size 53 i0 _ 1 24 Try.underlying22 hi0 hz0 hz1 hz2 rfl (by omega) (.slice A' k c') k (rowsV rs') (by rfl) (HWO.out _) ⟨wo.heap.size + 1, 0, none⟩ 1 1 [.slice (some ⟨wo.heap.size, 0, none⟩) 2 2] (by rfl) (by rfl) (HNW.out _) (by simp [Value.oneCell']) (by omega) (by unfold maxLen; omega) (by omega) (by simp; omega) (wo.heap.size + 2) (by simp) ?_; intro gg cap w6 ho6 hgrow hat hlt6)
                      | (go_at_call 46; with_reducible refine (HQA.out _ (by first | exact hbd | exact below_drewN hbr _)).mono ?_; rintro e w' ⟨rfl, n1, rfl⟩)
                      | (go_at_call 46; with_reducible refine (HQB.out _ (by first | exact hbd | exact below_drewN hbr _)).mono ?_; rintro e w' ⟨rfl, n2, rfl⟩)))
                  have HM6 := Lib.hid (HM.out.app (w := wo) q (pa + pb) hsz ho6 ⟨hgrow.os, hgrow.tape, hgrow.output, hgrow.size, hgrow.block⟩)
                  have B6 := Lib.hid (HGR.out _ _ hgrow)
                  clear ho6 hgrow hat
                  go_wp2
                  go_roundw
                  case rel => exact ⟨k + 1, _, _, _, by omega, by first | rfl | go_num, by go_num, by rw [HSN.out]; exact HM6.out, B6.out⟩
                  case measure => simp [intOf]; omega
                · have e : k = N2 := by omega
                  subst e
                  have hl := HM.out.len
                  have hD := HM.out.dat
                  rw [← HCS.out] at hl hD
                  have g0 : wo.cell? ⟨w.heap.size, 0, none⟩ = some (.string sa) := ((HX0.out.below hbr (by omega)).cell 0).trans rfl
                  have g1 : wo.cell? ⟨w.heap.size, 0 + 1, none⟩ = some (.int .i64 xa) := ((HX0.out.below hbr (by omega)).cell 1).trans rfl
                  have hz6 := hbr.size
                  by_cases h8 : 8 < k
                  · have HCC : Hid (serCode sa xa (dat ra) sb xb (dat rb) = 5) := show _ = _ by rw [HV.out, if_pos (by omega)]
                    have HCD := Lib.hid (l06Done_full sa xa A' k c' ⟨w.heap.size, 0, none⟩ wo g0 g1 h8)
                    clear hl hD HPA HPB HMEM
                    go_wp2_with fail; ((with_reducible refine HCD.out.mono ?_); rintro e w7 ⟨rfl, hb7⟩)
                    have P2 := HX2.out.below (hbr.trans (hb7.mono hbr.size)) (by omega)
                    have e0 := P2.cell 0
                    have e1 := P2.cell 1
                    have e2 := P2.cell 2
                    have r0 := P2.frozen 0
                    have r1 := P2.frozen 1
                    have r2 := P2.frozen 2
                    have B7 : Below w.heap.size w w7 := B5.trans (hb7.mono B5.size)
                    clear P2
                    go_wp2
                    refine bodyPost_ret (v := .tuple #[.agg #[.string ByteArray.empty, .int .i64 0, .slice none 0 0], .int .i64 5]) (by simp [results, Try.results31, go_sem, e0, e1, e2] <;> rfl) rfl ?_
                    rw [HCC.out]
                    exact fanRet_no (((B7.setCell (p := ⟨w.heap.size + 2, 0, none⟩) (by show w.heap.size ≤ w.heap.size + 2; omega) _).setCell (p := ⟨w.heap.size + 2, 1, none⟩) (by show w.heap.size ≤ w.heap.size + 2; omega) _).setCell (p := ⟨w.heap.size + 2, 2, none⟩) (by show w.heap.size ≤ w.heap.size + 2; omega) _)
                  · have HMd := Lib.hid hD
                    have HX := Lib.hid HM.out.oss.reads
                    have HTW := Lib.hid HM.out.two
                    have hk8 : k ≤ 8 := by omega
                    rcases Bool.eq_false_or_eq_true (fanOk sa xa (serC (dat ra) (dat rb))) with k3 | k3
                    · have HCC : Hid (serCode sa xa (dat ra) sb xb (dat rb) = 0) := show _ = _ by rw [HV.out, if_neg (by omega), if_pos k3]
                      have HCD := Lib.hid (l06Done_ok sa xa A' k c' rs' ⟨w.heap.size, 0, none⟩ wo hsa HX.out (by omega) (fun r hr => by rw [HTW.out r hr]; omega) g0 g1 (by rw [HMd.out]; exact k3))
                      have HMS := Lib.hid (HM.out.cast HCS.out.symm)
                      clear hl hD k3 HPA HPB HMEM
                      go_wp2_with fail; ((with_reducible refine HCD.out.mono ?_); rintro e w7 ⟨rfl, hb7⟩)
                      have P2 := HX2.out.below (hbr.trans (hb7.mono hbr.size)) (by omega)
                      have e0 := P2.cell 0
                      have e1 := P2.cell 1
                      have e2 := P2.cell 2
                      have r0 := P2.frozen 0
                      have r1 := P2.frozen 1
                      have r2 := P2.frozen 2
                      have B7 : Below w.heap.size w w7 := B5.trans (hb7.mono B5.size)
                      clear P2
                      go_wp2
                      refine bodyPost_ret (v := .tuple #[.agg #[.string sa, .int .i64 xa, .slice A' k c'], .int .i64 0]) (by simp [results, Try.results31, go_sem, e0, e1, e2]) rfl ?_
                      rw [HCC.out]
                      show fanRet w sa xa (serC (dat ra) (dat rb)) 0 _ _
                      exact fanRet_put _ _ _ (HMS.out.below hb7) (by omega) B7 (by omega) z4 (by omega)
                    · have HCC : Hid (serCode sa xa (dat ra) sb xb (dat rb) = 6) := show _ = _ by rw [HV.out, if_neg (by omega), if_neg (by rw [k3]; exact Bool.false_ne_true)]
                      have HCD := Lib.hid (l06Done_bad sa xa A' k c' rs' ⟨w.heap.size, 0, none⟩ wo hsa HX.out (by omega) (fun r hr => by rw [HTW.out r hr]; omega) g0 g1 (by omega) (by rw [HMd.out]; exact k3))
                      clear hl hD k3 HPA HPB HMEM
                      go_wp2_with fail; ((with_reducible refine HCD.out.mono ?_); rintro e w7 ⟨rfl, hb7⟩)
                      have P2 := HX2.out.below (hbr.trans (hb7.mono hbr.size)) (by omega)
                      have e0 := P2.cell 0
                      have e1 := P2.cell 1
                      have e2 := P2.cell 2
                      have r0 := P2.frozen 0
                      have r1 := P2.frozen 1
                      have r2 := P2.frozen 2
                      have B7 : Below w.heap.size w w7 := B5.trans (hb7.mono B5.size)
                      clear P2
                      go_wp2
                      refine bodyPost_ret (v := .tuple #[.agg #[.string ByteArray.empty, .int .i64 0, .slice none 0 0], .int .i64 6]) (by simp [results, Try.results31, go_sem, e0, e1, e2] <;> rfl) rfl ?_
                      rw [HCC.out]
                      exact fanRet_no (((B7.setCell (p := ⟨w.heap.size + 2, 0, none⟩) (by show w.heap.size ≤ w.heap.size + 2; omega) _).setCell (p := ⟨w.heap.size + 2, 1, none⟩) (by show w.heap.size ≤ w.heap.size + 2; omega) _).setCell (p := ⟨w.heap.size + 2, 2, none⟩) (by show w.heap.size ≤ w.heap.size + 2; omega) _)
    · have HCC : Hid (serCode sa xa (dat ra) sb xb (dat rb) = 1) := show _ = _ by unfold serCode; rw [if_neg (by rw [kb]; simp)]
      rw [ka] at ca
      rw [kb] at HCB
      have HCA := Lib.hid ca
      clear ca
      subst hw0
      go_enter Try.func31, Try.ntmps31
      go_wp2_with fail; ((with_reducible refine HCA.out.mono ?_); rintro e w1 ⟨rfl, hb1⟩)
      go_wp2_with fail; ((with_reducible refine (HCB.out _ hb1).mono ?_); rintro e w2 ⟨rfl, hb2⟩)
      have hb12 := hb1.trans (hb2.mono hb1.size)
      have B2 := HB0.out.trans (hb12.mono HB0.out.size)
      have P2 := HK2.out.below hb12 hwc
      have e0 := P2.cell 0
      have e1 := P2.cell 1
      have e2 := P2.cell 2
      have r0 := P2.frozen 0
      have r1 := P2.frozen 1
      have r2 := P2.frozen 2
      clear P2
      go_wp2
      refine bodyPost_ret (v := .tuple #[.agg #[.string ByteArray.empty, .int .i64 0, .slice none 0 0], .int .i64 1]) (by simp [results, Try.results31, go_sem, e0, e1, e2] <;> rfl) rfl ?_
      rw [HCC.out]
      exact fanRet_no (((B2.setCell (p := ⟨w.heap.size + 2, 0, none⟩) (by show w.heap.size ≤ w.heap.size + 2; omega) _).setCell (p := ⟨w.heap.size + 2, 1, none⟩) (by show w.heap.size ≤ w.heap.size + 2; omega) _).setCell (p := ⟨w.heap.size + 2, 2, none⟩) (by show w.heap.size ≤ w.heap.size + 2; omega) _)
  · have HCC : Hid (serCode sa xa (dat ra) sb xb (dat rb) = 1) := show _ = _ by unfold serCode; rw [if_neg (by rw [ka]; simp)]
    rw [ka] at ca
    have HCA := Lib.hid ca
    clear ca
    subst hw0
    go_enter Try.func31, Try.ntmps31
    go_wp2_with fail; ((with_reducible refine HCA.out.mono ?_); rintro e w1 ⟨rfl, hb1⟩)
    have B2 := HB0.out.trans (hb1.mono HB0.out.size)
    have P2 := HK2.out.below hb1 hwc
    have e0 := P2.cell 0
    have e1 := P2.cell 1
    have e2 := P2.cell 2
    have r0 := P2.frozen 0
    have r1 := P2.frozen 1
    have r2 := P2.frozen 2
    clear P2
    go_wp2
    refine bodyPost_ret (v := .tuple #[.agg #[.string ByteArray.empty, .int .i64 0, .slice none 0 0], .int .i64 1]) (by simp [results, Try.results31, go_sem, e0, e1, e2] <;> rfl) rfl ?_
    rw [HCC.out]
    exact fanRet_no (((B2.setCell (p := ⟨w.heap.size + 2, 0, none⟩) (by show w.heap.size ≤ w.heap.size + 2; omega) _).setCell (p := ⟨w.heap.size + 2, 1, none⟩) (by show w.heap.size ≤ w.heap.size + 2; omega) _).setCell (p := ⟨w.heap.size + 2, 2, none⟩) (by show w.heap.size ≤ w.heap.size + 2; omega) _)
end Go.Proofs.Ytapophggndlhaaa
