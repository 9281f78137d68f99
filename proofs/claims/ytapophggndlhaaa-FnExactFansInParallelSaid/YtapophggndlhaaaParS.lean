/- Contract of two fans side by side, the reference's side (written by mk74e.py out of the text of two fans one behind the other). -/
import Derived.Test.YtapophggndlhaaaSerS
import Derived.Test.YtapophggndlhaaaNb
import Derived.BigRegion
namespace Go.Proofs.Ytapophggndlhaaa
set_option linter.unusedVariables false
set_option linter.unusedSimpArgs false
open Go.RowKit
/-- The flow at the last point made. -/
def lastQ (acc : List (List Int)) : Option Int := acc.getLast?.map fun x => x.getD 0 0
def parQ (ca cb : List (List Int)) (p : Int) : Int := min (lastV ca p + lastV cb p) 100000
def parS (ca cb : List (List Int)) (acc : List (List Int)) (p : Int) : List (List Int) := if lastQ acc = some (parQ ca cb p) then acc else acc ++ [[parQ ca cb p, p]]
/-- The pressures of both, in order, each once. -/
def parF (ca cb : List (List Int)) : List Int := putAll (colL ca 1 ++ colL cb 1)
def parTo (ca cb : List (List Int)) (ps : List Int) : List (List Int) := ps.foldl (parS ca cb) []
def parC (ca cb : List (List Int)) : List (List Int) := parTo ca cb (parF ca cb).reverse
def parCode (sa : ByteArray) (xa : Int) (ca : List (List Int)) (sb : ByteArray) (xb : Int) (cb : List (List Int)) : Int :=
  if fanOk sa xa ca = true ∧ fanOk sb xb cb = true then (if 8 < (parC ca cb).length then 5 else if fanOk sa xa (parC ca cb) = true then 0 else 6) else 1
theorem lastV_bnd (cs : List (List Int)) (p : Int) : 0 ≤ lastV cs p ∧ lastV cs p ≤ 100000 := by
  have h := lastP_bnd cs p
  unfold lastV
  split <;> omega
theorem lastV_max (cs : List (List Int)) (p : Int) : lastV cs p = max 0 (lastP cs p - 1) := by
  have h := lastP_bnd cs p
  unfold lastV
  split <;> omega
theorem parTo_snoc (ca cb : List (List Int)) (ps : List Int) (p : Int) : parTo ca cb (ps ++ [p]) = parS ca cb (parTo ca cb ps) p := by unfold parTo; rw [List.foldl_append]; rfl
theorem parS_y {ca cb acc : List (List Int)} {p : Int} (h : lastQ acc = some (parQ ca cb p)) : parS ca cb acc p = acc := by unfold parS; rw [if_pos h]
theorem parS_n {ca cb acc : List (List Int)} {p : Int} (h : lastQ acc ≠ some (parQ ca cb p)) : parS ca cb acc p = acc ++ [[parQ ca cb p, p]] := by unfold parS; rw [if_neg h]
theorem par_drop {ca cb : List (List Int)} {fs : List Int} {j : Nat} {q : Int} (h : fs[j]? = some q) :
    (lastQ (parTo ca cb (fs.drop (j + 1)).reverse) = some (parQ ca cb q) → parTo ca cb (fs.drop j).reverse = parTo ca cb (fs.drop (j + 1)).reverse) ∧
    (lastQ (parTo ca cb (fs.drop (j + 1)).reverse) ≠ some (parQ ca cb q) → parTo ca cb (fs.drop j).reverse = parTo ca cb (fs.drop (j + 1)).reverse ++ [[parQ ca cb q, q]]) := by
  have e : (fs.drop j).reverse = (fs.drop (j + 1)).reverse ++ [q] := by
    obtain ⟨hj, hq⟩ := List.getElem?_eq_some_iff.1 h
    rw [List.drop_eq_getElem_cons hj, List.reverse_cons, hq]
  rw [e, parTo_snoc]
  exact ⟨parS_y, parS_n⟩
theorem colL_s1 {ls : List (List Int)} {k : Nat} (hk : k < ls.length) (pre : List Int) : putAll (pre ++ (colL ls 1).take (k + 1)) = putL (putAll (pre ++ (colL ls 1).take k)) (lockB ls k) := by
  obtain ⟨x, hx⟩ : ∃ x, ls[k]? = some x := ⟨_, List.getElem?_eq_getElem hk⟩
  have h1 : (colL ls 1)[k]? = some (lockB ls k) := by
    unfold colL
    rw [List.getElem?_map, hx, (lock_row hx).2.2]; rfl
  rw [List.take_add_one, h1, ← List.append_assoc]
  exact putAll_snoc _ _
theorem parF_len {ca cb : List (List Int)} (ha : crvOk ca = true) (hb : crvOk cb = true) : (parF ca cb).length ≤ 16 := by
  have h := putAll_len (colL ca 1 ++ colL cb 1)
  have h1 := (crvOk_t ha).2.1
  have h2 := (crvOk_t hb).2.1
  unfold parF
  rw [List.length_append, colL_len, colL_len] at h
  omega
theorem parF_pos {ca cb : List (List Int)} (ha : crvOk ca = true) : 1 ≤ (parF ca cb).length := by
  have h1 := (crvOk_t ha).1
  have h2 := (putAll_srt (colL ca 1 ++ colL cb 1)).2
  cases hc : colL ca 1 with
  | nil => have := colL_len ca 1; rw [hc] at this; simp at this; omega
  | cons x t =>
    have := (h2 x).2 (by rw [hc]; simp)
    exact List.length_pos_of_mem this
theorem Made.nil {w : World} {lo c : Nat} {A : Option Addr} {cs : List (List Int)} {rs : List Row} (h : Made w lo A 0 c cs rs) : cs = [] := List.eq_nil_of_length_eq_zero h.len
/-- The last point made, in memory. -/
theorem Made.last {w : World} {lo k c : Nat} {A : Option Addr} {cs : List (List Int)} {rs : List Row} (h : Made w lo A (k + 1) c cs rs) :
    ∃ ad ra cc q, A = some ad ∧ w.cell? (ad.add k) = some (.slice (some ra) 2 cc) ∧ w.cell? ra = some (.int .i64 q) ∧ w.cell? (ra.add 0) = some (.int .i64 q) ∧ lastQ cs = some q := by
  obtain ⟨ad, r, e, hx, hc, hr⟩ := h.oss.reads.at_ (k := k) (by omega)
  have h2 := h.two r (List.mem_of_getElem? hx)
  obtain ⟨ra, hA, hn, c0, c0', _⟩ := open_two hr (by have := ints_len hr; omega)
  rw [hA, hn] at hc
  refine ⟨ad, ra, _, r.xs.getD 0 0, e, hc, c0, c0', ?_⟩
  have hd := dat_at hx
  have hl := h.len
  rw [h.dat] at hd
  unfold lastQ
  rw [List.getLast?_eq_getElem?, hl, show k + 1 - 1 = k by omega, hd]
  rfl
theorem news_two (w : World) (x y : Value) : ∀ j u, [Value.slice (some ⟨w.heap.size, 0, none⟩) 2 2][j]? = some u →
    ((w.alloc (.cells #[x, y] 2)).alloc (.cells #[.slice (some ⟨w.heap.size, 0, none⟩) 2 2] 53)).cell? ((⟨w.heap.size + 1, 0, none⟩ : Addr).add j) = some u := news_row w x y
set_option maxHeartbeats 3200000 in
set_option maxRecDepth 100000 in
theorem specFansInParallel_any (sa : ByteArray) (xa : Int) (A : Option Addr) (n c : Nat) (ra : List Row) (sb : ByteArray) (xb : Int) (B : Option Addr) (m d : Nat) (rb : List Row) (w : World) (hsa : sa.size ≤ maxLen) (hra : RSS w w.heap.size A n ra) (hn : n ≤ 1048576) (hran : ∀ r ∈ ra, r.n ≤ 1048576)
    (hsb : sb.size ≤ maxLen) (hrb : RSS w w.heap.size B m rb) (hm : m ≤ 1048576) (hrbn : ∀ r ∈ rb, r.n ≤ 1048576) :
    Calls Try.prog 33 #[.agg #[.string sa, .int .i64 xa, .slice A n c], .agg #[.string sb, .int .i64 xb, .slice B m d]] w
      (fanRet w (okS (parCode sa xa (dat ra) sb xb (dat rb)) sa) (okA (parCode sa xa (dat ra) sb xb (dat rb)) xa) (okC (parCode sa xa (dat ra) sb xb (dat rb)) (parC (dat ra) (dat rb))) (parCode sa xa (dat ra) sb xb (dat rb))) := by
  obtain ⟨i0, hi0, hz0, hz1, hz2⟩ := info_parts info_Int64SS
  have HLa : Hid ((dat ra).length = n) := show (dat ra).length = n by rw [dat_len]; exact hra.len
  have HLb : Hid ((dat rb).length = m) := show (dat rb).length = m by rw [dat_len]; exact hrb.len
  obtain ⟨w0, hw0⟩ : ∃ w0 : World, w0 = ((w.alloc (.cells #[.string sa, .int .i64 xa, .slice A n c] 26)).alloc (.cells #[.string sb, .int .i64 xb, .slice B m d] 26)).alloc (.cells #[.string { data := #[] }, .int .i64 0, .slice none 0 0] 26) := ⟨_, rfl⟩
  have hsz : w0.heap.size = w.heap.size + 3 := by rw [hw0]; simp
  have hb0 : Below w.heap.size w w0 := by rw [hw0]; exact (((Below.refl _ _).alloc (Nat.le_refl _) _).alloc (by simp) _).alloc (by simp; omega) _
  have K0 : Blk w0 w.heap.size 26 #[.string sa, .int .i64 xa, .slice A n c] := by rw [hw0]; exact ((Blk.new w _ _).alloc _).alloc _
  have K1 : Blk w0 (w.heap.size + 1) 26 #[.string sb, .int .i64 xb, .slice B m d] := by
    have h := (Blk.new (w.alloc (.cells #[.string sa, .int .i64 xa, .slice A n c] 26)) 26 #[.string sb, .int .i64 xb, .slice B m d]).alloc (.cells #[.string { data := #[] }, .int .i64 0, .slice none 0 0] 26)
    rw [← hw0] at h
    simpa using h
  have K2 : Blk w0 (w.heap.size + 2) 26 #[.string { data := #[] }, .int .i64 0, .slice none 0 0] := by
    have h := Blk.new ((w.alloc (.cells #[.string sa, .int .i64 xa, .slice A n c] 26)).alloc (.cells #[.string sb, .int .i64 xb, .slice B m d] 26)) 26 #[.string { data := #[] }, .int .i64 0, .slice none 0 0]
    rw [← hw0] at h
    simpa using h
  have hwa : w.heap.size < w0.heap.size := by omega
  have hwb : w.heap.size + 1 < w0.heap.size := by omega
  have hwc : w.heap.size + 2 < w0.heap.size := by omega
  have ca := l06Ok_any sa xa A n c ra ⟨w.heap.size, 0, none⟩ w0 hsa ((hra.below hb0).more hb0.size) hn hran (blk_cells K0)
  have HCB : Hid (∀ W, Below w0.heap.size w0 W → Calls Try.prog 36 #[.pointer (some ⟨w.heap.size + 1, 0, none⟩)] W fun e w' => e = .returned (.bool (fanOk sb xb (dat rb))) ∧ Below W.heap.size W w') := fun W hW =>
    l06Ok_any sb xb B m d rb ⟨w.heap.size + 1, 0, none⟩ W hsb ((hrb.below (hb0.trans (hW.mono hb0.size))).more (hb0.trans (hW.mono hb0.size)).size) hm hrbn (blk_cells (K1.below hW hwb))
  have HK0 := Lib.hid K0
  have HK1 := Lib.hid K1
  have HK2 := Lib.hid K2
  have HW0 := Lib.hid hw0
  have HB0 := Lib.hid hb0
  clear K0 K1 K2 hran hrbn hsz hb0
  rcases Bool.eq_false_or_eq_true (fanOk sa xa (dat ra)) with ka | ka
  · rcases Bool.eq_false_or_eq_true (fanOk sb xb (dat rb)) with kb | kb
    · have HV : Hid (parCode sa xa (dat ra) sb xb (dat rb) = if 8 < (parC (dat ra) (dat rb)).length then 5 else if fanOk sa xa (parC (dat ra) (dat rb)) = true then 0 else 6) := show _ = _ by unfold parCode; rw [if_pos ⟨ka, kb⟩]
      have HOA := Lib.hid (fanOk_t ka).2.2
      have HOB := Lib.hid (fanOk_t kb).2.2
      rw [ka] at ca
      rw [kb] at HCB
      have HCA := Lib.hid ca
      clear ca ka kb
      subst hw0
      go_enter Try.func33, Try.ntmps33
      go_wp2_with fail; ((with_reducible refine HCA.out.mono ?_); rintro e w1 ⟨rfl, hb1⟩)
      go_wp2_with fail; ((with_reducible refine (HCB.out _ hb1).mono ?_); rintro e w2 ⟨rfl, hb2⟩)
      have hb12 := hb1.trans (hb2.mono hb1.size)
      have B2 := HB0.out.trans (hb12.mono HB0.out.size)
      have L0 := Lib.hid (HK0.out.below hb12 hwa)
      have L1 := Lib.hid (HK1.out.below hb12 hwb)
      have L2 := Lib.hid (HK2.out.below hb12 hwc)
      have z2 : w.heap.size + 2 < w2.heap.size := by have := hb12.size; omega
      clear hb1 hb2 hb12 HCA HCB HK0 HK1 HK2 HW0 HB0
      have nb : n ≤ 8 ∧ m ≤ 8 := by
        have h1 := (crvOk_t HOA.out).2.1
        have h2 := (crvOk_t HOB.out).2.1
        have h3 := HLa.out
        have h4 := HLb.out
        omega
      obtain ⟨n8, m8⟩ := nb
      go_wp2
      go_loopw [6, 7] (fun o i wr => ∃ (k N' : Nat) (A' : Option Addr) (c' : Nat), k ≤ n ∧ N' ≤ k ∧ o = .slice A' N' c' ∧ i = .int .i64 k ∧ Hid (wr.ownsRow w2.heap.size 2 1 (.slice A' N' c') N' (ints (putAll ((colL (dat ra) 1).take k)))) ∧ Below w2.heap.size w2 wr) (fun _ i _ => n - (intOf i).toNat)
      case atStart => exact ⟨0, 0, _, 0, by omega, by omega, rfl, rfl, own_empty _ _ _, (Below.refl _ _).alloc (Nat.le_refl _) _⟩
      case round =>
        obtain ⟨k, N', A', c', hk, hN, rfl, rfl, HO, hbr⟩ := hrel
        obtain ⟨wo, rfl⟩ : ∃ wo : World, wo = wr := ⟨_, rfl⟩
        have Bo := B2.trans (hbr.mono B2.size)
        have M0 := L0.out.below hbr (by omega)
        have g2 : wo.cell? ⟨w.heap.size, 2, none⟩ = some (.slice A n c) := (M0.cell 2).trans rfl
        by_cases hlt : k < n
        · obtain ⟨ad, ra1, cc0, rfl, e0, e1, e2, e3⟩ := pt_at hra HOA.out hlt
          have f0 := (Bo.cell (block_lt_of_cell e0)).trans e0
          have f1 := (Bo.cell (block_lt_of_cell e1)).trans e1
          have f2 := (Bo.cell (block_lt_of_cell e2)).trans e2
          have f3 := (Bo.cell (block_lt_of_cell e3)).trans e3
          have hltI : (k : Int) < (n : Int) := by omega
          have HP := Lib.hid (l00Put_any A' N' c' (putAll ((colL (dat ra) 1).take k)) (lockB (dat ra) k) wo (Reads.of_own HO.out) (by omega))
          have hS := colL_s1 (ls := dat ra) (k := k) (by rw [HLa.out]; exact hlt) []
          rw [List.nil_append, List.nil_append] at hS
          rw [← hS] at HP
          have HL1 : Hid ((putAll ((colL (dat ra) 1).take (k + 1))).length ≤ k + 1) := show _ ≤ _ by
            have h := putAll_len ((colL (dat ra) 1).take (k + 1))
            rw [List.length_take] at h; omega
          clear e0 e1 e2 e3 hS M0
          go_wp2_with fail; ((with_reducible refine HP.out.mono ?_); rintro e w3 ⟨A3, N3, c3, rfl, ho3, hb3⟩)
          have hN3 : N3 ≤ k + 1 := by
            have h := ints_len (Reads.of_own ho3)
            have h2 := HL1.out
            omega
          have HO3 := Lib.hid ho3
          clear ho3
          go_wp2
          go_roundw
          case rel => exact ⟨k + 1, N3, A3, c3, by omega, hN3, rfl, by go_num, own_base HO3.out hbr.size, hbr.trans (hb3.mono hbr.size)⟩
          case measure => simp [intOf]; omega
        · have e : k = n := by omega
          have htk : (colL (dat ra) 1).take k = colL (dat ra) 1 := List.take_of_length_le (by rw [colL_len, HLa.out]; omega)
          rw [htk] at HO
          obtain ⟨w3, rfl⟩ : ∃ w3 : World, w3 = wo := ⟨_, rfl⟩
          have hz3 := hbr.size
          clear htk e M0
          go_wp2
          go_loopw [6, 8] (fun o i wr => ∃ (q N2 : Nat) (A2 : Option Addr) (c2 : Nat), q ≤ m ∧ N2 ≤ 8 + q ∧ o = .slice A2 N2 c2 ∧ i = .int .i64 q ∧ Hid (wr.ownsRow w2.heap.size 2 1 (.slice A2 N2 c2) N2 (ints (putAll (colL (dat ra) 1 ++ (colL (dat rb) 1).take q)))) ∧ Below w2.heap.size w2 wr) (fun _ i _ => m - (intOf i).toNat)
          case atStart => exact ⟨0, N', A', c', by omega, by omega, rfl, rfl, (show World.ownsRow _ _ _ _ _ _ _ by rw [List.take_zero, List.append_nil]; exact HO.out), hbr⟩
          case round =>
            clear HO hbr Bo hz3
            obtain ⟨q, N2, A2, c2, hq, hN2, rfl, rfl, HO, hbr⟩ := hrel
            obtain ⟨wo, rfl⟩ : ∃ wo : World, wo = wr := ⟨_, rfl⟩
            have Bo := B2.trans (hbr.mono B2.size)
            have M1 := L1.out.below hbr (by omega)
            have g2 : wo.cell? ⟨w.heap.size + 1, 2, none⟩ = some (.slice B m d) := (M1.cell 2).trans rfl
            by_cases hlt : q < m
            · obtain ⟨ad, rb1, cc0, rfl, e0, e1, e2, e3⟩ := pt_at hrb HOB.out hlt
              have f0 := (Bo.cell (block_lt_of_cell e0)).trans e0
              have f1 := (Bo.cell (block_lt_of_cell e1)).trans e1
              have f2 := (Bo.cell (block_lt_of_cell e2)).trans e2
              have f3 := (Bo.cell (block_lt_of_cell e3)).trans e3
              have hltI : (q : Int) < (m : Int) := by omega
              have HP := Lib.hid (l00Put_any A2 N2 c2 (putAll (colL (dat ra) 1 ++ (colL (dat rb) 1).take q)) (lockB (dat rb) q) wo (Reads.of_own HO.out) (by omega))
              have hS := colL_s1 (ls := dat rb) (k := q) (by rw [HLb.out]; exact hlt) (colL (dat ra) 1)
              rw [← hS] at HP
              have HL1 : Hid ((putAll (colL (dat ra) 1 ++ (colL (dat rb) 1).take (q + 1))).length ≤ 8 + (q + 1)) := show _ ≤ _ by
                have h := putAll_len (colL (dat ra) 1 ++ (colL (dat rb) 1).take (q + 1))
                have h2 := HLa.out
                rw [List.length_append, List.length_take, colL_len] at h; omega
              clear e0 e1 e2 e3 hS M1
              go_wp2_with fail; ((with_reducible refine HP.out.mono ?_); rintro e w4 ⟨A3, N3, c3, rfl, ho3, hb3⟩)
              have hN3 : N3 ≤ 8 + (q + 1) := by
                have h := ints_len (Reads.of_own ho3)
                have h2 := HL1.out
                omega
              have HO3 := Lib.hid ho3
              clear ho3
              go_wp2
              go_roundw
              case rel => exact ⟨q + 1, N3, A3, c3, by omega, hN3, rfl, by go_num, own_base HO3.out hbr.size, hbr.trans (hb3.mono hbr.size)⟩
              case measure => simp [intOf]; omega
            · have htk : (colL (dat rb) 1).take q = colL (dat rb) 1 := List.take_of_length_le (by rw [colL_len, HLb.out]; omega)
              rw [htk] at HO
              have HO4 : Hid (wo.ownsRow w2.heap.size 2 1 (.slice A2 N2 c2) N2 (ints (parF (dat ra) (dat rb)))) := HO.out
              have HFL : Hid ((parF (dat ra) (dat rb)).length = N2) := ints_len (Reads.of_own HO4.out)
              have hN16 : N2 ≤ 16 := by omega
              obtain ⟨w4, rfl⟩ : ∃ w4 : World, w4 = wo := ⟨_, rfl⟩
              have HX0 := Lib.hid (L0.out.below hbr (by omega))
              have HX1 := Lib.hid (L1.out.below hbr (by omega))
              have HX2 := Lib.hid (L2.out.below hbr (by omega))
              have z4 : w.heap.size + 2 < w4.heap.size := by have := hbr.size; omega
              have HRD := Lib.hid (Reads.of_own HO4.out)
              have HCS : Hid (parC (dat ra) (dat rb) = parTo (dat ra) (dat rb) (parF (dat ra) (dat rb)).reverse) := rfl
              have HLA : Hid (∀ (W : World) (x : Int), Below w4.heap.size w4 W → Calls Try.prog 51 #[.pointer (some ⟨w.heap.size, 0, none⟩), .int .i64 x] W fun e w' => e = .returned (.int .i64 (lastP (dat ra) x - 1)) ∧ Below W.heap.size W w') := fun W x hW =>
                l06Last_any A n c ra x ⟨w.heap.size, 0, none⟩ W ((hra.below (Bo.trans (hW.mono Bo.size))).more (Bo.trans (hW.mono Bo.size)).size) HOA.out (((HX0.out.below hW (by omega)).cell 2).trans rfl)
              have HLB : Hid (∀ (W : World) (x : Int), Below w4.heap.size w4 W → Calls Try.prog 51 #[.pointer (some ⟨w.heap.size + 1, 0, none⟩), .int .i64 x] W fun e w' => e = .returned (.int .i64 (lastP (dat rb) x - 1)) ∧ Below W.heap.size W w') := fun W x hW =>
                l06Last_any B m d rb x ⟨w.heap.size + 1, 0, none⟩ W ((hrb.below (Bo.trans (hW.mono Bo.size))).more (Bo.trans (hW.mono Bo.size)).size) HOB.out (((HX1.out.below hW (by omega)).cell 2).trans rfl)
              clear htk HO HO4 hbr L0 L1 L2 M1
              generalize parF (dat ra) (dat rb) = fs at *
              have HST : Hid (parTo (dat ra) (dat rb) (fs.drop N2).reverse = []) := show _ = _ by rw [List.drop_of_length_le (by rw [HFL.out]; exact Nat.le_refl _)]; rfl
              go_wp2
              go_loopw [9, 10] (fun o i wr => ∃ (j k : Nat) (x : Int) (A' : Option Addr) (c' : Nat) (rs' : List Row), j + k ≤ N2 ∧ x = (j : Int) - 1 ∧ o = .slice A' k c' ∧ i = .int .i64 x ∧ Hid (Made wr w4.heap.size A' k c' (parTo (dat ra) (dat rb) (fs.drop j).reverse) rs') ∧ Below w4.heap.size w4 wr) (fun _ i _ => (intOf i + 1).toNat)
              case atStart => exact ⟨N2, 0, (N2 : Int) - 1, _, 0, [], by omega, rfl, rfl, rfl, by rw [HST.out]; exact ⟨⟨own_empty _ _ _, fun r h => by simp at h, List.Pairwise.nil⟩, rfl, fun r h => by simp at h⟩, (Below.refl _ _).alloc (Nat.le_refl _) _⟩
              case round =>
                clear HST
                obtain ⟨j, k, x, A', c', rs', hjk, hx, rfl, rfl, HM, hbr⟩ := hrel
                obtain ⟨wo, rfl⟩ : ∃ wo : World, wo = wr := ⟨_, rfl⟩
                have B5 := Bo.trans (hbr.mono Bo.size)
                by_cases hlt : 0 < j
                · obtain ⟨j, rfl⟩ : ∃ t, j = t + 1 := ⟨j - 1, by omega⟩
                  obtain rfl : x = (j : Int) := by omega
                  clear hx
                  obtain ⟨ad, u, rfl, had, hx4, hc4⟩ := HRD.out.at_ (k := j) (by omega)
                  obtain ⟨q, hq, rfl⟩ := ints_at hx4
                  have hc := (hbr.cell (block_lt_of_cell hc4)).trans hc4
                  have hDR := par_drop (ca := dat ra) (cb := dat rb) hq
                  have HQA : Hid (∀ (s : NB wo), Calls Try.prog 51 #[.pointer (some ⟨w.heap.size, 0, none⟩), .int .i64 q] s.w fun e w' => e = .returned (.int .i64 (lastP (dat ra) q - 1)) ∧ Below s.w.heap.size s.w w') := fun s => HLA.out s.w q (hbr.trans (s.h.mono hbr.size))
                  have HQB : Hid (∀ (s : NB wo), Calls Try.prog 51 #[.pointer (some ⟨w.heap.size + 1, 0, none⟩), .int .i64 q] s.w fun e w' => e = .returned (.int .i64 (lastP (dat rb) q - 1)) ∧ Below s.w.heap.size s.w w') := fun s => HLB.out s.w q (hbr.trans (s.h.mono hbr.size))
                  have HMA : Hid (∀ W : World, Calls Try.prog 63 #[.int .i64 0, .int .i64 (lastP (dat ra) q - 1)] W fun e w' => e = .returned (.int .i64 (lastV (dat ra) q)) ∧ W = w') := fun W => by rw [lastV_max]; exact l00Max_any _ _ _
                  have HMB : Hid (∀ W : World, Calls Try.prog 63 #[.int .i64 0, .int .i64 (lastP (dat rb) q - 1)] W fun e w' => e = .returned (.int .i64 (lastV (dat rb) q)) ∧ W = w') := fun W => by rw [lastV_max]; exact l00Max_any _ _ _
                  have HMN : Hid (∀ W : World, Calls Try.prog 64 #[.int .i64 (lastV (dat ra) q + lastV (dat rb) q), .int .i64 100000] W fun e w' => e = .returned (.int .i64 (parQ (dat ra) (dat rb) q)) ∧ W = w') := fun W => l00Min_any _ _ _
                  have va := lastV_bnd (dat ra) q
                  have vb := lastV_bnd (dat rb) q
                  have pa := lastP_bnd (dat ra) q
                  have pb := lastP_bnd (dat rb) q
                  have hws : IntKind.i64.wrap (lastV (dat ra) q + lastV (dat rb) q) = lastV (dat ra) q + lastV (dat rb) q := IntWalk.i64_in _ (by omega)
                  have HDR := Lib.hid hDR
                  have hjI : (j : Int) < (N2 : Int) := by omega
                  have hj0 : (0 : Int) ≤ (j : Int) := by omega
                  generalize lastP (dat ra) q - 1 = la at *
                  generalize lastP (dat rb) q - 1 = lb at *
                  generalize lastV (dat ra) q = ma at *
                  generalize lastV (dat rb) q = mb at *
                  generalize parQ (dat ra) (dat rb) q = pq at *
                  have hsz := hbr.size
                  have had4 : (ad.add j).block < wo.heap.size := block_lt_of_cell hc
                  clear hx4 hq hDR va vb pa pb HX0 HX1
                  go_wp2
                  have m0 := nb_cell hc had4
                  refine wp_region_nb (by kernel_rfl) (by kernel_rfl) ?_
                  repeat (go_big_quiet_step ((first
                    | (go_at_call 51; first | (with_reducible exact nb_call (HQA.out _)) | (with_reducible exact nb_call (HQB.out _)))
                    | (go_at_call 63; first | (with_reducible exact nb_same (HMA.out _)) | (with_reducible exact nb_same (HMB.out _))))))
                  refine wpQuiet_nil ?_
                  intro w6 hw6
                  have hb6 := nb_out hw6
                  clear hw6 m0
                  have HM6 := Lib.hid (HM.out.below hb6)
                  have hc6 := (hb6.cell had4).trans hc
                  have hbr6 := hbr.trans (hb6.mono hbr.size)
                  have z6 := hb6.size
                  go_wp2_with fail; ((with_reducible refine (HMN.out _).mono ?_); rintro e w' ⟨rfl, rfl⟩)
                  have HAPP : Hid (∀ (w7 : World), ((w6.alloc (.cells #[.int .i64 pq, .int .i64 q] 2)).alloc (.cells #[.slice (some ⟨w6.heap.size, 0, none⟩) 2 2] 53)).grownBy w7 (Value.ownBlock (.slice A' k c')) → Below w4.heap.size w4 w7) := fun w7 hgrow =>
                    ((hbr6.alloc (by omega) _).alloc (by simp; omega) _).grown hgrow (by simp; omega) fun x hx => (HM6.out.oss.out.lt x hx).1
                  have hk16 : k ≤ 16 := by omega
                  have hk8 : k + 1 ≤ maxLen := by unfold maxLen; omega
                  rcases Nat.eq_zero_or_pos k with hk0 | hk0
                  · subst hk0
                    have HSN : Hid (parTo (dat ra) (dat rb) (fs.drop j).reverse = parTo (dat ra) (dat rb) (fs.drop (j + 1)).reverse ++ [[pq, q]]) := HDR.out.2 (by rw [HM.out.nil]; simp [lastQ])
                    go_wp2_with (at_builtin; refine wpList_append_lies _ rfl _ _ 22 rfl w4.heap.size 53 i0 _ 1 24 Try.underlying22 hi0 hz0 hz1 hz2 rfl (by omega) (.slice A' 0 c') 0 (rowsV rs') rfl ((HM6.out.oss.out.alloc _).alloc _) ⟨w6.heap.size + 1, 0, none⟩ 1 1 [.slice (some ⟨w6.heap.size, 0, none⟩) 2 2] rfl rfl (news_two w6 _ _) (by simp [Value.oneCell']) (by omega) (by unfold maxLen; omega) (by omega) (by simp; omega) (w6.heap.size + 2) (by simp) ?_; intro gg cap w7 ho7 hgrow hat hlt7)
                    have HM7 := Lib.hid (HM6.out.app (w := w6) pq q (by omega) ho7 hgrow)
                    have B7 := Lib.hid (HAPP.out _ hgrow)
                    clear ho7 hgrow hat
                    go_wp2
                    go_roundw
                    case rel => exact ⟨j, 1, (j : Int) - 1, _, _, _, by omega, rfl, by first | rfl | go_num, rfl, by rw [HSN.out]; exact HM7.out, B7.out⟩
                    case measure => simp [intOf] <;> omega
                  · obtain ⟨k, rfl⟩ : ∃ t, k = t + 1 := ⟨k - 1, by omega⟩
                    obtain ⟨adl, ral, ccl, ql, rfl, l0, l1, l2, hlq⟩ := HM6.out.last
                    have hwk : IntKind.i64.wrap (((k + 1 : Nat) : Int) - 1) = (k : Int) := by rw [IntWalk.i64_in _ (by omega)]; omega
                    have hkI : (k : Int) < ((k + 1 : Nat) : Int) := by omega
                    by_cases hpq : ql = pq
                    · have HSN : Hid (parTo (dat ra) (dat rb) (fs.drop j).reverse = parTo (dat ra) (dat rb) (fs.drop (j + 1)).reverse) := HDR.out.1 (by rw [hlq, hpq])
                      have hne : (ql != pq) = false := by simp [hpq]
                      clear hlq hpq
                      go_wp2
                      go_roundw
                      case rel => exact ⟨j, k + 1, (j : Int) - 1, _, _, _, by omega, rfl, by first | rfl | go_num, rfl, by rw [HSN.out]; exact HM6.out, hbr6⟩
                      case measure => simp [intOf] <;> omega
                    · have HSN : Hid (parTo (dat ra) (dat rb) (fs.drop j).reverse = parTo (dat ra) (dat rb) (fs.drop (j + 1)).reverse ++ [[pq, q]]) := HDR.out.2 (by rw [hlq]; simpa using hpq)
                      have hne : (ql != pq) = true := by simpa using hpq
                      clear hlq hpq
                      go_wp2_with (at_builtin; refine wpList_append_lies _ rfl _ _ 22 rfl w4.heap.size 53 i0 _ 1 24 Try.underlying22 hi0 hz0 hz1 hz2 rfl (by omega) (.slice (some adl) (k + 1) c') (k + 1) (rowsV rs') rfl ((HM6.out.oss.out.alloc _).alloc _) ⟨w6.heap.size + 1, 0, none⟩ 1 1 [.slice (some ⟨w6.heap.size, 0, none⟩) 2 2] rfl rfl (news_two w6 _ _) (by simp [Value.oneCell']) (by omega) (by unfold maxLen; omega) (by omega) (by simp; omega) (w6.heap.size + 2) (by simp) ?_; intro gg cap w7 ho7 hgrow hat hlt7)
                      have HM7 := Lib.hid (HM6.out.app (w := w6) pq q (by omega) ho7 hgrow)
                      have B7 := Lib.hid (HAPP.out _ hgrow)
                      clear ho7 hgrow hat
                      go_wp2
                      go_roundw
                      case rel => exact ⟨j, k + 1 + 1, (j : Int) - 1, _, _, _, by omega, rfl, by first | rfl | go_num, rfl, by rw [HSN.out]; exact HM7.out, B7.out⟩
                      case measure => simp [intOf] <;> omega
                · obtain rfl : j = 0 := by omega
                  obtain rfl : x = -1 := by omega
                  clear hx
                  have hk16 : k ≤ 16 := by omega
                  have hl := HM.out.len
                  have hD := HM.out.dat
                  rw [List.drop_zero, ← HCS.out] at hl hD
                  have g0 : wo.cell? ⟨w.heap.size, 0, none⟩ = some (.string sa) := ((HX0.out.below hbr (by omega)).cell 0).trans rfl
                  have g1 : wo.cell? ⟨w.heap.size, 0 + 1, none⟩ = some (.int .i64 xa) := ((HX0.out.below hbr (by omega)).cell 1).trans rfl
                  have hz6 := hbr.size
                  by_cases h8 : 8 < k
                  · have HCC : Hid (parCode sa xa (dat ra) sb xb (dat rb) = 5) := show _ = _ by rw [HV.out, if_pos (by omega)]
                    have HCD := Lib.hid (l06Done_full sa xa A' k c' ⟨w.heap.size, 0, none⟩ wo g0 g1 h8)
                    clear hl hD HLA HLB
                    go_wp2_with fail; ((with_reducible refine HCD.out.mono ?_); rintro e w7 ⟨rfl, hb7⟩)
                    have P2 := HX2.out.below (hbr.trans (hb7.mono hbr.size)) (by omega)
                    have e0 := P2.cell 0
                    have e1 := P2.cell 1
                    have e2 := P2.cell 2
                    have r0 := P2.frozen 0
                    have r1 := P2.frozen 1
                    have r2 := P2.frozen 2
                    have B7 : Below w.heap.size w w7 := B5.trans (hb7.mono B5.size)
                    clear P2
                    go_wp2
                    refine bodyPost_ret (v := .tuple #[.agg #[.string ByteArray.empty, .int .i64 0, .slice none 0 0], .int .i64 5]) (by simp [results, Try.results33, go_sem, e0, e1, e2] <;> rfl) rfl ?_
                    rw [HCC.out]
                    exact fanRet_no (((B7.setCell (p := ⟨w.heap.size + 2, 0, none⟩) (by show w.heap.size ≤ w.heap.size + 2; omega) _).setCell (p := ⟨w.heap.size + 2, 1, none⟩) (by show w.heap.size ≤ w.heap.size + 2; omega) _).setCell (p := ⟨w.heap.size + 2, 2, none⟩) (by show w.heap.size ≤ w.heap.size + 2; omega) _)
                  · have HMd := Lib.hid hD
                    have HX := Lib.hid HM.out.oss.reads
                    have HTW := Lib.hid HM.out.two
                    have hk8 : k ≤ 8 := by omega
                    rcases Bool.eq_false_or_eq_true (fanOk sa xa (parC (dat ra) (dat rb))) with k3 | k3
                    · have HCC : Hid (parCode sa xa (dat ra) sb xb (dat rb) = 0) := show _ = _ by rw [HV.out, if_neg (by omega), if_pos k3]
                      have HCD := Lib.hid (l06Done_ok sa xa A' k c' rs' ⟨w.heap.size, 0, none⟩ wo hsa HX.out (by omega) (fun r hr => by rw [HTW.out r hr]; omega) g0 g1 (by rw [HMd.out]; exact k3))
                      have HMS := Lib.hid (HM.out.cast (ds := parC (dat ra) (dat rb)) (by rw [List.drop_zero]; exact HCS.out.symm))
                      clear hl hD k3 HLA HLB
                      go_wp2_with fail; ((with_reducible refine HCD.out.mono ?_); rintro e w7 ⟨rfl, hb7⟩)
                      have P2 := HX2.out.below (hbr.trans (hb7.mono hbr.size)) (by omega)
                      have e0 := P2.cell 0
                      have e1 := P2.cell 1
                      have e2 := P2.cell 2
                      have r0 := P2.frozen 0
                      have r1 := P2.frozen 1
                      have r2 := P2.frozen 2
                      have B7 : Below w.heap.size w w7 := B5.trans (hb7.mono B5.size)
                      clear P2
                      go_wp2
                      refine bodyPost_ret (v := .tuple #[.agg #[.string sa, .int .i64 xa, .slice A' k c'], .int .i64 0]) (by simp [results, Try.results33, go_sem, e0, e1, e2]) rfl ?_
                      rw [HCC.out]
                      show fanRet w sa xa (parC (dat ra) (dat rb)) 0 _ _
                      exact fanRet_put _ _ _ (HMS.out.below hb7) (by omega) B7 (by omega) z4 (by omega)
                    · have HCC : Hid (parCode sa xa (dat ra) sb xb (dat rb) = 6) := show _ = _ by rw [HV.out, if_neg (by omega), if_neg (by rw [k3]; exact Bool.false_ne_true)]
                      have HCD := Lib.hid (l06Done_bad sa xa A' k c' rs' ⟨w.heap.size, 0, none⟩ wo hsa HX.out (by omega) (fun r hr => by rw [HTW.out r hr]; omega) g0 g1 (by omega) (by rw [HMd.out]; exact k3))
                      clear hl hD k3 HLA HLB
                      go_wp2_with fail; ((with_reducible refine HCD.out.mono ?_); rintro e w7 ⟨rfl, hb7⟩)
                      have P2 := HX2.out.below (hbr.trans (hb7.mono hbr.size)) (by omega)
                      have e0 := P2.cell 0
                      have e1 := P2.cell 1
                      have e2 := P2.cell 2
                      have r0 := P2.frozen 0
                      have r1 := P2.frozen 1
                      have r2 := P2.frozen 2
                      have B7 : Below w.heap.size w w7 := B5.trans (hb7.mono B5.size)
                      clear P2
                      go_wp2
                      refine bodyPost_ret (v := .tuple #[.agg #[.string ByteArray.empty, .int .i64 0, .slice none 0 0], .int .i64 6]) (by simp [results, Try.results33, go_sem, e0, e1, e2] <;> rfl) rfl ?_
                      rw [HCC.out]
                      exact fanRet_no (((B7.setCell (p := ⟨w.heap.size + 2, 0, none⟩) (by show w.heap.size ≤ w.heap.size + 2; omega) _).setCell (p := ⟨w.heap.size + 2, 1, none⟩) (by show w.heap.size ≤ w.heap.size + 2; omega) _).setCell (p := ⟨w.heap.size + 2, 2, none⟩) (by show w.heap.size ≤ w.heap.size + 2; omega) _)
    · have HCC : Hid (parCode sa xa (dat ra) sb xb (dat rb) = 1) := show _ = _ by unfold parCode; rw [if_neg (by rw [kb]; simp)]
      rw [ka] at ca
      rw [kb] at HCB
      have HCA := Lib.hid ca
      clear ca
      subst hw0
      go_enter Try.func33, Try.ntmps33
      go_wp2_with fail; ((with_reducible refine HCA.out.mono ?_); rintro e w1 ⟨rfl, hb1⟩)
      go_wp2_with fail; ((with_reducible refine (HCB.out _ hb1).mono ?_); rintro e w2 ⟨rfl, hb2⟩)
      have hb12 := hb1.trans (hb2.mono hb1.size)
      have B2 := HB0.out.trans (hb12.mono HB0.out.size)
      have P2 := HK2.out.below hb12 hwc
      have e0 := P2.cell 0
      have e1 := P2.cell 1
      have e2 := P2.cell 2
      have r0 := P2.frozen 0
      have r1 := P2.frozen 1
      have r2 := P2.frozen 2
      clear P2
      go_wp2
      refine bodyPost_ret (v := .tuple #[.agg #[.string ByteArray.empty, .int .i64 0, .slice none 0 0], .int .i64 1]) (by simp [results, Try.results33, go_sem, e0, e1, e2] <;> rfl) rfl ?_
      rw [HCC.out]
      exact fanRet_no (((B2.setCell (p := ⟨w.heap.size + 2, 0, none⟩) (by show w.heap.size ≤ w.heap.size + 2; omega) _).setCell (p := ⟨w.heap.size + 2, 1, none⟩) (by show w.heap.size ≤ w.heap.size + 2; omega) _).setCell (p := ⟨w.heap.size + 2, 2, none⟩) (by show w.heap.size ≤ w.heap.size + 2; omega) _)
  · have HCC : Hid (parCode sa xa (dat ra) sb xb (dat rb) = 1) := show _ = _ by unfold parCode; rw [if_neg (by rw [ka]; simp)]
    rw [ka] at ca
    have HCA := Lib.hid ca
    clear ca
    subst hw0
    go_enter Try.func33, Try.ntmps33
    go_wp2_with fail; ((with_reducible refine HCA.out.mono ?_); rintro e w1 ⟨rfl, hb1⟩)
    have B2 := HB0.out.trans (hb1.mono HB0.out.size)
    have P2 := HK2.out.below hb1 hwc
    have e0 := P2.cell 0
    have e1 := P2.cell 1
    have e2 := P2.cell 2
    have r0 := P2.frozen 0
    have r1 := P2.frozen 1
    have r2 := P2.frozen 2
    clear P2
    go_wp2
    refine bodyPost_ret (v := .tuple #[.agg #[.string ByteArray.empty, .int .i64 0, .slice none 0 0], .int .i64 1]) (by simp [results, Try.results33, go_sem, e0, e1, e2] <;> rfl) rfl ?_
    rw [HCC.out]
    exact fanRet_no (((B2.setCell (p := ⟨w.heap.size + 2, 0, none⟩) (by show w.heap.size ≤ w.heap.size + 2; omega) _).setCell (p := ⟨w.heap.size + 2, 1, none⟩) (by show w.heap.size ≤ w.heap.size + 2; omega) _).setCell (p := ⟨w.heap.size + 2, 2, none⟩) (by show w.heap.size ≤ w.heap.size + 2; omega) _)
end Go.Proofs.Ytapophggndlhaaa
