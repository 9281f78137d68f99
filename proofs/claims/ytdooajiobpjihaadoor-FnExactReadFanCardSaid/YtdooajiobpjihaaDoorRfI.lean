/- Contract of the reading of fans, the program's side. -/
import Derived.Test.YtdooajiobpjihaaDoorRfS
namespace Go.Proofs.YtdooajiobpjihaaDoor
set_option linter.unusedVariables false
set_option linter.unusedSimpArgs false
open Go.RowKit
theorem SplitN_own (s : ByteArray) (c : UInt8) (n : Nat) (ni : Int) (hni : (n : Int) = ni) (w : World) (hs : s.size ≤ 1048576) (h1 : 1 ≤ n) (h2 : n ≤ 1000) (ht : Lib3 w) :
    Calls Tryd.prog 51 #[.string s, .string ⟨#[c]⟩, .int .i64 ni] w fun e w' => ∃ (g m d : Nat), e = .returned (.slice (some ⟨g, 0, none⟩) m d) ∧ (∀ j u, (strB (Lib.splitK [c] 0 (min n (s.data.toList.length + 1) - 1) s.data.toList))[j]? = some u → w'.cell? ⟨g, j, none⟩ = some u) ∧ g < w'.heap.size ∧ m ≤ d ∧ Hid ((Lib.splitK [c] 0 (min n (s.data.toList.length + 1) - 1) s.data.toList).length = m) ∧ m ≤ 1000 ∧ Below w.heap.size w w' := by
  subst hni
  obtain ⟨ml, hml⟩ := ht.ml
  have hc := Tryd.strings_SplitN s ⟨#[c]⟩ n ml w (by omega) hml (Nat.le_refl 1) h1 (by omega)
  have hsz : s.size = s.data.toList.length := (blen s).symm
  rw [splitB_mk, hsz] at hc
  refine hc.mono fun e w' ⟨he, hw⟩ => ?_
  have hl := splitK_len c (min n (s.data.toList.length + 1) - 1) s.data.toList
  have h3 : 1 ≤ min n (s.data.toList.length + 1) := by omega
  have h4 : min n (s.data.toList.length + 1) ≤ 1000 := by omega
  generalize Lib.splitK [c] 0 (min n (s.data.toList.length + 1) - 1) s.data.toList = qs at *
  generalize min n (s.data.toList.length + 1) = N at *
  have hN : qs.length ≤ N := by omega
  have hmap : (qs.map fun p => (⟨p.toArray⟩ : ByteArray)).map Value.string = strB qs := by rw [List.map_map]; rfl
  subst hw
  refine ⟨w.heap.size, qs.length, N, by rw [he, List.length_map], fun j u hu => ?_, by simp, hN, rfl, by omega, (Below.refl _ _).alloc (Nat.le_refl _) _⟩
  rw [(Blk.new w 9 (Lib.cellsOf (qs.map fun p => (⟨p.toArray⟩ : ByteArray)) N)).cell j]
  unfold Lib.cellsOf
  rw [hmap]
  have hj := (List.getElem?_eq_some_iff.1 hu).1
  rw [← Array.getElem?_toList, List.getElem?_append_left (by simpa using hj)]
  exact hu
set_option maxHeartbeats 6400000 in
set_option maxRecDepth 100000 in
theorem implReadFan_any (s : ByteArray) (w : World) (_ : s.size ≤ maxLen) (hs : s.size ≤ 1048576) (ht : Lib3 w) :
    Calls Tryd.prog 29 #[.string s] w (rfPost w s.data.toList) := by
  have HK0 := Lib.hid (Blk.new w 38 #[Value.string { data := #[] }, .int .i64 0, .slice none 0 0])
  have hb0 : Below w.heap.size w (w.alloc (.cells #[Value.string { data := #[] }, .int .i64 0, .slice none 0 0] 38)) := (Below.refl _ _).alloc (Nat.le_refl _) _
  have HS := Lib.hid (SplitN_own s 32 11 11 rfl _ hs (by omega) (by omega) (lib3_below ht hb0))
  have HT3 := Lib.hid (fun W (h : Below w.heap.size w W) => lib3_below ht h)
  obtain ⟨i0, hi0, hz0, hz1, hz2⟩ := info_parts info_Int64SS
  have HLB := Lib.hid (blen s)
  have HSH := Lib.hid (fun h => pf_short (l := s.data.toList) h)
  have HNUM := Lib.hid (fun t h1 h2 => pf_num (l := s.data.toList) (t := t) h1 h2)
  have HPT := Lib.hid (fun k x h1 h2 => pf_pt (l := s.data.toList) (w := x) (k := k) h1 h2)
  have HYES := Lib.hid (fun p t ws a h1 h2 h3 => pf_yes (l := s.data.toList) (p := p) (t := t) (ws := ws) (a := a) h1 h2 h3)
  have HNO := Lib.hid (fun p t ws a h1 h2 h3 => pf_no (l := s.data.toList) (p := p) (t := t) (ws := ws) (a := a) h1 h2 h3)
  have HSZ : Hid (∀ q ∈ Lib.splitK [32] 0 (min 11 (s.data.toList.length + 1) - 1) s.data.toList, q.length ≤ s.size) := fun q hq => by
    have := splitK_size _ _ q hq; rw [HLB.out] at this; exact this
  generalize Lib.splitK [32] 0 (min 11 (s.data.toList.length + 1) - 1) s.data.toList = qs at *
  clear ht
  go_enter Tryd.func29, Tryd.ntmps29
  go_wp2_with fail; ((with_reducible refine HS.out.mono ?_); rintro e w2 ⟨g, m, d, rfl, hcells, hg, hmd, HN, hm, hb2⟩)
  have K1 := HK0.out.below hb2 (by simp)
  have HK1 := Lib.hid K1
  have hB2 := hb0.trans (hb2.mono hb0.size)
  have hzw : w.heap.size < w2.heap.size := by have h := hb2.size; simp at h; omega
  clear K1 hb2 HS HK0
  by_cases hn2 : m < 2
  · have HRn := Lib.hid (HSH.out (by rw [HN.out]; exact hn2))
    clear hcells HN
    have e0 := HK1.out.cell 0
    have e1 := HK1.out.cell 1
    have e2 := HK1.out.cell 2
    have r0 := HK1.out.frozen 0
    have r1 := HK1.out.frozen 1
    have r2 := HK1.out.frozen 2
    go_wp2
    refine bodyPost_ret (v := .tuple #[.agg #[.string ByteArray.empty, .int .i64 0, .slice none 0 0], .bool false]) (by simp [results, Tryd.results29, go_sem, e0, e1, e2] <;> rfl) rfl (rf_none HRn.out ?_)
    repeat (first | exact hB2 | (refine Below.setCell ?_ (by first | (simp; done) | (simp; omega)) _))
  obtain ⟨p, t, ws, hps⟩ : ∃ p t ws, qs = p :: t :: ws := by
    have h := HN.out
    match qs, h with
    | [], h => simp at h; omega
    | [_], h => simp at h; omega
    | p :: t :: ws, _ => exact ⟨p, t, ws, rfl⟩
  subst hps
  obtain ⟨L, rfl⟩ : ∃ L, m = L + 2 := ⟨m - 2, by omega⟩
  have HWL : Hid (ws.length = L) := show _ = _ by have h := HN.out; simpa using h
  have c0 : w2.cell? ⟨g, 0, none⟩ = some (.string ⟨p.toArray⟩) := hcells 0 _ rfl
  have c1 : w2.cell? ⟨g, 1, none⟩ = some (.string ⟨t.toArray⟩) := hcells 1 _ rfl
  have HCW : Hid (∀ k q, ws[k]? = some q → w2.cell? ⟨g, 2 + k, none⟩ = some (.string ⟨q.toArray⟩)) := fun k q h => by
    rw [Nat.add_comm]; exact hcells (k + 2) _ (by simp [h])
  have htz := HSZ.out t (List.mem_cons_of_mem _ (List.mem_cons_self ..))
  have cN := ReadDecimal_any ⟨t.toArray⟩ w2 (by rw [mk_size]; omega) (HT3.out _ hB2)
  rw [mk_list] at cN
  have HCN : Hid (Calls Tryd.prog 52 #[.string ⟨t.toArray⟩] w2 fun e w' => e = .returned (.tuple #[.int .i64 ((rdN t).getD 0), .bool (rdN t).isSome]) ∧ Below w2.heap.size w2 w') := cN
  have HOA : Hid ((rdN t).isSome = false → rdF s.data.toList = none) := fun h => HNUM.out t rfl (by cases hq : rdN t with | none => rfl | some a => rw [hq] at h; cases h)
  have HTA : Hid ((rdN t).isSome = true → rdN t = some ((rdN t).getD 0)) := fun h => by cases hq : rdN t with | none => rw [hq] at h; cases h | some a => rfl
  have HYS : Hid (∀ a, rdN t = some a → (fnT ⟨p.toArray⟩ a (ws.map candC)).data.toList = s.data.toList → rdF s.data.toList = some (p, a, ws.map candC)) := fun a h1 h2 => HYES.out p t ws a rfl h1 h2
  have HNS : Hid (∀ a, rdN t = some a → (fnT ⟨p.toArray⟩ a (ws.map candC)).data.toList ≠ s.data.toList → rdF s.data.toList = none) := fun a h1 h2 => HNO.out p t ws a rfl h1 h2
  have HPT2 : Hid (∀ k x, ws[k]? = some x → rdN (Lib.cut x [58]).1 = none ∨ rdN (Lib.cut x [58]).2.1 = none → rdF s.data.toList = none) := fun k x h1 h2 => HPT.out k x (by simpa using h1) h2
  have HWZ : Hid (∀ q ∈ ws, q.length ≤ s.size) := fun q hq => HSZ.out q (List.mem_cons_of_mem _ (List.mem_cons_of_mem _ hq))
  have hpz : (⟨p.toArray⟩ : ByteArray).size ≤ maxLen := by have h := HSZ.out p (List.mem_cons_self ..); rw [mk_size]; unfold maxLen; omega
  generalize (rdN t).isSome = ob at *
  obtain ⟨a, HAA⟩ : ∃ a : Int, Hid ((rdN t).getD 0 = a) := ⟨_, rfl⟩
  rw [HAA.out] at HCN HTA
  generalize (⟨t.toArray⟩ : ByteArray) = st at *
  generalize hsp : (⟨p.toArray⟩ : ByteArray) = sp at *
  have hL2 : (2 : Int) ≤ ((L + 2 : Nat) : Int) := by omega
  have hL1000 : L ≤ 998 := by omega
  clear hcells cN htz HN HNUM HYES HNO HPT HSH HSZ hm
  have hLd : L + 2 ≤ d := hmd
  go_wp2_with fail; ((with_reducible refine HCN.out.mono ?_); rintro e w3 ⟨rfl, hb3⟩)
  have hB3 := hB2.trans (hb3.mono hB2.size)
  have hz3 := hb3.size
  have c0' := (hb3.cell (block_lt_of_cell c0)).trans c0
  have HC3 : Hid (∀ k q, ws[k]? = some q → w3.cell? ⟨g, 2 + k, none⟩ = some (.string ⟨q.toArray⟩)) := fun k q h => (hb3.cell hg).trans (HCW.out k q h)
  have HK3 := Lib.hid (HK1.out.below hb3 hzw)
  have hg3 : g < w3.heap.size := by omega
  have hzw3 : w.heap.size < w3.heap.size := by omega
  clear c0 c1 HCN HCW HK1 hb3
  by_cases hd2 : d = 2
  · have HL0 : Hid (L = 0) := show L = 0 by omega
    subst hd2
    go_wp2
    go_loopw [38] (fun i wr => ∃ (k : Nat) (A' : Option Addr) (c' : Nat) (rs' : List Row), k ≤ L ∧ i = .int .i64 k ∧ Hid (Blk wr w3.heap.size 38 (fanB sp a A' k c')) ∧ Hid (Made wr (w3.heap.size + 1) A' k c' ((ws.take k).map candC) rs') ∧ Below w3.heap.size w3 wr) (fun i _ => L - (intOf i).toNat)
    case atStart => exact ⟨0, none, 0, [], by omega, rfl, Blk.new _ _ _, ⟨OSS.nil _ _, by simp [dat], fun r h => by simp at h⟩, (Below.refl _ _).alloc (Nat.le_refl _) _⟩
    case round =>
      obtain ⟨k, A', c', rs', hk, rfl, HB, HM, hbr⟩ := hrel
      obtain ⟨wo, rfl⟩ : ∃ wo : World, wo = wr := ⟨_, rfl⟩
      have Bo := hB3.trans (hbr.mono hB3.size)
      have hzo := hbr.size
      have HF := Lib.hid (HK3.out.below hbr hzw3)
      by_cases hlt : k < L
      · exact absurd hlt (by rw [HL0.out]; omega)
      · have hkn : k = ws.length := by rw [HWL.out]; omega
        have htk : ws.take k = ws := List.take_of_length_le (by omega)
        rw [htk] at HM
        clear htk hkn
        cases ob with
        | false =>
          have HRn : Hid (rdF s.data.toList = none) := HOA.out rfl
          clear HOA HTA HYS HNS HPT2 HM HB
          have e0 := HF.out.cell 0
          have e1 := HF.out.cell 1
          have e2 := HF.out.cell 2
          have r0 := HF.out.frozen 0
          have r1 := HF.out.frozen 1
          have r2 := HF.out.frozen 2
          go_wp2
          refine bodyPost_ret (v := .tuple #[.agg #[.string ByteArray.empty, .int .i64 0, .slice none 0 0], .bool false]) (by simp [results, Tryd.results29, go_sem, e0, e1, e2] <;> rfl) rfl (rf_none HRn.out ?_)
          repeat (first | exact Bo | (refine Below.setCell ?_ (by first | (simp; done) | (simp; omega)) _))
        | true =>
          have hta := HTA.out rfl
          have hD := HM.out.dat
          have cT := implFanText_any sp a A' k c' rs' wo hpz HM.out.oss.reads (by omega) (fun r hr => by rw [HM.out.two r hr]; omega) (HT3.out _ Bo).pow
          rw [hD] at cT
          have HCT := Lib.hid cT
          have y0 := HB.out.cell 0
          have y1 := HB.out.cell 1
          have y2 := HB.out.cell 2
          by_cases he : (fnT sp a (ws.map candC)).data.toList = s.data.toList
          · have HRy : Hid (rdF s.data.toList = some (p, a, ws.map candC)) := HYS.out a hta he
            have hq : ((fnT sp a (ws.map candC)).toList == s.toList) = true := by rw [toL_eq]; exact decide_eq_true he
            generalize fnT sp a (ws.map candC) = tx at *
            clear cT hD hta he HYS HNS HPT2 HTA HOA
            go_wp2_with fail; ((with_reducible refine HCT.out.mono ?_); rintro e w7 ⟨rfl, hb7⟩)
            have B7 := Bo.trans (hb7.mono Bo.size)
            have HF7 := HF.out.below hb7 (by omega)
            have HB7 := HB.out.below hb7 HB.out.lt
            have HM7 := Lib.hid (HM.out.below hb7)
            have e0 := HF7.cell 0
            have e1 := HF7.cell 1
            have e2 := HF7.cell 2
            have r0 := HF7.frozen 0
            have r1 := HF7.frozen 1
            have r2 := HF7.frozen 2
            have z0 := HB7.cell 0
            have z1 := HB7.cell 1
            have z2 := HB7.cell 2
            clear HF7 HB7 y0 y1 y2
            go_wp2
            refine bodyPost_ret (v := .tuple #[.agg #[.string sp, .int .i64 a, .slice A' k c'], .bool true]) (by simp [results, Tryd.results29, go_sem, e0, e1, e2]) rfl ?_
            rw [← hsp]
            exact rf_some HRy.out _ _ _ (HM7.out.base (Nat.le_succ _)) (by omega) B7 (Nat.le_refl _) hzw3 (by omega)
          · have HRn : Hid (rdF s.data.toList = none) := HNS.out a hta he
            have hq : ((fnT sp a (ws.map candC)).toList == s.toList) = false := by rw [toL_eq]; exact decide_eq_false he
            generalize fnT sp a (ws.map candC) = tx at *
            clear cT hD hta he HYS HNS HPT2 HTA HOA
            go_wp2_with fail; ((with_reducible refine HCT.out.mono ?_); rintro e w7 ⟨rfl, hb7⟩)
            have B7 := Bo.trans (hb7.mono Bo.size)
            have HF7 := HF.out.below hb7 (by omega)
            clear y0 y1 y2
            have e0 := HF7.cell 0
            have e1 := HF7.cell 1
            have e2 := HF7.cell 2
            have r0 := HF7.frozen 0
            have r1 := HF7.frozen 1
            have r2 := HF7.frozen 2
            go_wp2
            refine bodyPost_ret (v := .tuple #[.agg #[.string ByteArray.empty, .int .i64 0, .slice none 0 0], .bool false]) (by simp [results, Tryd.results29, go_sem, e0, e1, e2] <;> rfl) rfl (rf_none HRn.out ?_)
            repeat (first | exact B7 | (refine Below.setCell ?_ (by first | (simp; done) | (simp; omega)) _))
  · go_wp2
    go_loopw [38] (fun i wr => ∃ (k : Nat) (A' : Option Addr) (c' : Nat) (rs' : List Row), k ≤ L ∧ i = .int .i64 k ∧ Hid (Blk wr w3.heap.size 38 (fanB sp a A' k c')) ∧ Hid (Made wr (w3.heap.size + 1) A' k c' ((ws.take k).map candC) rs') ∧ Below w3.heap.size w3 wr) (fun i _ => L - (intOf i).toNat)
    case atStart => exact ⟨0, none, 0, [], by omega, rfl, Blk.new _ _ _, ⟨OSS.nil _ _, by simp [dat], fun r h => by simp at h⟩, (Below.refl _ _).alloc (Nat.le_refl _) _⟩
    case round =>
      obtain ⟨k, A', c', rs', hk, rfl, HB, HM, hbr⟩ := hrel
      obtain ⟨wo, rfl⟩ : ∃ wo : World, wo = wr := ⟨_, rfl⟩
      have Bo := hB3.trans (hbr.mono hB3.size)
      have hzo := hbr.size
      have HF := Lib.hid (HK3.out.below hbr hzw3)
      by_cases hlt : k < L
      · obtain ⟨x, hx⟩ : ∃ x, ws[k]? = some x := ⟨_, List.getElem?_eq_getElem (by rw [HWL.out]; exact hlt)⟩
        have cx0 := (hbr.cell hg3).trans (HC3.out k x hx)
        have hxz := HWZ.out x (List.mem_of_getElem? hx)
        have HCUT := Lib.hid (Cut_any ⟨x.toArray⟩ 58 wo (by rw [mk_size]; omega) (HT3.out _ Bo))
        rw [mk_list] at HCUT
        have hcl := cut_len x 58
        have cA := fun n => ReadDecimal_any ⟨(Lib.cut x [58]).1.toArray⟩ (wo.drewN n) (by rw [mk_size]; omega) (HT3.out _ (below_drewN Bo n))
        have cB := fun W (hW : Below w.heap.size w W) => ReadDecimal_any ⟨(Lib.cut x [58]).2.1.toArray⟩ W (by rw [mk_size]; omega) (HT3.out _ hW)
        simp only [mk_list] at cA cB
        have HCA : Hid (∀ n, Calls Tryd.prog 52 #[.string ⟨(Lib.cut x [58]).1.toArray⟩] (wo.drewN n) fun e w' => e = .returned (.tuple #[.int .i64 ((rdN (Lib.cut x [58]).1).getD 0), .bool (rdN (Lib.cut x [58]).1).isSome]) ∧ Below (wo.drewN n).heap.size (wo.drewN n) w') := cA
        have HCB : Hid (∀ W, Below w.heap.size w W → Calls Tryd.prog 52 #[.string ⟨(Lib.cut x [58]).2.1.toArray⟩] W fun e w' => e = .returned (.tuple #[.int .i64 ((rdN (Lib.cut x [58]).2.1).getD 0), .bool (rdN (Lib.cut x [58]).2.1).isSome]) ∧ Below W.heap.size W w') := cB
        have hbad : ((rdN (Lib.cut x [58]).1).isSome && (rdN (Lib.cut x [58]).2.1).isSome) = false → rdF s.data.toList = none := fun h => HPT2.out k x hx (by
          cases h1 : rdN (Lib.cut x [58]).1 with
          | none => exact .inl rfl
          | some u =>
            cases h2 : rdN (Lib.cut x [58]).2.1 with
            | none => exact .inr rfl
            | some v => rw [h1, h2] at h; cases h)
        have hgood : ((rdN (Lib.cut x [58]).1).isSome && (rdN (Lib.cut x [58]).2.1).isSome) = true → (ws.take (k + 1)).map candC = (ws.take k).map candC ++ [[(rdN (Lib.cut x [58]).1).getD 0, (rdN (Lib.cut x [58]).2.1).getD 0]] := fun h => by
          rw [take_cp hx]
          unfold candC
          cases h1 : rdN (Lib.cut x [58]).1 with
          | none => rw [h1] at h; cases h
          | some u =>
            cases h2 : rdN (Lib.cut x [58]).2.1 with
            | none => rw [h1, h2] at h; cases h
            | some v => rw [cand_of h1, cand_of h2]; rfl
        have HBAD := Lib.hid hbad
        have HGOOD := Lib.hid hgood
        clear hbad hgood cA cB hcl hxz hx
        generalize (rdN (Lib.cut x [58]).1).getD 0 = x0 at *
        generalize (rdN (Lib.cut x [58]).2.1).getD 0 = x1 at *
        generalize (rdN (Lib.cut x [58]).1).isSome = o0 at *
        generalize (rdN (Lib.cut x [58]).2.1).isSome = o1 at *
        generalize (⟨(Lib.cut x [58]).1.toArray⟩ : ByteArray) = sa at *
        generalize (⟨(Lib.cut x [58]).2.1.toArray⟩ : ByteArray) = sb at *
        generalize (⟨x.toArray⟩ : ByteArray) = sx at *
        go_wp2_with fail; ((with_reducible refine HCUT.out.mono ?_); rintro e w4 ⟨bc, rfl, nc, rfl⟩)
        go_wp2_with fail; ((with_reducible refine (HCA.out nc).mono ?_); rintro e w5 ⟨rfl, hb5⟩)
        have hb5o : Below wo.heap.size wo w5 := (below_drewN (Below.refl _ _) nc).trans (hb5.mono (by simp))
        have B5 := Bo.trans (hb5o.mono Bo.size)
        go_wp2_with fail; ((with_reducible refine (HCB.out _ B5).mono ?_); rintro e w6 ⟨rfl, hb6⟩)
        have hb6o := hb5o.trans (hb6.mono hb5o.size)
        have B6 := Bo.trans (hb6o.mono Bo.size)
        have hbr6 := hbr.trans (hb6o.mono hbr.size)
        have HF6 := Lib.hid (HK3.out.below hbr6 hzw3)
        have HM6 := Lib.hid (HM.out.below hb6o)
        have HB6 := Lib.hid (HB.out.below hb6o HB.out.lt)
        have hz6 := hbr6.size
        clear HM HB HF HCUT HCA HCB cx0 hb5 hb6 hb5o hb6o B5
        cases o0
        · have HRn : Hid (rdF s.data.toList = none) := HBAD.out rfl
          clear HBAD HGOOD HM6 HB6
          have e0 := HF6.out.cell 0
          have e1 := HF6.out.cell 1
          have e2 := HF6.out.cell 2
          have r0 := HF6.out.frozen 0
          have r1 := HF6.out.frozen 1
          have r2 := HF6.out.frozen 2
          go_wp2
          refine bodyPost_ret (v := .tuple #[.agg #[.string ByteArray.empty, .int .i64 0, .slice none 0 0], .bool false]) (by simp [results, Tryd.results29, go_sem, e0, e1, e2] <;> rfl) rfl (rf_none HRn.out ?_)
          repeat (first | exact B6 | (refine Below.setCell ?_ (by first | (simp; done) | (simp; omega)) _))
        · cases o1
          · have HRn : Hid (rdF s.data.toList = none) := HBAD.out rfl
            clear HBAD HGOOD HM6 HB6
            have e0 := HF6.out.cell 0
            have e1 := HF6.out.cell 1
            have e2 := HF6.out.cell 2
            have r0 := HF6.out.frozen 0
            have r1 := HF6.out.frozen 1
            have r2 := HF6.out.frozen 2
            go_wp2
            refine bodyPost_ret (v := .tuple #[.agg #[.string ByteArray.empty, .int .i64 0, .slice none 0 0], .bool false]) (by simp [results, Tryd.results29, go_sem, e0, e1, e2] <;> rfl) rfl (rf_none HRn.out ?_)
            repeat (first | exact B6 | (refine Below.setCell ?_ (by first | (simp; done) | (simp; omega)) _))
          · have HNX : Hid ((ws.take (k + 1)).map candC = (ws.take k).map candC ++ [[x0, x1]]) := HGOOD.out rfl
            have hg6 := HB6.out.lt
            have HWB : Hid (Below w3.heap.size w3 ((w6.alloc (.cells #[.int .i64 x0, .int .i64 x1] 2)).alloc (.cells #[.slice (some ⟨w6.heap.size, 0, none⟩) 2 2] 57))) :=
              (hbr6.alloc hbr6.size _).alloc (by simp; omega) _
            have HWO : Hid (((w6.alloc (.cells #[.int .i64 x0, .int .i64 x1] 2)).alloc (.cells #[.slice (some ⟨w6.heap.size, 0, none⟩) 2 2] 57)).ownsRow (w3.heap.size + 1) 57 1 (.slice A' k c') k (rowsV rs')) :=
              (HM6.out.oss.out.alloc _).alloc _
            have HN2 := Lib.hid (news_two w6 (.int .i64 x0) (.int .i64 x1))
            have HG : Hid (∀ {w8 : World}, ((w6.alloc (.cells #[.int .i64 x0, .int .i64 x1] 2)).alloc (.cells #[.slice (some ⟨w6.heap.size, 0, none⟩) 2 2] 57)).grownBy w8 (Value.ownBlock (.slice A' k c')) → Below w3.heap.size w3 w8) := fun hgrow =>
              HWB.out.grown hgrow (by simp; omega) fun q hq => by have := (HWO.out.lt q hq).1; omega
            have HBG : Hid (∀ {w8 : World}, ((w6.alloc (.cells #[.int .i64 x0, .int .i64 x1] 2)).alloc (.cells #[.slice (some ⟨w6.heap.size, 0, none⟩) 2 2] 57)).grownBy w8 (Value.ownBlock (.slice A' k c')) → Blk w8 w3.heap.size 38 (fanB sp a A' k c')) := fun hgrow =>
              ((HB6.out.alloc _).alloc _).grown hgrow fun h => by have := (HWO.out.lt _ h.symm).1; omega
            have q2 := HB6.out.cell 2
            clear HBAD HGOOD
            go_wp2_with (at_builtin; (refine wpList_append_own _ rfl _ _ 33 rfl (w3.heap.size + 1) 57 i0 _ 1 24 Tryd.underlying33 hi0 hz0 hz1 hz2 rfl (by omega) (.slice A' k c') k (rowsV rs') rfl HWO.out ⟨w6.heap.size + 1, 0, none⟩ 1 1 [.slice (some ⟨w6.heap.size, 0, none⟩) 2 2] rfl rfl HN2.out (by simp [Value.oneCell']) (by unfold maxLen; omega) (by omega) (by simp; omega) ?_); intro v8 w8 ho8 hg8 hv8; obtain ⟨A8, c8, rfl⟩ := own_shape ho8; have HM8 := Lib.hid (HM6.out.app (w := w6) x0 x1 (by omega) ho8 ⟨hg8.os, hg8.tape, hg8.output, hg8.size, hg8.block⟩); have HB8 := Lib.hid (HBG.out hg8); have B8 := Lib.hid (HG.out hg8); have e2 := HB8.out.cell 2; have r2 := HB8.out.frozen 2; have hz8 := B8.out.size; clear ho8 hg8 hv8)
            have HM9 := Lib.hid (HM8.out.setLow (p := ⟨w3.heap.size, 2, none⟩) (Nat.lt_succ_self _) (.slice A8 (k + 1) c8))
            have HB9 := Lib.hid (HB8.out.set_ 2 (.slice A8 (k + 1) c8))
            have B9 := B8.out.setCell (p := ⟨w3.heap.size, 2, none⟩) (Nat.le_refl _) (.slice A8 (k + 1) c8)
            go_roundw
            case rel => exact ⟨k + 1, A8, c8, _, by omega, by go_num, HB9.out, by rw [HNX.out]; exact HM9.out, B9⟩
            case measure => simp [intOf]; omega
      · have hkn : k = ws.length := by rw [HWL.out]; omega
        have htk : ws.take k = ws := List.take_of_length_le (by omega)
        rw [htk] at HM
        clear htk hkn
        cases ob with
        | false =>
          have HRn : Hid (rdF s.data.toList = none) := HOA.out rfl
          clear HOA HTA HYS HNS HPT2 HM HB
          have e0 := HF.out.cell 0
          have e1 := HF.out.cell 1
          have e2 := HF.out.cell 2
          have r0 := HF.out.frozen 0
          have r1 := HF.out.frozen 1
          have r2 := HF.out.frozen 2
          go_wp2
          refine bodyPost_ret (v := .tuple #[.agg #[.string ByteArray.empty, .int .i64 0, .slice none 0 0], .bool false]) (by simp [results, Tryd.results29, go_sem, e0, e1, e2] <;> rfl) rfl (rf_none HRn.out ?_)
          repeat (first | exact Bo | (refine Below.setCell ?_ (by first | (simp; done) | (simp; omega)) _))
        | true =>
          have hta := HTA.out rfl
          have hD := HM.out.dat
          have cT := implFanText_any sp a A' k c' rs' wo hpz HM.out.oss.reads (by omega) (fun r hr => by rw [HM.out.two r hr]; omega) (HT3.out _ Bo).pow
          rw [hD] at cT
          have HCT := Lib.hid cT
          have y0 := HB.out.cell 0
          have y1 := HB.out.cell 1
          have y2 := HB.out.cell 2
          by_cases he : (fnT sp a (ws.map candC)).data.toList = s.data.toList
          · have HRy : Hid (rdF s.data.toList = some (p, a, ws.map candC)) := HYS.out a hta he
            have hq : ((fnT sp a (ws.map candC)).toList == s.toList) = true := by rw [toL_eq]; exact decide_eq_true he
            generalize fnT sp a (ws.map candC) = tx at *
            clear cT hD hta he HYS HNS HPT2 HTA HOA
            go_wp2_with fail; ((with_reducible refine HCT.out.mono ?_); rintro e w7 ⟨rfl, hb7⟩)
            have B7 := Bo.trans (hb7.mono Bo.size)
            have HF7 := HF.out.below hb7 (by omega)
            have HB7 := HB.out.below hb7 HB.out.lt
            have HM7 := Lib.hid (HM.out.below hb7)
            have e0 := HF7.cell 0
            have e1 := HF7.cell 1
            have e2 := HF7.cell 2
            have r0 := HF7.frozen 0
            have r1 := HF7.frozen 1
            have r2 := HF7.frozen 2
            have z0 := HB7.cell 0
            have z1 := HB7.cell 1
            have z2 := HB7.cell 2
            clear HF7 HB7 y0 y1 y2
            go_wp2
            refine bodyPost_ret (v := .tuple #[.agg #[.string sp, .int .i64 a, .slice A' k c'], .bool true]) (by simp [results, Tryd.results29, go_sem, e0, e1, e2]) rfl ?_
            rw [← hsp]
            exact rf_some HRy.out _ _ _ (HM7.out.base (Nat.le_succ _)) (by omega) B7 (Nat.le_refl _) hzw3 (by omega)
          · have HRn : Hid (rdF s.data.toList = none) := HNS.out a hta he
            have hq : ((fnT sp a (ws.map candC)).toList == s.toList) = false := by rw [toL_eq]; exact decide_eq_false he
            generalize fnT sp a (ws.map candC) = tx at *
            clear cT hD hta he HYS HNS HPT2 HTA HOA
            go_wp2_with fail; ((with_reducible refine HCT.out.mono ?_); rintro e w7 ⟨rfl, hb7⟩)
            have B7 := Bo.trans (hb7.mono Bo.size)
            have HF7 := HF.out.below hb7 (by omega)
            clear y0 y1 y2
            have e0 := HF7.cell 0
            have e1 := HF7.cell 1
            have e2 := HF7.cell 2
            have r0 := HF7.frozen 0
            have r1 := HF7.frozen 1
            have r2 := HF7.frozen 2
            go_wp2
            refine bodyPost_ret (v := .tuple #[.agg #[.string ByteArray.empty, .int .i64 0, .slice none 0 0], .bool false]) (by simp [results, Tryd.results29, go_sem, e0, e1, e2] <;> rfl) rfl (rf_none HRn.out ?_)
            repeat (first | exact B7 | (refine Below.setCell ?_ (by first | (simp; done) | (simp; omega)) _))
end Go.Proofs.YtdooajiobpjihaaDoor
