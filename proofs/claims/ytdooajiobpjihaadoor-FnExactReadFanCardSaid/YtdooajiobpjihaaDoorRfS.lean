/- Contract of the reading of fans, the reference's side. -/
import Derived.Test.YtdooajiobpjihaaDoorRfp
import Derived.Test.YtdooajiobpjihaaDoorMade
namespace Go.Proofs.YtdooajiobpjihaaDoor
set_option linter.unusedVariables false
set_option linter.unusedSimpArgs false
open Go.RowKit
def rfS (l : List UInt8) : ByteArray := match rdF l with | some q => ⟨q.1.toArray⟩ | none => ByteArray.empty
def rfA (l : List UInt8) : Int := match rdF l with | some q => q.2.1 | none => 0
def rfC (l : List UInt8) : List (List Int) := match rdF l with | some q => q.2.2 | none => []
def rfB (l : List UInt8) : Bool := (rdF l).isSome
/-- What a call returns that reads a fan. -/
def rfRet (w : World) (s : ByteArray) (a : Int) (cs : List (List Int)) (b : Bool) (e : Ending) (w' : World) : Prop :=
  ∃ A n c rs, e = .returned (.tuple #[.agg #[.string s, .int .i64 a, .slice A n c], .bool b]) ∧ OSS w' w.heap.size A n c rs ∧ dat rs = cs ∧ n ≤ 1048576 ∧ (∀ r ∈ rs, r.n ≤ 1048576) ∧ tot rs ≤ 1048576 ∧ Below w.heap.size w w'
/-- The same, of a text. -/
def rfPost (w : World) (l : List UInt8) (e : Ending) (w' : World) : Prop := rfRet w (rfS l) (rfA l) (rfC l) (rfB l) e w'
theorem rf_none {w w' : World} {l : List UInt8} (h : rdF l = none) (hb : Below w.heap.size w w') : rfPost w l (.returned (.tuple #[.agg #[.string ByteArray.empty, .int .i64 0, .slice none 0 0], .bool false])) w' := by
  unfold rfPost rfS rfA rfC rfB
  rw [h]
  exact ⟨none, 0, 0, [], rfl, OSS.nil _ _, rfl, by omega, fun r h => by simp at h, by simp [tot], hb⟩
theorem rf_some {w w1 w7 : World} {A : Option Addr} {k c g : Nat} {cs : List (List Int)} {rs : List Row} {l p : List UInt8} {a : Int} (h : rdF l = some (p, a, cs)) (u0 u1 u2 : Value) (hm : Made w7 w1.heap.size A k c cs rs) (hk : k ≤ 1000) (hb : Below w.heap.size w w7) (hg : w.heap.size ≤ g) (hg1 : g < w1.heap.size) (h1 : w.heap.size ≤ w1.heap.size) :
    rfPost w l (.returned (.tuple #[.agg #[.string ⟨p.toArray⟩, .int .i64 a, .slice A k c], .bool true])) (((w7.setCell ⟨g, 0, none⟩ u0).setCell ⟨g, 1, none⟩ u1).setCell ⟨g, 2, none⟩ u2) := by
  unfold rfPost rfS rfA rfC rfB
  rw [h]
  obtain ⟨A', n', c', rs', he, ho, hd, hn, hr, ht, hbb⟩ := fanRet_put (s := ⟨p.toArray⟩) (a := a) u0 u1 u2 hm hk hb hg hg1 h1
  injection he with he
  injection he with he
  have h3 : A' = A ∧ n' = k ∧ c' = c := by
    have h4 := Array.toList_inj.2 he
    simp only [List.cons.injEq, Value.agg.injEq] at h4
    have h5 := Array.toList_inj.2 h4.1
    simp only [List.cons.injEq, Value.slice.injEq, and_true, true_and] at h5
    exact ⟨h5.1.symm, h5.2.1.symm, h5.2.2.symm⟩
  obtain ⟨rfl, rfl, rfl⟩ := h3
  exact ⟨_, _, _, rs', rfl, ho, hd, hn, hr, ht, hbb⟩
/-- The three cells of a fan that is being read. -/
abbrev fanB (sp : ByteArray) (a : Int) (A : Option Addr) (k c : Nat) : Array Value := #[.string sp, .int .i64 a, .slice A k c]
theorem take_cp {ws : List (List UInt8)} {k : Nat} {w : List UInt8} (h : ws[k]? = some w) (f : List UInt8 → List Int) : (ws.take (k + 1)).map f = (ws.take k).map f ++ [f w] := by rw [List.take_add_one, h]; simp
/-- What one point more gives. -/
theorem rdP_two {w a b : List UInt8} (h : splA 58 [] w = [a, b]) : rdP w = match rdN a, rdN b with | some x, some y => some [x, y] | _, _ => none := by unfold rdP; rw [h]; rfl
theorem rdP_len {w : List UInt8} (h : (splA 58 [] w).length ≠ 2) : rdP w = none := by
  unfold rdP
  split
  · rename_i hs; rw [hs] at h; exact absurd rfl h
  · rfl
theorem one_more {l : List UInt8} {ws : List (List UInt8)} {k : Nat} {w a b : List UInt8} {p t : List UInt8} (hs : splA 32 [] l = p :: t :: ws) (hw : ws[k]? = some w) (h2 : splA 58 [] w = [a, b]) (hA : ∀ x ∈ ws.take k, ∃ y, rdP x = some y) :
    (((rdN a).isSome && (rdN b).isSome) = true → (ws.take (k + 1)).map candP = (ws.take k).map candP ++ [[(rdN a).getD 0, (rdN b).getD 0]] ∧ ∀ x ∈ ws.take (k + 1), ∃ y, rdP x = some y) ∧
    (((rdN a).isSome && (rdN b).isSome) = false → rdF l = none) := by
  have hp := rdP_two h2
  have hat : (splA 32 [] l)[k + 2]? = some w := by rw [hs]; exact hw
  rcases ha : rdN a with _ | x <;> rcases hb : rdN b with _ | y <;> rw [ha, hb] at hp
  · exact ⟨fun e => by simp at e, fun _ => rf_pt hat hp⟩
  · exact ⟨fun e => by simp at e, fun _ => rf_pt hat hp⟩
  · exact ⟨fun e => by simp at e, fun _ => rf_pt hat hp⟩
  · refine ⟨fun _ => ⟨?_, every_take (Q := fun x => ∃ y, rdP x = some y) hw hA ⟨_, hp⟩⟩, fun e => by simp at e⟩
    rw [take_cp hw, (rdP_t hp).1]; rfl
theorem news_two (w : World) (x y : Value) : ∀ j u, [Value.slice (some ⟨w.heap.size, 0, none⟩) 2 2][j]? = some u →
    ((w.alloc (.cells #[x, y] 2)).alloc (.cells #[.slice (some ⟨w.heap.size, 0, none⟩) 2 2] 57)).cell? ((⟨w.heap.size + 1, 0, none⟩ : Addr).add j) = some u := news_row w x y
set_option maxHeartbeats 6400000 in
set_option maxRecDepth 100000 in
theorem l06Read_any (s : ByteArray) (w : World) (hs : s.size ≤ 1048576) :
    Calls Tryd.prog 50 #[.string s] w (rfPost w s.data.toList) := by
  have HS : Hid (∀ W : World, Calls Tryd.prog 32 #[.string s, .int .u8 32] W fun e w' => ∃ (A : Option Addr) (n c' : Nat), e = .returned (.slice A n c') ∧ w'.ownsRow W.heap.size 9 1 (.slice A n c') n (strB (splA 32 [] s.data.toList)) ∧ Hid ((splA 32 [] s.data.toList).length = n) ∧ n ≤ 1048577 ∧ Below W.heap.size W w') := fun W => l01Split_any s 32 W hs
  have HK0 := Lib.hid (Blk.new w 38 #[Value.string { data := #[] }, .int .i64 0, .slice none 0 0])
  have hb0 : Below w.heap.size w (w.alloc (.cells #[Value.string { data := #[] }, .int .i64 0, .slice none 0 0] 38)) := (Below.refl _ _).alloc (Nat.le_refl _) _
  obtain ⟨i0, hi0, hz0, hz1, hz2⟩ := info_parts info_Int64SS
  have HLB := Lib.hid (blen s)
  go_enter Tryd.func50, Tryd.ntmps50
  go_wp2_with fail; ((with_reducible refine (HS.out _).mono ?_); rintro e w2 ⟨A, n, c, rfl, ho2, HN, hn, hb2⟩)
  have K1 := HK0.out.below hb2 (by simp)
  have HK1 := Lib.hid K1
  have hB2 := hb0.trans (hb2.mono hb0.size)
  have hzw : w.heap.size < w2.heap.size := by have h := hb2.size; simp at h; omega
  clear K1 hb2 HS HK0
  by_cases hn4 : n < 4
  · have HRn := Lib.hid (rf_short (by rw [HN.out]; exact hn4))
    have e0 := HK1.out.cell 0
    have e1 := HK1.out.cell 1
    have e2 := HK1.out.cell 2
    have r0 := HK1.out.frozen 0
    have r1 := HK1.out.frozen 1
    have r2 := HK1.out.frozen 2
    clear ho2 HN
    go_wp2
    refine bodyPost_ret (v := .tuple #[.agg #[.string ByteArray.empty, .int .i64 0, .slice none 0 0], .bool false]) (by simp [results, Tryd.results50, go_sem, e0, e1, e2] <;> rfl) rfl (rf_none HRn.out ?_)
    repeat (first | exact hB2 | (refine Below.setCell ?_ (by first | (simp; done) | (simp; omega)) _))
  obtain ⟨p, t, ws, hps⟩ : ∃ p t ws, splA 32 [] s.data.toList = p :: t :: ws := by
    have h := HN.out
    match hq : splA 32 [] s.data.toList, h with
    | [], h => simp at h; omega
    | [_], h => simp at h; omega
    | p :: t :: ws, _ => exact ⟨p, t, ws, rfl⟩
  have HPS := Lib.hid hps
  have HWL : Hid (ws.length + 2 = n) := show _ = _ by have h := HN.out; rw [hps] at h; simpa using h
  have HSZ : Hid (∀ q ∈ p :: t :: ws, q.length ≤ s.size) := fun q hq => by
    have h := splA_size (c := 32) s.data.toList [] q (by rw [hps]; exact hq)
    rw [HLB.out] at h; simpa using h
  rw [hps] at ho2
  obtain ⟨ga, rfl, hga, hca, hcells⟩ := own_addr ho2 (by omega)
  have c0 : w2.cell? ⟨ga, 0, none⟩ = some (.string ⟨p.toArray⟩) := hcells 0 _ rfl
  have c1 : w2.cell? ⟨ga, 1, none⟩ = some (.string ⟨t.toArray⟩) := hcells 1 _ rfl
  have HCW : Hid (∀ k q, ws[k]? = some q → w2.cell? ⟨ga, k + 2, none⟩ = some (.string ⟨q.toArray⟩)) := fun k q h => hcells (k + 2) _ (by simp [h])
  have htz := HSZ.out t (List.mem_cons_of_mem _ (List.mem_cons_self ..))
  have cN := l01Number_any ⟨t.toArray⟩ w2 (by rw [mk_size]; omega)
  rw [mk_list] at cN
  have HCN : Hid (Calls Tryd.prog 56 #[.string ⟨t.toArray⟩] w2 fun e w' => e = .returned (.tuple #[.int .i64 ((rdN t).getD 0), .bool (rdN t).isSome]) ∧ w2 = w') := cN
  have HOA : Hid (rdN t = none → rdF s.data.toList = none) := fun h => rf_num (by rw [hps]; rfl) h
  have HOY : Hid (∀ a, rdN t = some a → (rdN t).getD 0 = a) := fun a h => by rw [h]; rfl
  have hnI : (4 : Int) ≤ n := by omega
  have hn2 : 4 ≤ n := by omega
  obtain ⟨ob, HOB⟩ : ∃ ob : Bool, Hid ((rdN t).isSome = ob) := ⟨_, rfl⟩
  obtain ⟨a, HAA⟩ : ∃ a : Int, Hid ((rdN t).getD 0 = a) := ⟨_, rfl⟩
  rw [HOB.out, HAA.out] at HCN
  have HINI : Hid (if ob = true then (∀ x ∈ ws.take 0, ∃ y, rdP x = some y) else rdF s.data.toList = none) := by
    show ite _ _ _
    cases hq : rdN t with
    | none =>
      have h := HOB.out
      rw [hq] at h
      rw [← h]
      exact HOA.out hq
    | some a =>
      have h := HOB.out
      rw [hq] at h
      rw [← h]
      exact fun x hx => absurd hx (by simp)
  have HTA : Hid (ob = true → rdN t = some a) := fun h => by
    have h1 := HOB.out
    have h2 := HAA.out
    cases hq : rdN t with
    | none => rw [hq] at h1; rw [← h1] at h; cases h
    | some b => rw [hq] at h2; exact congrArg some h2
  generalize hst : (⟨t.toArray⟩ : ByteArray) = st at *
  generalize hsp : (⟨p.toArray⟩ : ByteArray) = sp at *
  clear hcells ho2 hca cN hps htz HOA HOY HN hst
  have gaz : (ga : Nat) < w2.heap.size := hga
  go_wp2_with fail; ((with_reducible refine HCN.out.mono ?_); rintro e w' ⟨rfl, rfl⟩)
  clear c1 HCN
  go_wp2
  go_loopw [6, 8] (fun o i wr => ∃ (k j : Nat) (okb : Bool) (A' : Option Addr) (c' : Nat) (cs : List (List Int)) (rs' : List Row), Hid (k + 2 = j) ∧ j ≤ n ∧ i = .int .i64 j ∧ o = .bool okb ∧ Hid (Blk wr w2.heap.size 38 (fanB sp a A' k c')) ∧ Hid (Made wr (w2.heap.size + 1) A' k c' cs rs') ∧
    Hid (if okb = true then (ob = true ∧ cs = (ws.take k).map candP ∧ ∀ x ∈ ws.take k, ∃ y, rdP x = some y) else rdF s.data.toList = none) ∧ Below w2.heap.size w2 wr) (fun _ i _ => n - (intOf i).toNat)
  case atStart => exact ⟨0, 2, ob, none, 0, [], [], rfl, by omega, rfl, rfl, Blk.new _ _ _, ⟨OSS.nil _ _, rfl, fun r h => by simp at h⟩, (show ite _ _ _ by
    have h := HINI.out
    cases ob with
    | true => exact ⟨rfl, by simp, fun x hx => absurd hx (by simp)⟩
    | false => exact h), (Below.refl _ _).alloc (Nat.le_refl _) _⟩
  case round =>
    obtain ⟨k, j, okb, A', c', cs, rs', HKJ, hj, rfl, rfl, HB, HM, HI, hbr⟩ := hrel
    obtain ⟨wo, rfl⟩ : ∃ wo : World, wo = wr := ⟨_, rfl⟩
    have Bo := hB2.trans (hbr.mono hB2.size)
    have hzo := hbr.size
    have HF := Lib.hid (HK1.out.below hbr hzw)
    cases okb with
    | false =>
      have HRn : Hid (rdF s.data.toList = none) := HI.out
      clear HI HB HM HCW
      by_cases hlt : j < n
      · have hltI : (j : Int) < (n : Int) := by omega
        have e0 := HF.out.cell 0
        have e1 := HF.out.cell 1
        have e2 := HF.out.cell 2
        have r0 := HF.out.frozen 0
        have r1 := HF.out.frozen 1
        have r2 := HF.out.frozen 2
        go_wp2
        refine bodyPost_ret (v := .tuple #[.agg #[.string ByteArray.empty, .int .i64 0, .slice none 0 0], .bool false]) (by simp [results, Tryd.results50, go_sem, e0, e1, e2] <;> rfl) rfl (rf_none HRn.out ?_)
        repeat (first | exact Bo | (refine Below.setCell ?_ (by first | (simp; done) | (simp; omega)) _))
      · have hltI : ¬ (j : Int) < (n : Int) := by omega
        have e0 := HF.out.cell 0
        have e1 := HF.out.cell 1
        have e2 := HF.out.cell 2
        have r0 := HF.out.frozen 0
        have r1 := HF.out.frozen 1
        have r2 := HF.out.frozen 2
        go_wp2
        refine bodyPost_ret (v := .tuple #[.agg #[.string ByteArray.empty, .int .i64 0, .slice none 0 0], .bool false]) (by simp [results, Tryd.results50, go_sem, e0, e1, e2] <;> rfl) rfl (rf_none HRn.out ?_)
        repeat (first | exact Bo | (refine Below.setCell ?_ (by first | (simp; done) | (simp; omega)) _))
    | true =>
      have hI : ob = true ∧ cs = (ws.take k).map candP ∧ ∀ x ∈ ws.take k, ∃ y, rdP x = some y := HI.out
      obtain ⟨hob0, hcs, hA⟩ := hI
      have hob := Lib.hid hob0
      clear hob0
      have HA := Lib.hid hA
      have HCS := Lib.hid hcs
      clear HI hA hcs
      by_cases hlt : j < n
      · have hltI : (j : Int) < (n : Int) := by omega
        have hkw : k < ws.length := by have h1 := HKJ.out; have h2 := HWL.out; omega
        obtain ⟨x, hx⟩ : ∃ x, ws[k]? = some x := ⟨_, List.getElem?_eq_getElem hkw⟩
        have cx0 := (hbr.cell gaz).trans (HCW.out k x hx)
        rw [HKJ.out] at cx0
        have hxz := HSZ.out x (List.mem_cons_of_mem _ (List.mem_cons_of_mem _ (List.mem_of_getElem? hx)))
        have cS : Calls Tryd.prog 32 #[.string ⟨x.toArray⟩, .int .u8 58] wo fun e w' => ∃ (A : Option Addr) (n c' : Nat), e = .returned (.slice A n c') ∧ w'.ownsRow wo.heap.size 9 1 (.slice A n c') n (strB (splA 58 [] (⟨x.toArray⟩ : ByteArray).data.toList)) ∧ Hid ((splA 58 [] (⟨x.toArray⟩ : ByteArray).data.toList).length = n) ∧ n ≤ 1048577 ∧ Below wo.heap.size wo w' := l01Split_any ⟨x.toArray⟩ 58 wo (by rw [mk_size]; omega)
        rw [mk_list] at cS
        have HCX := Lib.hid cS
        have HX := Lib.hid hx
        have HXZ := Lib.hid hxz
        generalize (⟨x.toArray⟩ : ByteArray) = sx at *
        clear cS hx hkw hxz
        go_wp2_with fail; ((with_reducible refine HCX.out.mono ?_); rintro e w5 ⟨B, m, d, rfl, ho5, HM2, hm, hb5⟩)
        have hbr5 := hbr.trans (hb5.mono hbr.size)
        have B5 := Bo.trans (hb5.mono Bo.size)
        have HF5 := Lib.hid (HK1.out.below hbr5 hzw)
        have hz5 := hb5.size
        clear HF HCX cx0
        by_cases hm2 : m = 2
        · subst hm2
          obtain ⟨ta, tb, hab⟩ : ∃ ta tb, splA 58 [] x = [ta, tb] := by
            have h := HM2.out
            match hq : splA 58 [] x, h with
            | [p, t], _ => exact ⟨p, t, rfl⟩
          obtain ⟨hy1, hy2⟩ := one_more HPS.out HX.out hab HA.out
          have hsa := splA_size (c := 58) x [] ta (by rw [hab]; exact List.mem_cons_self ..)
          have hsb := splA_size (c := 58) x [] tb (by rw [hab]; exact List.mem_cons_of_mem _ (List.mem_singleton_self _))
          have hxz := HXZ.out
          rw [hab] at ho5
          obtain ⟨gb, rfl, hgb, hcb, hcells⟩ := own_addr ho5 (by omega)
          have d0 : w5.cell? ⟨gb, 0, none⟩ = some (.string ⟨ta.toArray⟩) := hcells 0 _ rfl
          have d1 : w5.cell? ⟨gb, 1, none⟩ = some (.string ⟨tb.toArray⟩) := hcells 1 _ rfl
          have cA := l01Number_any ⟨ta.toArray⟩ w5 (by rw [mk_size]; simp at hsa; omega)
          have cB := l01Number_any ⟨tb.toArray⟩ w5 (by rw [mk_size]; simp at hsb; omega)
          rw [mk_list] at cA cB
          have HCA : Hid (Calls Tryd.prog 56 #[.string ⟨ta.toArray⟩] w5 fun e w' => e = .returned (.tuple #[.int .i64 ((rdN ta).getD 0), .bool (rdN ta).isSome]) ∧ w5 = w') := cA
          have HCB : Hid (Calls Tryd.prog 56 #[.string ⟨tb.toArray⟩] w5 fun e w' => e = .returned (.tuple #[.int .i64 ((rdN tb).getD 0), .bool (rdN tb).isSome]) ∧ w5 = w') := cB
          rw [← HCS.out] at hy1
          generalize (rdN ta).getD 0 = x0 at *
          generalize (rdN tb).getD 0 = x1 at *
          generalize (rdN ta).isSome = o0 at *
          generalize (rdN tb).isSome = o1 at *
          generalize (⟨ta.toArray⟩ : ByteArray) = sa at *
          generalize (⟨tb.toArray⟩ : ByteArray) = sb at *
          have HNX : Hid (if (o0 && o1) = true then (ob = true ∧ cs ++ [[x0, x1]] = (ws.take (k + 1)).map candP ∧ ∀ x ∈ ws.take (k + 1), ∃ y, rdP x = some y) else rdF s.data.toList = none) := by
            show ite _ _ _
            cases q : (o0 && o1) with
            | true => exact ⟨hob.out, (hy1 q).1.symm, (hy1 q).2⟩
            | false => exact hy2 q
          have HM5 := Lib.hid (HM.out.below hb5)
          have HB5 := Lib.hid (HB.out.below hb5 HB.out.lt)
          have hg5 := HB5.out.lt
          have HWB : Hid (Below w2.heap.size w2 ((w5.alloc (.cells #[.int .i64 x0, .int .i64 x1] 2)).alloc (.cells #[.slice (some ⟨w5.heap.size, 0, none⟩) 2 2] 57))) :=
            (hbr5.alloc hbr5.size _).alloc (by simp; omega) _
          have HWO : Hid (((w5.alloc (.cells #[.int .i64 x0, .int .i64 x1] 2)).alloc (.cells #[.slice (some ⟨w5.heap.size, 0, none⟩) 2 2] 57)).ownsRow (w2.heap.size + 1) 57 1 (.slice A' k c') k (rowsV rs')) :=
            (HM5.out.oss.out.alloc _).alloc _
          have HN2 := Lib.hid (news_two w5 (.int .i64 x0) (.int .i64 x1))
          have HG : Hid (∀ {w6 : World}, ((w5.alloc (.cells #[.int .i64 x0, .int .i64 x1] 2)).alloc (.cells #[.slice (some ⟨w5.heap.size, 0, none⟩) 2 2] 57)).grownBy w6 (Value.ownBlock (.slice A' k c')) → Below w2.heap.size w2 w6) := fun hgrow =>
            HWB.out.grown hgrow (by simp; omega) fun q hq => by have := (HWO.out.lt q hq).1; omega
          have HBG : Hid (∀ {w6 : World}, ((w5.alloc (.cells #[.int .i64 x0, .int .i64 x1] 2)).alloc (.cells #[.slice (some ⟨w5.heap.size, 0, none⟩) 2 2] 57)).grownBy w6 (Value.ownBlock (.slice A' k c')) → Blk w6 w2.heap.size 38 (fanB sp a A' k c')) := fun hgrow =>
            ((HB5.out.alloc _).alloc _).grown hgrow fun h => by have := (HWO.out.lt _ h.symm).1; omega
          have q2 := HB5.out.cell 2
          have hk1m : k ≤ 1048576 := by have := HKJ.out; omega
          clear ho5 hcells hab hy1 hy2 hsa hsb hxz cA cB HM2 HB HM HA HCS HX HXZ HCW hcb
          go_wp2_with fail; ((with_reducible refine HCA.out.mono ?_); rintro e w' ⟨rfl, rfl⟩)
          go_wp2_with fail; ((with_reducible refine HCB.out.mono ?_); rintro e w' ⟨rfl, rfl⟩)
          cases o0
          · have HNX2 := Lib.hid HNX.out
            go_wp2_with (at_builtin; (refine wpList_append_own _ rfl _ _ 33 rfl (w2.heap.size + 1) 57 i0 _ 1 24 Tryd.underlying33 hi0 hz0 hz1 hz2 rfl (by omega) (.slice A' k c') k (rowsV rs') rfl HWO.out ⟨w5.heap.size + 1, 0, none⟩ 1 1 [.slice (some ⟨w5.heap.size, 0, none⟩) 2 2] rfl rfl HN2.out (by simp [Value.oneCell']) (by unfold maxLen; omega) (by omega) (by simp; omega) ?_); intro v6 w6 ho6 hg6 hv6; obtain ⟨A6, c6, rfl⟩ := own_shape ho6; have HM6 := Lib.hid (HM5.out.app (w := w5) x0 x1 (by omega) ho6 ⟨hg6.os, hg6.tape, hg6.output, hg6.size, hg6.block⟩); have HB6 := Lib.hid (HBG.out hg6); have B6 := Lib.hid (HG.out hg6); have e2 := HB6.out.cell 2; have r2 := HB6.out.frozen 2; have hz6 := B6.out.size; clear ho6 hg6 hv6)
            have HM7 := Lib.hid (HM6.out.setLow (p := ⟨w2.heap.size, 2, none⟩) (Nat.lt_succ_self _) (.slice A6 (k + 1) c6))
            have HB7 := Lib.hid (HB6.out.set_ 2 (.slice A6 (k + 1) c6))
            have B7 := B6.out.setCell (p := ⟨w2.heap.size, 2, none⟩) (Nat.le_refl _) (.slice A6 (k + 1) c6)
            go_roundw
            case rel => exact ⟨k + 1, j + 1, false, A6, c6, cs ++ [[x0, x1]], _, (show k + 1 + 2 = j + 1 by have := HKJ.out; omega), by omega, by go_num, rfl, HB7.out, HM7.out, HNX.out, B7⟩
            case measure => simp [intOf]; omega
          · have HNX2 := Lib.hid HNX.out
            go_wp2_with (at_builtin; (refine wpList_append_own _ rfl _ _ 33 rfl (w2.heap.size + 1) 57 i0 _ 1 24 Tryd.underlying33 hi0 hz0 hz1 hz2 rfl (by omega) (.slice A' k c') k (rowsV rs') rfl HWO.out ⟨w5.heap.size + 1, 0, none⟩ 1 1 [.slice (some ⟨w5.heap.size, 0, none⟩) 2 2] rfl rfl HN2.out (by simp [Value.oneCell']) (by unfold maxLen; omega) (by omega) (by simp; omega) ?_); intro v6 w6 ho6 hg6 hv6; obtain ⟨A6, c6, rfl⟩ := own_shape ho6; have HM6 := Lib.hid (HM5.out.app (w := w5) x0 x1 (by omega) ho6 ⟨hg6.os, hg6.tape, hg6.output, hg6.size, hg6.block⟩); have HB6 := Lib.hid (HBG.out hg6); have B6 := Lib.hid (HG.out hg6); have e2 := HB6.out.cell 2; have r2 := HB6.out.frozen 2; have hz6 := B6.out.size; clear ho6 hg6 hv6)
            have HM7 := Lib.hid (HM6.out.setLow (p := ⟨w2.heap.size, 2, none⟩) (Nat.lt_succ_self _) (.slice A6 (k + 1) c6))
            have HB7 := Lib.hid (HB6.out.set_ 2 (.slice A6 (k + 1) c6))
            have B7 := B6.out.setCell (p := ⟨w2.heap.size, 2, none⟩) (Nat.le_refl _) (.slice A6 (k + 1) c6)
            go_roundw
            case rel => exact ⟨k + 1, j + 1, o1, A6, c6, cs ++ [[x0, x1]], _, (show k + 1 + 2 = j + 1 by have := HKJ.out; omega), by omega, by go_num, rfl, HB7.out, HM7.out, HNX.out, B7⟩
            case measure => simp [intOf]; omega
        · have hRn := rf_pt (l := s.data.toList) (k := k) (by rw [HPS.out]; exact HX.out) (rdP_len (by rw [HM2.out]; exact hm2))
          have HRn := Lib.hid hRn
          have hd : ((m : Int) != 2) = true := by rw [bne_iff_ne]; omega
          clear hRn ho5 HM2 HB HM HCW
          have e0 := HF5.out.cell 0
          have e1 := HF5.out.cell 1
          have e2 := HF5.out.cell 2
          have r0 := HF5.out.frozen 0
          have r1 := HF5.out.frozen 1
          have r2 := HF5.out.frozen 2
          go_wp2
          refine bodyPost_ret (v := .tuple #[.agg #[.string ByteArray.empty, .int .i64 0, .slice none 0 0], .bool false]) (by simp [results, Tryd.results50, go_sem, e0, e1, e2] <;> rfl) rfl (rf_none HRn.out ?_)
          repeat (first | exact B5 | (refine Below.setCell ?_ (by first | (simp; done) | (simp; omega)) _))
      · have hltI : ¬ (j : Int) < (n : Int) := by omega
        have hkn : k = ws.length := by have h1 := HKJ.out; have h2 := HWL.out; omega
        have htk : ws.take k = ws := List.take_of_length_le (by omega)
        rw [htk] at HCS HA
        have hrf := rf_ok HPS.out (HTA.out hob.out) HA.out
        rw [← HCS.out, hsp] at hrf
        have hD := HM.out.dat
        have cO := l06Ok_any sp a A' k c' rs' ⟨w2.heap.size, 0, none⟩ wo (by have h := HSZ.out p (List.mem_cons_self ..); rw [← hsp, mk_size]; unfold maxLen; omega) HM.out.oss.reads (by have := HKJ.out; omega) (fun r hr => by rw [HM.out.two r hr]; omega) (by
          intro i u hu
          have h := HB.out.cell i
          rw [← Array.getElem?_toList] at h
          rw [Addr.add]
          split
          · rename_i hi; subst hi; exact h.trans hu
          · simpa using h.trans hu)
        rw [hD] at cO
        have e0 := HF.out.cell 0
        rcases Bool.eq_false_or_eq_true (fanOk sp a cs) with k3 | k3
        · have HRy : Hid (rdF s.data.toList = some (p, a, cs)) := show _ = _ by rw [hrf, if_pos k3]
          have h8 : k ≤ 8 := by have h1 := (crvOk_t (fanOk_t k3).2.2).2.1; have h2 := HM.out.len; omega
          rw [k3] at cO
          have HCO := Lib.hid cO
          clear cO hrf e0 k3 hkn htk hD
          go_wp2_with fail; ((with_reducible refine HCO.out.mono ?_); rintro e w7 ⟨rfl, hb7⟩)
          have B7 := Bo.trans (hb7.mono Bo.size)
          have HF7 := HF.out.below hb7 (by omega)
          have HB7 := HB.out.below hb7 HB.out.lt
          have HM7 := Lib.hid (HM.out.below hb7)
          have e0 := HF7.cell 0
          have e1 := HF7.cell 1
          have e2 := HF7.cell 2
          have r0 := HF7.frozen 0
          have r1 := HF7.frozen 1
          have r2 := HF7.frozen 2
          have y0 := HB7.cell 0
          have y1 := HB7.cell 1
          have y2 := HB7.cell 2
          clear HF7 HB7
          go_wp2
          refine bodyPost_ret (v := .tuple #[.agg #[.string sp, .int .i64 a, .slice A' k c'], .bool true]) (by simp [results, Tryd.results50, go_sem, e0, e1, e2]) rfl ?_
          rw [← hsp]
          exact rf_some HRy.out _ _ _ (HM7.out.base (Nat.le_succ _)) (by omega) B7 (Nat.le_refl _) hzw (by omega)
        · have HRn : Hid (rdF s.data.toList = none) := show _ = _ by rw [hrf, if_neg (by rw [k3]; simp)]
          rw [k3] at cO
          have HCO := Lib.hid cO
          clear cO hrf e0 k3 hkn htk hD
          go_wp2_with fail; ((with_reducible refine HCO.out.mono ?_); rintro e w7 ⟨rfl, hb7⟩)
          have B7 := Bo.trans (hb7.mono Bo.size)
          have HF7 := HF.out.below hb7 (by omega)
          have e0 := HF7.cell 0
          have e1 := HF7.cell 1
          have e2 := HF7.cell 2
          have r0 := HF7.frozen 0
          have r1 := HF7.frozen 1
          have r2 := HF7.frozen 2
          go_wp2
          refine bodyPost_ret (v := .tuple #[.agg #[.string ByteArray.empty, .int .i64 0, .slice none 0 0], .bool false]) (by simp [results, Tryd.results50, go_sem, e0, e1, e2] <;> rfl) rfl (rf_none HRn.out ?_)
          repeat (first | exact B7 | (refine Below.setCell ?_ (by first | (simp; done) | (simp; omega)) _))
set_option maxHeartbeats 800000 in
theorem specReadFan_any (s : ByteArray) (w : World) (_ : s.size ≤ maxLen) (hs : s.size ≤ 1048576) :
    Calls Tryd.prog 28 #[.string s] w (rfPost w s.data.toList) := by
  have HK0 := Lib.hid (Blk.new w 38 #[Value.string { data := #[] }, .int .i64 0, .slice none 0 0])
  have hb0 : Below w.heap.size w (w.alloc (.cells #[Value.string { data := #[] }, .int .i64 0, .slice none 0 0] 38)) := (Below.refl _ _).alloc (Nat.le_refl _) _
  have hsz : (w.alloc (.cells #[Value.string { data := #[] }, .int .i64 0, .slice none 0 0] 38)).heap.size = w.heap.size + 1 := by simp
  have HC := Lib.hid (fun W => l06Read_any s W hs)
  unfold rfPost at HC ⊢
  generalize rfS s.data.toList = fs at *
  generalize rfA s.data.toList = fa at *
  generalize rfC s.data.toList = fc at *
  generalize rfB s.data.toList = fb at *
  go_enter Tryd.func28, Tryd.ntmps28
  go_wp2_with fail; ((with_reducible refine (HC.out _).mono ?_); rintro e w2 ⟨A, n, c, rs, rfl, ho, hd, hn, hr, ht, hb2⟩)
  rw [hsz] at ho
  have K1 := HK0.out.below hb2 (by simp)
  have hB2 := hb0.trans (hb2.mono hb0.size)
  have HO := Lib.hid ho
  have HD := Lib.hid hd
  have HR := Lib.hid hr
  have HT := Lib.hid ht
  clear HC HK0 hsz ho hd hr ht
  have e0 := K1.cell 0
  have e1 := K1.cell 1
  have e2 := K1.cell 2
  have r0 := K1.frozen 0
  have r1 := K1.frozen 1
  have r2 := K1.frozen 2
  go_wp2
  refine bodyPost_ret (v := .tuple #[.agg #[.string fs, .int .i64 fa, .slice A n c], .bool fb]) (by simp [results, Tryd.results28, go_sem, e0, e1, e2] <;> rfl) rfl ⟨A, n, c, rs, rfl, ?_, HD.out, hn, HR.out, HT.out, ?_⟩
  · refine OSS.base (lo := w.heap.size + 1) ?_ (by omega)
    repeat (refine OSS.setLow ?_ (by first | (simp; done) | (simp; omega)) _)
    exact HO.out
  · repeat (first | exact hB2 | (refine Below.setCell ?_ (by first | (simp; done) | (simp; omega)) _))
end Go.Proofs.YtdooajiobpjihaaDoor
