/- Contracts of the readings of doors, both sides. -/
import Derived.Test.YtdooajiobpjihaaDoorRdW
namespace Go.Proofs.YtdooajiobpjihaaDoor
set_option linter.unusedVariables false
set_option linter.unusedSimpArgs false
open Go.RowKit
def drMk (p : List UInt8) (xs : List Int) : Dor := ⟨⟨p.toArray⟩, xs.getD 0 0, xs.getD 1 0, xs.getD 2 0⟩
/-- A text read. -/
def drRd (l : List UInt8) : Option (List UInt8 × List Int) := rdW 3 (fun p xs => doorOk (drMk p xs).s (drMk p xs).a (drMk p xs).b (drMk p xs).c) l
def drR (l : List UInt8) : Dor := match drRd l with
  | some q => drMk q.1 q.2
  | none => ⟨⟨#[]⟩, 0, 0, 0⟩
def drB (l : List UInt8) : Bool := (drRd l).isSome
def drV (l : List UInt8) : Value := .tuple #[(drR l).val, .bool (drB l)]
theorem drV_n {l : List UInt8} (h : drRd l = none) : drV l = .tuple #[.agg #[.string ⟨#[]⟩, .int .i64 0, .int .i64 0, .int .i64 0], .bool false] := by unfold drV drR drB; rw [h]; rfl
theorem drV_y {l p : List UInt8} {na nb nc : Int} (h : drRd l = some (p, [na, nb, nc])) : drV l = .tuple #[.agg #[.string ⟨p.toArray⟩, .int .i64 na, .int .i64 nb, .int .i64 nc], .bool true] := by unfold drV drR drB; rw [h]; rfl
theorem dr_text {p : List UInt8} {na nb nc : Int} (hk : doorOk (drMk p [na, nb, nc]).s (drMk p [na, nb, nc]).a (drMk p [na, nb, nc]).b (drMk p [na, nb, nc]).c = true) : (drT (drMk p [na, nb, nc])).data.toList = p ++ 32 :: lstL [na, nb, nc] := by
  rw [drT_y hk]
  show (widS ⟨p.toArray⟩ [na, nb, nc]).data.toList = _
  unfold widS
  rw [ltS_y (show fitL [na, nb, nc] = true from drfit hk)]
  unfold lstS
  rw [show (⟨#[32]⟩ : ByteArray) = ⟨[(32 : UInt8)].toArray⟩ from rfl, str_app, str_app]
  simp
theorem dr_name {p : List UInt8} {xs : List Int} (hk : doorOk (drMk p xs).s (drMk p xs).a (drMk p xs).b (drMk p xs).c = true) : (32 : UInt8) ∉ p := by
  have h1 : isName ⟨p.toArray⟩ = true := by unfold doorOk at hk; simp only [Bool.and_eq_true] at hk; exact hk.1.1.1
  have h2 := name_no h1 (c := 32) (by decide)
  rwa [mk_list] at h2
theorem dr_bad {p : List UInt8} {xs : List Int} (hk : doorOk (drMk p xs).s (drMk p xs).a (drMk p xs).b (drMk p xs).c = false) : (drT (drMk p xs)).data.toList = [] := by rw [drT_n hk]
set_option maxHeartbeats 3200000 in
set_option maxRecDepth 100000 in
theorem specdr_any (s : ByteArray) (w : World) (hs : s.size ≤ 1048576) :
    Calls Tryd.prog 36 #[.string s] w fun e w' => e = .returned (drV s.data.toList) ∧ Below w.heap.size w w' := by
  have HS : Hid (∀ W : World, Calls Tryd.prog 32 #[.string s, .int .u8 32] W fun e w' => ∃ (A : Option Addr) (n c' : Nat), e = .returned (.slice A n c') ∧ w'.ownsRow W.heap.size 9 1 (.slice A n c') n (strB (splA 32 [] s.data.toList)) ∧ Hid ((splA 32 [] s.data.toList).length = n) ∧ n ≤ 1048577 ∧ Below W.heap.size W w') := fun W => l01Split_any s 32 W hs
  have HK0 := Lib.hid (Blk.new w 29 #[Value.string { data := #[] }, .int .i64 0, .int .i64 0, .int .i64 0])
  have hb0 : Below w.heap.size w (w.alloc (.cells #[Value.string { data := #[] }, .int .i64 0, .int .i64 0, .int .i64 0] 29)) := (Below.refl _ _).alloc (Nat.le_refl _) _
  go_enter Tryd.func36, Tryd.ntmps36
  go_wp2_with fail; ((with_reducible refine (HS.out _).mono ?_); rintro e w2 ⟨A, n, c, rfl, ho2, HN, hn, hb2⟩)
  have K1 := HK0.out.below hb2 (by simp)
  have HK1 := Lib.hid K1
  have hB2 := hb0.trans (hb2.mono hb0.size)
  have hz2 : w.heap.size < w2.heap.size := by have h := hb2.size; simp at h; omega
  clear K1 hb2
  by_cases hn2 : n = 2
  · subst hn2
    obtain ⟨p, t, hpt⟩ : ∃ p t, splA 32 [] s.data.toList = [p, t] := by
      have h := HN.out
      match hq : splA 32 [] s.data.toList, h with
      | [p, t], _ => exact ⟨p, t, rfl⟩
    have htl := splA_size _ _ t (by rw [hpt]; exact List.mem_cons_of_mem _ (List.mem_singleton_self _))
    have hwt := rw_two (m := 3) (ok := fun p xs => doorOk (drMk p xs).s (drMk p xs).a (drMk p xs).b (drMk p xs).c) hpt
    rw [hpt] at ho2
    obtain ⟨ga, rfl, hga, hca, hcells⟩ := own_addr ho2 (by omega)
    have c0 : w2.cell? ⟨ga, 0, none⟩ = some (.string ⟨p.toArray⟩) := hcells 0 _ rfl
    have c1 : w2.cell? ⟨ga, 1, none⟩ = some (.string ⟨t.toArray⟩) := hcells 1 _ rfl
    have cL := specReadList_any ⟨t.toArray⟩ w2 (by rw [mk_size]; rw [blen] at htl; simp at htl; omega)
    rw [mk_list] at cL
    have HWT := Lib.hid hwt
    have HCL := Lib.hid cL
    have HPT := Lib.hid hpt
    generalize (⟨t.toArray⟩ : ByteArray) = st at *
    clear hcells ho2 hca htl cL hwt hpt HN
    go_wp2_with fail; ((with_reducible refine HCL.out.mono ?_); rintro e w3 ⟨B, m, d, rfl, ho3, hm, hb3⟩)
    have K2 := HK1.out.below hb3 hz2
    have hB3 := hB2.trans (hb3.mono hB2.size)
    have hz3 := hb3.size
    have c0' := (hb3.cell (block_lt_of_cell c0)).trans c0
    clear c0 c1 HCL
    rcases hr : rdL t with _ | xs
    · have HV : Hid (drV s.data.toList = _) := drV_n (by show rdW _ _ _ = none; rw [HWT.out, hr])
      rw [lsB_n hr]
      clear hr HWT ho3 hB2 hb3 HK1 HS HK0 HPT c0'
      have e0 := K2.cell 0
      have r0 := K2.frozen 0
      have e1 := K2.cell 1
      have r1 := K2.frozen 1
      have e2 := K2.cell 2
      have r2 := K2.frozen 2
      have e3 := K2.cell 3
      have r3 := K2.frozen 3
      go_wp2
      refine bodyPost_ret (v := .tuple #[.agg #[.string ⟨#[]⟩, .int .i64 0, .int .i64 0, .int .i64 0], .bool false]) (by simp [results, Tryd.results36, go_sem, e0, e1, e2, e3] <;> rfl) rfl ⟨by rw [HV.out], ?_⟩
      repeat (first | exact hB3 | (refine Below.setCell ?_ (by first | (simp; done) | (simp; omega)) _))
    · have hlen : xs.length = m := by have h := ints_len (Reads.of_own ho3); rwa [lsV_y hr] at h
      rw [lsV_y hr] at ho3
      rw [lsB_y hr]
      by_cases hm4 : m = 3
      · subst hm4
        obtain ⟨na, nb, nc, rfl⟩ : ∃ na nb nc, xs = [na, nb, nc] := by
          match xs, hlen with
          | [na, nb, nc], _ => exact ⟨na, nb, nc, rfl⟩
        obtain ⟨gb, rfl, hgb, hcb, hcells⟩ := own_addr ho3 (by omega)
        have x0 : w3.cell? ⟨gb, 0, none⟩ = some (.int .i64 na) := hcells 0 _ rfl
        have x1 : w3.cell? ⟨gb, 1, none⟩ = some (.int .i64 nb) := hcells 1 _ rfl
        have x2 : w3.cell? ⟨gb, 2, none⟩ = some (.int .i64 nc) := hcells 2 _ rfl
        have hps : (⟨p.toArray⟩ : ByteArray).size ≤ maxLen := by
          have h := splA_size _ _ p (by rw [HPT.out]; exact List.mem_cons_self ..)
          rw [blen] at h; rw [mk_size]; unfold maxLen; simp at h; omega
        have cO := l10One_any ⟨p.toArray⟩ na nb nc w3.heap.size (w3.alloc (.cells #[.string ⟨p.toArray⟩, .int .i64 na, .int .i64 nb, .int .i64 nc] 29)).drew hps ((Blk.new w3 29 #[.string ⟨p.toArray⟩, .int .i64 na, .int .i64 nb, .int .i64 nc]).drew.cell 0) ((Blk.new w3 29 #[.string ⟨p.toArray⟩, .int .i64 na, .int .i64 nb, .int .i64 nc]).drew.cell 1) ((Blk.new w3 29 #[.string ⟨p.toArray⟩, .int .i64 na, .int .i64 nb, .int .i64 nc]).drew.cell 2) ((Blk.new w3 29 #[.string ⟨p.toArray⟩, .int .i64 na, .int .i64 nb, .int .i64 nc]).drew.cell 3)
        have Y := Lib.hid (Blk.new w3 29 #[.string ⟨p.toArray⟩, .int .i64 na, .int .i64 nb, .int .i64 nc]).drew
        have K4 := Lib.hid (K2.alloc (.cells #[.string ⟨p.toArray⟩, .int .i64 na, .int .i64 nb, .int .i64 nc] 29)).drew
        have hB4 := (hB3.alloc hB3.size (.cells #[.string ⟨p.toArray⟩, .int .i64 na, .int .i64 nb, .int .i64 nc] 29)).drew
        have hz4 : w.heap.size < (w3.alloc (.cells #[.string ⟨p.toArray⟩, .int .i64 na, .int .i64 nb, .int .i64 nc] 29)).drew.heap.size := by simp; omega
        have hrd : drRd s.data.toList = if doorOk (drMk p [na, nb, nc]).s (drMk p [na, nb, nc]).a (drMk p [na, nb, nc]).b (drMk p [na, nb, nc]).c = true then some (p, [na, nb, nc]) else none := by
          show rdW _ _ _ = _
          rw [HWT.out, hr]
          simp only []
          rcases Bool.eq_false_or_eq_true (doorOk (drMk p [na, nb, nc]).s (drMk p [na, nb, nc]).a (drMk p [na, nb, nc]).b (drMk p [na, nb, nc]).c) with q | q
          · rw [if_pos ⟨rfl, q⟩, if_pos q]
          · rw [if_neg (fun h => by rw [q] at h; exact absurd h.2 (by simp)), if_neg (by rw [q]; simp)]
        have hy : ∀ q, doorOk (drMk p [na, nb, nc]).s (drMk p [na, nb, nc]).a (drMk p [na, nb, nc]).b (drMk p [na, nb, nc]).c = q → Hid (drV s.data.toList = if q = true then .tuple #[.agg #[.string ⟨p.toArray⟩, .int .i64 na, .int .i64 nb, .int .i64 nc], .bool true] else .tuple #[.agg #[.string ⟨#[]⟩, .int .i64 0, .int .i64 0, .int .i64 0], .bool false]) := fun q hq => by
          show _ = _
          rw [hq] at hrd
          cases q with
          | true => exact drV_y hrd
          | false => exact drV_n hrd
        obtain ⟨q, hq⟩ : ∃ q, doorOk (drMk p [na, nb, nc]).s (drMk p [na, nb, nc]).a (drMk p [na, nb, nc]).b (drMk p [na, nb, nc]).c = q := ⟨_, rfl⟩
        have HV0 := hy q hq
        have cO' : Hid (Calls Tryd.prog 47 #[.pointer (some ⟨w3.heap.size, 0, none⟩)] (w3.alloc (.cells #[.string ⟨p.toArray⟩, .int .i64 na, .int .i64 nb, .int .i64 nc] 29)).drew fun e w' => e = .returned (.bool q) ∧ ∃ n, w' = (w3.alloc (.cells #[.string ⟨p.toArray⟩, .int .i64 na, .int .i64 nb, .int .i64 nc] 29)).drew.drewN n) := by
          rw [← hq]; exact cO
        have cw : (ga : Nat) < w3.heap.size := by omega
        have cv : (gb : Nat) < w3.heap.size := by omega
        clear hcells ho3 hlen hcb hga hgb K2 HS HK0 HK1 hb3 hB2 hps cO hrd hy hq hr HWT HPT
        generalize (⟨p.toArray⟩ : ByteArray) = sp at *
        go_wp2
        go_region
        go_wp2_with fail
        generalize (w3.alloc (.cells #[.string sp, .int .i64 na, .int .i64 nb, .int .i64 nc] 29)).drew = w4 at *
        refine cO'.out.mono ?_
        rintro e w' ⟨rfl, nq, rfl⟩
        cases q
        · have HV : Hid (drV s.data.toList = .tuple #[.agg #[.string ⟨#[]⟩, .int .i64 0, .int .i64 0, .int .i64 0], .bool false]) := HV0.out
          have e0 := K4.out.cell 0
          have r0 := K4.out.frozen 0
          have e1 := K4.out.cell 1
          have r1 := K4.out.frozen 1
          have e2 := K4.out.cell 2
          have r2 := K4.out.frozen 2
          have e3 := K4.out.cell 3
          have r3 := K4.out.frozen 3
          go_wp2
          refine bodyPost_ret (v := .tuple #[.agg #[.string ⟨#[]⟩, .int .i64 0, .int .i64 0, .int .i64 0], .bool false]) (by simp [results, Tryd.results36, go_sem, e0, e1, e2, e3] <;> rfl) rfl ⟨by rw [HV.out], ?_⟩
          repeat (first | exact (below_drewN hB4 _) | (refine Below.setCell ?_ (by first | (simp; done) | (simp; omega)) _))
        · have HV : Hid (drV s.data.toList = .tuple #[.agg #[.string sp, .int .i64 na, .int .i64 nb, .int .i64 nc], .bool true]) := HV0.out
          have e0 := K4.out.cell 0
          have r0 := K4.out.frozen 0
          have y0 := Y.out.cell 0
          have e1 := K4.out.cell 1
          have r1 := K4.out.frozen 1
          have y1 := Y.out.cell 1
          have e2 := K4.out.cell 2
          have r2 := K4.out.frozen 2
          have y2 := Y.out.cell 2
          have e3 := K4.out.cell 3
          have r3 := K4.out.frozen 3
          have y3 := Y.out.cell 3
          go_wp2
          refine bodyPost_ret (v := .tuple #[.agg #[.string sp, .int .i64 na, .int .i64 nb, .int .i64 nc], .bool true]) (by simp [results, Tryd.results36, go_sem, e0, e1, e2, e3] <;> rfl) rfl ⟨by rw [HV.out], ?_⟩
          repeat (first | exact (below_drewN hB4 _) | (refine Below.setCell ?_ (by first | (simp; done) | (simp; omega)) _))
      · have HV : Hid (drV s.data.toList = _) := drV_n (by show rdW _ _ _ = none; rw [HWT.out, hr]; simp only []; rw [if_neg (by omega)])
        have hd : ((m : Int) != 3) = true := by rw [bne_iff_ne]; omega
        clear hr HWT ho3 hB2 hb3 HK1 HS HK0 HPT c0' hlen
        have e0 := K2.cell 0
        have r0 := K2.frozen 0
        have e1 := K2.cell 1
        have r1 := K2.frozen 1
        have e2 := K2.cell 2
        have r2 := K2.frozen 2
        have e3 := K2.cell 3
        have r3 := K2.frozen 3
        go_wp2
        refine bodyPost_ret (v := .tuple #[.agg #[.string ⟨#[]⟩, .int .i64 0, .int .i64 0, .int .i64 0], .bool false]) (by simp [results, Tryd.results36, go_sem, e0, e1, e2, e3] <;> rfl) rfl ⟨by rw [HV.out], ?_⟩
        repeat (first | exact hB3 | (refine Below.setCell ?_ (by first | (simp; done) | (simp; omega)) _))
  · have HV : Hid (drV s.data.toList = _) := drV_n (rw_len (by rw [HN.out]; exact hn2))
    have hd : ((n : Int) != 2) = true := by rw [bne_iff_ne]; omega
    clear HN ho2 hn2 HS HK0
    have K1 := HK1.out
    have e0 := K1.cell 0
    have r0 := K1.frozen 0
    have e1 := K1.cell 1
    have r1 := K1.frozen 1
    have e2 := K1.cell 2
    have r2 := K1.frozen 2
    have e3 := K1.cell 3
    have r3 := K1.frozen 3
    go_wp2
    refine bodyPost_ret (v := .tuple #[.agg #[.string ⟨#[]⟩, .int .i64 0, .int .i64 0, .int .i64 0], .bool false]) (by simp [results, Tryd.results36, go_sem, e0, e1, e2, e3] <;> rfl) rfl ⟨by rw [HV.out], ?_⟩
    repeat (first | exact hB2 | (refine Below.setCell ?_ (by first | (simp; done) | (simp; omega)) _))
set_option maxHeartbeats 3200000 in
set_option maxRecDepth 100000 in
theorem impldr_any (s : ByteArray) (w : World) (hs : s.size ≤ 1048576) (ht : Lib3 w) :
    Calls Tryd.prog 13 #[.string s] w fun e w' => e = .returned (drV s.data.toList) ∧ Below w.heap.size w w' := by
  have HK0 := Lib.hid (Blk.new w 29 #[Value.string { data := #[] }, .int .i64 0, .int .i64 0, .int .i64 0])
  have hb0 : Below w.heap.size w (w.alloc (.cells #[Value.string { data := #[] }, .int .i64 0, .int .i64 0, .int .i64 0] 29)) := (Below.refl _ _).alloc (Nat.le_refl _) _
  by_cases hx : ∃ xs, rdL (Lib.cut s.data.toList [32]).2.1 = some xs ∧ xs.length = 3
  · obtain ⟨xs, hr, hl⟩ := hx
    obtain ⟨na, nb, nc, rfl⟩ : ∃ na nb nc, xs = [na, nb, nc] := by
      match xs, hl with
      | [na, nb, nc], _ => exact ⟨na, nb, nc, rfl⟩
    have HC := Lib.hid (readWithId_yes s 3 3 rfl _ hs (lib3_below ht hb0) (by omega) _ hr rfl)
    have hps := (cut_len s.data.toList 32).2
    rw [blen] at hps
    have HT : Hid (∀ W, Below w.heap.size w W → Calls Tryd.prog 27 #[.agg #[.string ⟨(Lib.cut s.data.toList [32]).1.toArray⟩, .int .i64 na, .int .i64 nb, .int .i64 nc]] W fun e w' => e = .returned (.string (drT (drMk (Lib.cut s.data.toList [32]).1 [na, nb, nc]))) ∧ Below W.heap.size W w') := fun W hW => implDoorText_any (drMk (Lib.cut s.data.toList [32]).1 [na, nb, nc]) W (by show (⟨(Lib.cut s.data.toList [32]).1.toArray⟩ : ByteArray).size ≤ _; rw [mk_size]; omega) (pow_below ht.pow hW)
    have hcase : ∃ q : Bool, ((drT (drMk (Lib.cut s.data.toList [32]).1 [na, nb, nc])).toList == s.toList) = q ∧ drV s.data.toList = if q = true then .tuple #[.agg #[.string ⟨(Lib.cut s.data.toList [32]).1.toArray⟩, .int .i64 na, .int .i64 nb, .int .i64 nc], .bool true] else .tuple #[.agg #[.string ⟨#[]⟩, .int .i64 0, .int .i64 0, .int .i64 0], .bool false] := by
      by_cases he : (drT (drMk (Lib.cut s.data.toList [32]).1 [na, nb, nc])).data.toList = s.data.toList
      · refine ⟨true, by rw [toL_eq]; exact decide_eq_true he, ?_⟩
        rw [if_pos rfl]
        rcases Bool.eq_false_or_eq_true (doorOk (drMk (Lib.cut s.data.toList [32]).1 [na, nb, nc]).s (drMk (Lib.cut s.data.toList [32]).1 [na, nb, nc]).a (drMk (Lib.cut s.data.toList [32]).1 [na, nb, nc]).b (drMk (Lib.cut s.data.toList [32]).1 [na, nb, nc]).c) with k0 | k0
        · exact drV_y (pw_yes hr rfl k0 (dr_name k0) (by rw [← dr_text k0]; exact he))
        · exact absurd (he.symm.trans (dr_bad k0)) (pw_nonempty hr)
      · refine ⟨false, by rw [toL_eq]; exact decide_eq_false he, ?_⟩
        rw [if_neg (by simp)]
        exact drV_n (pw_else hr fun ⟨h1, h2⟩ => he (by rw [dr_text h1]; exact h2))
    obtain ⟨q, hq, hv⟩ := hcase
    have HV0 := Lib.hid hv
    clear hv hps hr ht hl
    generalize drT (drMk (Lib.cut s.data.toList [32]).1 [na, nb, nc]) = tx at *
    generalize (⟨(Lib.cut s.data.toList [32]).1.toArray⟩ : ByteArray) = sp at *
    go_enter Tryd.func13, Tryd.ntmps13
    go_wp2_with fail; ((with_reducible refine HC.out.mono ?_); rintro e w3 ⟨gb, cb, rfl, hcells, hgb, hb3⟩)
    have K2 := HK0.out.below hb3 (by simp)
    have hB3 := hb0.trans (hb3.mono hb0.size)
    have hz3 : w.heap.size < w3.heap.size := by have h := hb3.size; simp at h; omega
    have x0 : w3.cell? ⟨gb, 0, none⟩ = some (.int .i64 na) := hcells 0 _ rfl
    have x1 : w3.cell? ⟨gb, 1, none⟩ = some (.int .i64 nb) := hcells 1 _ rfl
    have x2 : w3.cell? ⟨gb, 2, none⟩ = some (.int .i64 nc) := hcells 2 _ rfl
    have Y := Lib.hid (Blk.new w3 29 #[.string sp, .int .i64 na, .int .i64 nb, .int .i64 nc]).drew
    have K4 := Lib.hid (K2.alloc (.cells #[.string sp, .int .i64 na, .int .i64 nb, .int .i64 nc] 29)).drew
    have hB4 := (hB3.alloc hB3.size (.cells #[.string sp, .int .i64 na, .int .i64 nb, .int .i64 nc] 29)).drew
    have hz4 : w.heap.size < (w3.alloc (.cells #[.string sp, .int .i64 na, .int .i64 nb, .int .i64 nc] 29)).drew.heap.size := by simp; omega
    have hz5 : w3.heap.size < (w3.alloc (.cells #[.string sp, .int .i64 na, .int .i64 nb, .int .i64 nc] 29)).drew.heap.size := by simp
    have HT4 := Lib.hid (HT.out _ hB4)
    clear hcells K2 HC HK0 hb3 HT
    go_wp2
    go_region
    have HG : Hid (w3.heap.size = w3.heap.size) := rfl
    have y0 := Y.out.cell 0
    have ry0 := Y.out.frozen 0
    have y1 := Y.out.cell 1
    have ry1 := Y.out.frozen 1
    have y2 := Y.out.cell 2
    have ry2 := Y.out.frozen 2
    have y3 := Y.out.cell 3
    have ry3 := Y.out.frozen 3
    generalize (w3.alloc (.cells #[.string sp, .int .i64 na, .int .i64 nb, .int .i64 nc] 29)).drew = w4 at *
    cases q
    · have HV : Hid (drV s.data.toList = .tuple #[.agg #[.string ⟨#[]⟩, .int .i64 0, .int .i64 0, .int .i64 0], .bool false]) := HV0.out
      go_wp2_with fail; ((with_reducible refine HT4.out.mono ?_); rintro e w5 ⟨rfl, hb5⟩)
      have hB5 := hB4.trans (hb5.mono hB4.size)
      have K5 := K4.out.below hb5 hz4
      clear Y K4 y0 ry0 y1 ry1 y2 ry2 y3 ry3
      have e0 := K5.cell 0
      have r0 := K5.frozen 0
      have e1 := K5.cell 1
      have r1 := K5.frozen 1
      have e2 := K5.cell 2
      have r2 := K5.frozen 2
      have e3 := K5.cell 3
      have r3 := K5.frozen 3
      go_wp2
      refine bodyPost_ret (v := .tuple #[.agg #[.string ⟨#[]⟩, .int .i64 0, .int .i64 0, .int .i64 0], .bool false]) (by simp [results, Tryd.results13, go_sem, e0, e1, e2, e3] <;> rfl) rfl ⟨by rw [HV.out], ?_⟩
      repeat (first | exact hB5 | (refine Below.setCell ?_ (by first | (simp; done) | (simp; omega)) _))
    · have HV : Hid (drV s.data.toList = .tuple #[.agg #[.string sp, .int .i64 na, .int .i64 nb, .int .i64 nc], .bool true]) := HV0.out
      go_wp2_with fail; ((with_reducible refine HT4.out.mono ?_); rintro e w5 ⟨rfl, hb5⟩)
      have hB5 := hB4.trans (hb5.mono hB4.size)
      have K5 := K4.out.below hb5 hz4
      have Y5 := Y.out.below hb5 hz5
      clear Y K4 y0 ry0 y1 ry1 y2 ry2 y3 ry3
      have e0 := K5.cell 0
      have r0 := K5.frozen 0
      have y0 := Y5.cell 0
      have e1 := K5.cell 1
      have r1 := K5.frozen 1
      have y1 := Y5.cell 1
      have e2 := K5.cell 2
      have r2 := K5.frozen 2
      have y2 := Y5.cell 2
      have e3 := K5.cell 3
      have r3 := K5.frozen 3
      have y3 := Y5.cell 3
      go_wp2
      refine bodyPost_ret (v := .tuple #[.agg #[.string sp, .int .i64 na, .int .i64 nb, .int .i64 nc], .bool true]) (by simp [results, Tryd.results13, go_sem, e0, e1, e2, e3] <;> rfl) rfl ⟨by rw [HV.out], ?_⟩
      repeat (first | exact hB5 | (refine Below.setCell ?_ (by first | (simp; done) | (simp; omega)) _))
  · have HV : Hid (drV s.data.toList = _) := drV_n (pw_no fun xs h e => hx ⟨xs, h, e⟩)
    have HC := Lib.hid (readWithId_no s 3 3 rfl _ hs (lib3_below ht hb0) (by omega) fun xs h e => hx ⟨xs, h, e⟩)
    clear hx ht
    go_enter Tryd.func13, Tryd.ntmps13
    go_wp2_with fail; ((with_reducible refine HC.out.mono ?_); rintro e w3 ⟨gb, cb, rfl, hcells, hgb, hb3⟩)
    have K2 := HK0.out.below hb3 (by simp)
    have hB3 := hb0.trans (hb3.mono hb0.size)
    have hz3 : w.heap.size < w3.heap.size := by have h := hb3.size; simp at h; omega
    have x0 : w3.cell? ⟨gb, 0, none⟩ = some (.int .i64 0) := hcells 0 _ rfl
    have x1 : w3.cell? ⟨gb, 1, none⟩ = some (.int .i64 0) := hcells 1 _ rfl
    have x2 : w3.cell? ⟨gb, 2, none⟩ = some (.int .i64 0) := hcells 2 _ rfl
    have K4 := Lib.hid (K2.alloc (.cells #[.string ⟨#[]⟩, .int .i64 0, .int .i64 0, .int .i64 0] 29)).drew
    have hB4 := (hB3.alloc hB3.size (.cells #[.string ⟨#[]⟩, .int .i64 0, .int .i64 0, .int .i64 0] 29)).drew
    clear hcells K2 HC HK0 hb3
    go_wp2
    go_region
    generalize (w3.alloc (.cells #[.string ⟨#[]⟩, .int .i64 0, .int .i64 0, .int .i64 0] 29)).drew = w4 at *
    have e0 := K4.out.cell 0
    have r0 := K4.out.frozen 0
    have e1 := K4.out.cell 1
    have r1 := K4.out.frozen 1
    have e2 := K4.out.cell 2
    have r2 := K4.out.frozen 2
    have e3 := K4.out.cell 3
    have r3 := K4.out.frozen 3
    go_wp2
    refine bodyPost_ret (v := .tuple #[.agg #[.string ⟨#[]⟩, .int .i64 0, .int .i64 0, .int .i64 0], .bool false]) (by simp [results, Tryd.results13, go_sem, e0, e1, e2, e3] <;> rfl) rfl ⟨by rw [HV.out], ?_⟩
    repeat (first | exact hB4 | (refine Below.setCell ?_ (by first | (simp; done) | (simp; omega)) _))
set_option maxHeartbeats 800000 in
theorem specReadDoor_any (s : ByteArray) (w : World) (hs : s.size ≤ 1048576) :
    Calls Tryd.prog 12 #[.string s] w fun e w' => e = .returned (drV s.data.toList) ∧ Below w.heap.size w w' := by
  have HK0 := Lib.hid (Blk.new w 29 #[Value.string { data := #[] }, .int .i64 0, .int .i64 0, .int .i64 0])
  have hb0 : Below w.heap.size w (w.alloc (.cells #[Value.string { data := #[] }, .int .i64 0, .int .i64 0, .int .i64 0] 29)) := (Below.refl _ _).alloc (Nat.le_refl _) _
  have HC : Hid (∀ W, Calls Tryd.prog 36 #[.string s] W fun e w' => e = .returned (.tuple #[.agg #[.string (drR s.data.toList).s, .int .i64 (drR s.data.toList).a, .int .i64 (drR s.data.toList).b, .int .i64 (drR s.data.toList).c], .bool (drB s.data.toList)]) ∧ Below W.heap.size W w') := fun W => specdr_any s W hs
  have HV : Hid (drV s.data.toList = .tuple #[.agg #[.string (drR s.data.toList).s, .int .i64 (drR s.data.toList).a, .int .i64 (drR s.data.toList).b, .int .i64 (drR s.data.toList).c], .bool (drB s.data.toList)]) := rfl
  generalize drR s.data.toList = x at *
  generalize drB s.data.toList = b at *
  go_enter Tryd.func12, Tryd.ntmps12
  go_wp2_with fail; ((with_reducible refine (HC.out _).mono ?_); rintro e w2 ⟨rfl, hb2⟩)
  have K1 := HK0.out.below hb2 (by simp)
  have hB2 := hb0.trans (hb2.mono hb0.size)
  have hz2 : w.heap.size < w2.heap.size := by have h := hb2.size; simp at h; omega
  clear HK0 HC
  have e0 := K1.cell 0
  have r0 := K1.frozen 0
  have e1 := K1.cell 1
  have r1 := K1.frozen 1
  have e2 := K1.cell 2
  have r2 := K1.frozen 2
  have e3 := K1.cell 3
  have r3 := K1.frozen 3
  go_wp2
  refine bodyPost_ret (v := .tuple #[.agg #[.string x.s, .int .i64 x.a, .int .i64 x.b, .int .i64 x.c], .bool b]) (by simp [results, Tryd.results12, go_sem, e0, e1, e2, e3] <;> rfl) rfl ⟨by rw [HV.out], ?_⟩
  repeat (first | exact hB2 | (refine Below.setCell ?_ (by first | (simp; done) | (simp; omega)) _))
end Go.Proofs.YtdooajiobpjihaaDoor
