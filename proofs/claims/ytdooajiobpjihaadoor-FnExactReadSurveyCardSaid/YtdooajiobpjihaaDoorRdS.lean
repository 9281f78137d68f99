/- Contracts of the readings of surveys, both sides. -/
import Derived.Test.YtdooajiobpjihaaDoorRdW
namespace Go.Proofs.YtdooajiobpjihaaDoor
set_option linter.unusedVariables false
set_option linter.unusedSimpArgs false
open Go.RowKit
def svMk (p : List UInt8) (xs : List Int) : Svy := ⟨⟨p.toArray⟩, xs.getD 0 0, xs.getD 1 0, xs.getD 2 0, xs.getD 3 0⟩
/-- A text read. -/
def svRd (l : List UInt8) : Option (List UInt8 × List Int) := rdW 4 (fun p xs => svyOk (svMk p xs)) l
def svR (l : List UInt8) : Svy := match svRd l with
  | some q => svMk q.1 q.2
  | none => ⟨⟨#[]⟩, 0, 0, 0, 0⟩
def svB (l : List UInt8) : Bool := (svRd l).isSome
def svV (l : List UInt8) : Value := .tuple #[(svR l).val, .bool (svB l)]
theorem svV_n {l : List UInt8} (h : svRd l = none) : svV l = .tuple #[.agg #[.string ⟨#[]⟩, .int .i64 0, .int .i64 0, .int .i64 0, .int .i64 0], .bool false] := by unfold svV svR svB; rw [h]; rfl
theorem svV_y {l p : List UInt8} {na nb nc nd : Int} (h : svRd l = some (p, [na, nb, nc, nd])) : svV l = .tuple #[.agg #[.string ⟨p.toArray⟩, .int .i64 na, .int .i64 nb, .int .i64 nc, .int .i64 nd], .bool true] := by unfold svV svR svB; rw [h]; rfl
theorem sv_text {p : List UInt8} {na nb nc nd : Int} (hk : svyOk (svMk p [na, nb, nc, nd]) = true) : (svT (svMk p [na, nb, nc, nd])).data.toList = p ++ 32 :: lstL [na, nb, nc, nd] := by
  rw [svT_y hk]
  show (widS ⟨p.toArray⟩ [na, nb, nc, nd]).data.toList = _
  unfold widS
  rw [ltS_y (show fitL [na, nb, nc, nd] = true from svfit hk)]
  unfold lstS
  rw [show (⟨#[32]⟩ : ByteArray) = ⟨[(32 : UInt8)].toArray⟩ from rfl, str_app, str_app]
  simp
theorem sv_name {p : List UInt8} {xs : List Int} (hk : svyOk (svMk p xs) = true) : (32 : UInt8) ∉ p := by
  have h1 : isName ⟨p.toArray⟩ = true := by unfold svyOk at hk; simp only [Bool.and_eq_true] at hk; exact hk.1.1.1.1
  have h2 := name_no h1 (c := 32) (by decide)
  rwa [mk_list] at h2
theorem sv_bad {p : List UInt8} {xs : List Int} (hk : svyOk (svMk p xs) = false) : (svT (svMk p xs)).data.toList = [] := by rw [svT_n hk]
set_option maxHeartbeats 3200000 in
set_option maxRecDepth 100000 in
theorem specsv_any (s : ByteArray) (w : World) (hs : s.size ≤ 1048576) :
    Calls Tryd.prog 9 #[.string s] w fun e w' => e = .returned (svV s.data.toList) ∧ Below w.heap.size w w' := by
  have HS : Hid (∀ W : World, Calls Tryd.prog 32 #[.string s, .int .u8 32] W fun e w' => ∃ (A : Option Addr) (n c' : Nat), e = .returned (.slice A n c') ∧ w'.ownsRow W.heap.size 9 1 (.slice A n c') n (strB (splA 32 [] s.data.toList)) ∧ Hid ((splA 32 [] s.data.toList).length = n) ∧ n ≤ 1048577 ∧ Below W.heap.size W w') := fun W => l01Split_any s 32 W hs
  have HK0 := Lib.hid (Blk.new w 23 #[Value.string { data := #[] }, .int .i64 0, .int .i64 0, .int .i64 0, .int .i64 0])
  have hb0 : Below w.heap.size w (w.alloc (.cells #[Value.string { data := #[] }, .int .i64 0, .int .i64 0, .int .i64 0, .int .i64 0] 23)) := (Below.refl _ _).alloc (Nat.le_refl _) _
  go_enter Tryd.func9, Tryd.ntmps9
  go_wp2_with fail; ((with_reducible refine (HS.out _).mono ?_); rintro e w2 ⟨A, n, c, rfl, ho2, HN, hn, hb2⟩)
  have K1 := HK0.out.below hb2 (by simp)
  have HK1 := Lib.hid K1
  have hB2 := hb0.trans (hb2.mono hb0.size)
  have hz2 : w.heap.size < w2.heap.size := by have h := hb2.size; simp at h; omega
  clear K1 hb2
  by_cases hn2 : n = 2
  · subst hn2
    obtain ⟨p, t, hpt⟩ : ∃ p t, splA 32 [] s.data.toList = [p, t] := by
      have h := HN.out
      match hq : splA 32 [] s.data.toList, h with
      | [p, t], _ => exact ⟨p, t, rfl⟩
    have htl := splA_size _ _ t (by rw [hpt]; exact List.mem_cons_of_mem _ (List.mem_singleton_self _))
    have hwt := rw_two (m := 4) (ok := fun p xs => svyOk (svMk p xs)) hpt
    rw [hpt] at ho2
    obtain ⟨ga, rfl, hga, hca, hcells⟩ := own_addr ho2 (by omega)
    have c0 : w2.cell? ⟨ga, 0, none⟩ = some (.string ⟨p.toArray⟩) := hcells 0 _ rfl
    have c1 : w2.cell? ⟨ga, 1, none⟩ = some (.string ⟨t.toArray⟩) := hcells 1 _ rfl
    have cL := specReadList_any ⟨t.toArray⟩ w2 (by rw [mk_size]; rw [blen] at htl; simp at htl; omega)
    rw [mk_list] at cL
    have HWT := Lib.hid hwt
    have HCL := Lib.hid cL
    have HPT := Lib.hid hpt
    generalize (⟨t.toArray⟩ : ByteArray) = st at *
    clear hcells ho2 hca htl cL hwt hpt HN
    go_wp2_with fail; ((with_reducible refine HCL.out.mono ?_); rintro e w3 ⟨B, m, d, rfl, ho3, hm, hb3⟩)
    have K2 := HK1.out.below hb3 hz2
    have hB3 := hB2.trans (hb3.mono hB2.size)
    have hz3 := hb3.size
    have c0' := (hb3.cell (block_lt_of_cell c0)).trans c0
    clear c0 c1 HCL
    rcases hr : rdL t with _ | xs
    · have HV : Hid (svV s.data.toList = _) := svV_n (by show rdW _ _ _ = none; rw [HWT.out, hr])
      rw [lsB_n hr]
      clear hr HWT ho3 hB2 hb3 HK1 HS HK0 HPT c0'
      have e0 := K2.cell 0
      have r0 := K2.frozen 0
      have e1 := K2.cell 1
      have r1 := K2.frozen 1
      have e2 := K2.cell 2
      have r2 := K2.frozen 2
      have e3 := K2.cell 3
      have r3 := K2.frozen 3
      have e4 := K2.cell 4
      have r4 := K2.frozen 4
      go_wp2
      refine bodyPost_ret (v := .tuple #[.agg #[.string ⟨#[]⟩, .int .i64 0, .int .i64 0, .int .i64 0, .int .i64 0], .bool false]) (by simp [results, Tryd.results9, go_sem, e0, e1, e2, e3, e4] <;> rfl) rfl ⟨by rw [HV.out], ?_⟩
      repeat (first | exact hB3 | (refine Below.setCell ?_ (by first | (simp; done) | (simp; omega)) _))
    · have hlen : xs.length = m := by have h := ints_len (Reads.of_own ho3); rwa [lsV_y hr] at h
      rw [lsV_y hr] at ho3
      rw [lsB_y hr]
      by_cases hm4 : m = 4
      · subst hm4
        obtain ⟨na, nb, nc, nd, rfl⟩ : ∃ na nb nc nd, xs = [na, nb, nc, nd] := by
          match xs, hlen with
          | [na, nb, nc, nd], _ => exact ⟨na, nb, nc, nd, rfl⟩
        obtain ⟨gb, rfl, hgb, hcb, hcells⟩ := own_addr ho3 (by omega)
        have x0 : w3.cell? ⟨gb, 0, none⟩ = some (.int .i64 na) := hcells 0 _ rfl
        have x1 : w3.cell? ⟨gb, 1, none⟩ = some (.int .i64 nb) := hcells 1 _ rfl
        have x2 : w3.cell? ⟨gb, 2, none⟩ = some (.int .i64 nc) := hcells 2 _ rfl
        have x3 : w3.cell? ⟨gb, 3, none⟩ = some (.int .i64 nd) := hcells 3 _ rfl
        have hps : (⟨p.toArray⟩ : ByteArray).size ≤ maxLen := by
          have h := splA_size _ _ p (by rw [HPT.out]; exact List.mem_cons_self ..)
          rw [blen] at h; rw [mk_size]; unfold maxLen; simp at h; omega
        have cO := l05One_any (svMk p [na, nb, nc, nd]) ⟨w3.heap.size, 0, none⟩ (w3.alloc (.cells #[.string ⟨p.toArray⟩, .int .i64 na, .int .i64 nb, .int .i64 nc, .int .i64 nd] 23)).drew hps ((Cells.new w3 _ _).drewN 1)
        have Y := Lib.hid (Blk.new w3 23 #[.string ⟨p.toArray⟩, .int .i64 na, .int .i64 nb, .int .i64 nc, .int .i64 nd]).drew
        have K4 := Lib.hid (K2.alloc (.cells #[.string ⟨p.toArray⟩, .int .i64 na, .int .i64 nb, .int .i64 nc, .int .i64 nd] 23)).drew
        have hB4 := (hB3.alloc hB3.size (.cells #[.string ⟨p.toArray⟩, .int .i64 na, .int .i64 nb, .int .i64 nc, .int .i64 nd] 23)).drew
        have hz4 : w.heap.size < (w3.alloc (.cells #[.string ⟨p.toArray⟩, .int .i64 na, .int .i64 nb, .int .i64 nc, .int .i64 nd] 23)).drew.heap.size := by simp; omega
        have hrd : svRd s.data.toList = if svyOk (svMk p [na, nb, nc, nd]) = true then some (p, [na, nb, nc, nd]) else none := by
          show rdW _ _ _ = _
          rw [HWT.out, hr]
          simp only []
          rcases Bool.eq_false_or_eq_true (svyOk (svMk p [na, nb, nc, nd])) with q | q
          · rw [if_pos ⟨rfl, q⟩, if_pos q]
          · rw [if_neg (fun h => by rw [q] at h; exact absurd h.2 (by simp)), if_neg (by rw [q]; simp)]
        have hy : ∀ q, svyOk (svMk p [na, nb, nc, nd]) = q → Hid (svV s.data.toList = if q = true then .tuple #[.agg #[.string ⟨p.toArray⟩, .int .i64 na, .int .i64 nb, .int .i64 nc, .int .i64 nd], .bool true] else .tuple #[.agg #[.string ⟨#[]⟩, .int .i64 0, .int .i64 0, .int .i64 0, .int .i64 0], .bool false]) := fun q hq => by
          show _ = _
          rw [hq] at hrd
          cases q with
          | true => exact svV_y hrd
          | false => exact svV_n hrd
        obtain ⟨q, hq⟩ : ∃ q, svyOk (svMk p [na, nb, nc, nd]) = q := ⟨_, rfl⟩
        have HV0 := hy q hq
        have cO' : Hid (Calls Tryd.prog 34 #[.pointer (some ⟨w3.heap.size, 0, none⟩)] (w3.alloc (.cells #[.string ⟨p.toArray⟩, .int .i64 na, .int .i64 nb, .int .i64 nc, .int .i64 nd] 23)).drew fun e w' => e = .returned (.bool q) ∧ ∃ n, w' = (w3.alloc (.cells #[.string ⟨p.toArray⟩, .int .i64 na, .int .i64 nb, .int .i64 nc, .int .i64 nd] 23)).drew.drewN n) := by
          rw [← hq]; exact cO
        have cw : (ga : Nat) < w3.heap.size := by omega
        have cv : (gb : Nat) < w3.heap.size := by omega
        clear hcells ho3 hlen hcb hga hgb K2 HS HK0 HK1 hb3 hB2 hps cO hrd hy hq hr HWT HPT
        generalize (⟨p.toArray⟩ : ByteArray) = sp at *
        go_wp2
        go_region
        go_wp2_with fail
        generalize (w3.alloc (.cells #[.string sp, .int .i64 na, .int .i64 nb, .int .i64 nc, .int .i64 nd] 23)).drew = w4 at *
        refine cO'.out.mono ?_
        rintro e w' ⟨rfl, nq, rfl⟩
        cases q
        · have HV : Hid (svV s.data.toList = .tuple #[.agg #[.string ⟨#[]⟩, .int .i64 0, .int .i64 0, .int .i64 0, .int .i64 0], .bool false]) := HV0.out
          have e0 := K4.out.cell 0
          have r0 := K4.out.frozen 0
          have e1 := K4.out.cell 1
          have r1 := K4.out.frozen 1
          have e2 := K4.out.cell 2
          have r2 := K4.out.frozen 2
          have e3 := K4.out.cell 3
          have r3 := K4.out.frozen 3
          have e4 := K4.out.cell 4
          have r4 := K4.out.frozen 4
          go_wp2
          refine bodyPost_ret (v := .tuple #[.agg #[.string ⟨#[]⟩, .int .i64 0, .int .i64 0, .int .i64 0, .int .i64 0], .bool false]) (by simp [results, Tryd.results9, go_sem, e0, e1, e2, e3, e4] <;> rfl) rfl ⟨by rw [HV.out], ?_⟩
          repeat (first | exact (below_drewN hB4 _) | (refine Below.setCell ?_ (by first | (simp; done) | (simp; omega)) _))
        · have HV : Hid (svV s.data.toList = .tuple #[.agg #[.string sp, .int .i64 na, .int .i64 nb, .int .i64 nc, .int .i64 nd], .bool true]) := HV0.out
          have e0 := K4.out.cell 0
          have r0 := K4.out.frozen 0
          have y0 := Y.out.cell 0
          have e1 := K4.out.cell 1
          have r1 := K4.out.frozen 1
          have y1 := Y.out.cell 1
          have e2 := K4.out.cell 2
          have r2 := K4.out.frozen 2
          have y2 := Y.out.cell 2
          have e3 := K4.out.cell 3
          have r3 := K4.out.frozen 3
          have y3 := Y.out.cell 3
          have e4 := K4.out.cell 4
          have r4 := K4.out.frozen 4
          have y4 := Y.out.cell 4
          go_wp2
          refine bodyPost_ret (v := .tuple #[.agg #[.string sp, .int .i64 na, .int .i64 nb, .int .i64 nc, .int .i64 nd], .bool true]) (by simp [results, Tryd.results9, go_sem, e0, e1, e2, e3, e4] <;> rfl) rfl ⟨by rw [HV.out], ?_⟩
          repeat (first | exact (below_drewN hB4 _) | (refine Below.setCell ?_ (by first | (simp; done) | (simp; omega)) _))
      · have HV : Hid (svV s.data.toList = _) := svV_n (by show rdW _ _ _ = none; rw [HWT.out, hr]; simp only []; rw [if_neg (by omega)])
        have hd : ((m : Int) != 4) = true := by rw [bne_iff_ne]; omega
        clear hr HWT ho3 hB2 hb3 HK1 HS HK0 HPT c0' hlen
        have e0 := K2.cell 0
        have r0 := K2.frozen 0
        have e1 := K2.cell 1
        have r1 := K2.frozen 1
        have e2 := K2.cell 2
        have r2 := K2.frozen 2
        have e3 := K2.cell 3
        have r3 := K2.frozen 3
        have e4 := K2.cell 4
        have r4 := K2.frozen 4
        go_wp2
        refine bodyPost_ret (v := .tuple #[.agg #[.string ⟨#[]⟩, .int .i64 0, .int .i64 0, .int .i64 0, .int .i64 0], .bool false]) (by simp [results, Tryd.results9, go_sem, e0, e1, e2, e3, e4] <;> rfl) rfl ⟨by rw [HV.out], ?_⟩
        repeat (first | exact hB3 | (refine Below.setCell ?_ (by first | (simp; done) | (simp; omega)) _))
  · have HV : Hid (svV s.data.toList = _) := svV_n (rw_len (by rw [HN.out]; exact hn2))
    have hd : ((n : Int) != 2) = true := by rw [bne_iff_ne]; omega
    clear HN ho2 hn2 HS HK0
    have K1 := HK1.out
    have e0 := K1.cell 0
    have r0 := K1.frozen 0
    have e1 := K1.cell 1
    have r1 := K1.frozen 1
    have e2 := K1.cell 2
    have r2 := K1.frozen 2
    have e3 := K1.cell 3
    have r3 := K1.frozen 3
    have e4 := K1.cell 4
    have r4 := K1.frozen 4
    go_wp2
    refine bodyPost_ret (v := .tuple #[.agg #[.string ⟨#[]⟩, .int .i64 0, .int .i64 0, .int .i64 0, .int .i64 0], .bool false]) (by simp [results, Tryd.results9, go_sem, e0, e1, e2, e3, e4] <;> rfl) rfl ⟨by rw [HV.out], ?_⟩
    repeat (first | exact hB2 | (refine Below.setCell ?_ (by first | (simp; done) | (simp; omega)) _))
set_option maxHeartbeats 3200000 in
set_option maxRecDepth 100000 in
theorem implsv_any (s : ByteArray) (w : World) (hs : s.size ≤ 1048576) (ht : Lib3 w) :
    Calls Tryd.prog 10 #[.string s] w fun e w' => e = .returned (svV s.data.toList) ∧ Below w.heap.size w w' := by
  have HK0 := Lib.hid (Blk.new w 23 #[Value.string { data := #[] }, .int .i64 0, .int .i64 0, .int .i64 0, .int .i64 0])
  have hb0 : Below w.heap.size w (w.alloc (.cells #[Value.string { data := #[] }, .int .i64 0, .int .i64 0, .int .i64 0, .int .i64 0] 23)) := (Below.refl _ _).alloc (Nat.le_refl _) _
  by_cases hx : ∃ xs, rdL (Lib.cut s.data.toList [32]).2.1 = some xs ∧ xs.length = 4
  · obtain ⟨xs, hr, hl⟩ := hx
    obtain ⟨na, nb, nc, nd, rfl⟩ : ∃ na nb nc nd, xs = [na, nb, nc, nd] := by
      match xs, hl with
      | [na, nb, nc, nd], _ => exact ⟨na, nb, nc, nd, rfl⟩
    have HC := Lib.hid (readWithId_yes s 4 4 rfl _ hs (lib3_below ht hb0) (by omega) _ hr rfl)
    have hps := (cut_len s.data.toList 32).2
    rw [blen] at hps
    have HT : Hid (∀ W, Below w.heap.size w W → Calls Tryd.prog 23 #[.agg #[.string ⟨(Lib.cut s.data.toList [32]).1.toArray⟩, .int .i64 na, .int .i64 nb, .int .i64 nc, .int .i64 nd]] W fun e w' => e = .returned (.string (svT (svMk (Lib.cut s.data.toList [32]).1 [na, nb, nc, nd]))) ∧ Below W.heap.size W w') := fun W hW => implSurveyText_any (svMk (Lib.cut s.data.toList [32]).1 [na, nb, nc, nd]) W (by show (⟨(Lib.cut s.data.toList [32]).1.toArray⟩ : ByteArray).size ≤ _; rw [mk_size]; omega) (pow_below ht.pow hW)
    have hcase : ∃ q : Bool, ((svT (svMk (Lib.cut s.data.toList [32]).1 [na, nb, nc, nd])).toList == s.toList) = q ∧ svV s.data.toList = if q = true then .tuple #[.agg #[.string ⟨(Lib.cut s.data.toList [32]).1.toArray⟩, .int .i64 na, .int .i64 nb, .int .i64 nc, .int .i64 nd], .bool true] else .tuple #[.agg #[.string ⟨#[]⟩, .int .i64 0, .int .i64 0, .int .i64 0, .int .i64 0], .bool false] := by
      by_cases he : (svT (svMk (Lib.cut s.data.toList [32]).1 [na, nb, nc, nd])).data.toList = s.data.toList
      · refine ⟨true, by rw [toL_eq]; exact decide_eq_true he, ?_⟩
        rw [if_pos rfl]
        rcases Bool.eq_false_or_eq_true (svyOk (svMk (Lib.cut s.data.toList [32]).1 [na, nb, nc, nd])) with k0 | k0
        · exact svV_y (pw_yes hr rfl k0 (sv_name k0) (by rw [← sv_text k0]; exact he))
        · exact absurd (he.symm.trans (sv_bad k0)) (pw_nonempty hr)
      · refine ⟨false, by rw [toL_eq]; exact decide_eq_false he, ?_⟩
        rw [if_neg (by simp)]
        exact svV_n (pw_else hr fun ⟨h1, h2⟩ => he (by rw [sv_text h1]; exact h2))
    obtain ⟨q, hq, hv⟩ := hcase
    have HV0 := Lib.hid hv
    clear hv hps hr ht hl
    generalize svT (svMk (Lib.cut s.data.toList [32]).1 [na, nb, nc, nd]) = tx at *
    generalize (⟨(Lib.cut s.data.toList [32]).1.toArray⟩ : ByteArray) = sp at *
    go_enter Tryd.func10, Tryd.ntmps10
    go_wp2_with fail; ((with_reducible refine HC.out.mono ?_); rintro e w3 ⟨gb, cb, rfl, hcells, hgb, hb3⟩)
    have K2 := HK0.out.below hb3 (by simp)
    have hB3 := hb0.trans (hb3.mono hb0.size)
    have hz3 : w.heap.size < w3.heap.size := by have h := hb3.size; simp at h; omega
    have x0 : w3.cell? ⟨gb, 0, none⟩ = some (.int .i64 na) := hcells 0 _ rfl
    have x1 : w3.cell? ⟨gb, 1, none⟩ = some (.int .i64 nb) := hcells 1 _ rfl
    have x2 : w3.cell? ⟨gb, 2, none⟩ = some (.int .i64 nc) := hcells 2 _ rfl
    have x3 : w3.cell? ⟨gb, 3, none⟩ = some (.int .i64 nd) := hcells 3 _ rfl
    have Y := Lib.hid (Blk.new w3 23 #[.string sp, .int .i64 na, .int .i64 nb, .int .i64 nc, .int .i64 nd]).drew
    have K4 := Lib.hid (K2.alloc (.cells #[.string sp, .int .i64 na, .int .i64 nb, .int .i64 nc, .int .i64 nd] 23)).drew
    have hB4 := (hB3.alloc hB3.size (.cells #[.string sp, .int .i64 na, .int .i64 nb, .int .i64 nc, .int .i64 nd] 23)).drew
    have hz4 : w.heap.size < (w3.alloc (.cells #[.string sp, .int .i64 na, .int .i64 nb, .int .i64 nc, .int .i64 nd] 23)).drew.heap.size := by simp; omega
    have hz5 : w3.heap.size < (w3.alloc (.cells #[.string sp, .int .i64 na, .int .i64 nb, .int .i64 nc, .int .i64 nd] 23)).drew.heap.size := by simp
    have HT4 := Lib.hid (HT.out _ hB4)
    clear hcells K2 HC HK0 hb3 HT
    go_wp2
    go_region
    have HG : Hid (w3.heap.size = w3.heap.size) := rfl
    have y0 := Y.out.cell 0
    have ry0 := Y.out.frozen 0
    have y1 := Y.out.cell 1
    have ry1 := Y.out.frozen 1
    have y2 := Y.out.cell 2
    have ry2 := Y.out.frozen 2
    have y3 := Y.out.cell 3
    have ry3 := Y.out.frozen 3
    have y4 := Y.out.cell 4
    have ry4 := Y.out.frozen 4
    generalize (w3.alloc (.cells #[.string sp, .int .i64 na, .int .i64 nb, .int .i64 nc, .int .i64 nd] 23)).drew = w4 at *
    cases q
    · have HV : Hid (svV s.data.toList = .tuple #[.agg #[.string ⟨#[]⟩, .int .i64 0, .int .i64 0, .int .i64 0, .int .i64 0], .bool false]) := HV0.out
      go_wp2_with fail; ((with_reducible refine HT4.out.mono ?_); rintro e w5 ⟨rfl, hb5⟩)
      have hB5 := hB4.trans (hb5.mono hB4.size)
      have K5 := K4.out.below hb5 hz4
      clear Y K4 y0 ry0 y1 ry1 y2 ry2 y3 ry3 y4 ry4
      have e0 := K5.cell 0
      have r0 := K5.frozen 0
      have e1 := K5.cell 1
      have r1 := K5.frozen 1
      have e2 := K5.cell 2
      have r2 := K5.frozen 2
      have e3 := K5.cell 3
      have r3 := K5.frozen 3
      have e4 := K5.cell 4
      have r4 := K5.frozen 4
      go_wp2
      refine bodyPost_ret (v := .tuple #[.agg #[.string ⟨#[]⟩, .int .i64 0, .int .i64 0, .int .i64 0, .int .i64 0], .bool false]) (by simp [results, Tryd.results10, go_sem, e0, e1, e2, e3, e4] <;> rfl) rfl ⟨by rw [HV.out], ?_⟩
      repeat (first | exact hB5 | (refine Below.setCell ?_ (by first | (simp; done) | (simp; omega)) _))
    · have HV : Hid (svV s.data.toList = .tuple #[.agg #[.string sp, .int .i64 na, .int .i64 nb, .int .i64 nc, .int .i64 nd], .bool true]) := HV0.out
      go_wp2_with fail; ((with_reducible refine HT4.out.mono ?_); rintro e w5 ⟨rfl, hb5⟩)
      have hB5 := hB4.trans (hb5.mono hB4.size)
      have K5 := K4.out.below hb5 hz4
      have Y5 := Y.out.below hb5 hz5
      clear Y K4 y0 ry0 y1 ry1 y2 ry2 y3 ry3 y4 ry4
      have e0 := K5.cell 0
      have r0 := K5.frozen 0
      have y0 := Y5.cell 0
      have e1 := K5.cell 1
      have r1 := K5.frozen 1
      have y1 := Y5.cell 1
      have e2 := K5.cell 2
      have r2 := K5.frozen 2
      have y2 := Y5.cell 2
      have e3 := K5.cell 3
      have r3 := K5.frozen 3
      have y3 := Y5.cell 3
      have e4 := K5.cell 4
      have r4 := K5.frozen 4
      have y4 := Y5.cell 4
      go_wp2
      refine bodyPost_ret (v := .tuple #[.agg #[.string sp, .int .i64 na, .int .i64 nb, .int .i64 nc, .int .i64 nd], .bool true]) (by simp [results, Tryd.results10, go_sem, e0, e1, e2, e3, e4] <;> rfl) rfl ⟨by rw [HV.out], ?_⟩
      repeat (first | exact hB5 | (refine Below.setCell ?_ (by first | (simp; done) | (simp; omega)) _))
  · have HV : Hid (svV s.data.toList = _) := svV_n (pw_no fun xs h e => hx ⟨xs, h, e⟩)
    have HC := Lib.hid (readWithId_no s 4 4 rfl _ hs (lib3_below ht hb0) (by omega) fun xs h e => hx ⟨xs, h, e⟩)
    clear hx ht
    go_enter Tryd.func10, Tryd.ntmps10
    go_wp2_with fail; ((with_reducible refine HC.out.mono ?_); rintro e w3 ⟨gb, cb, rfl, hcells, hgb, hb3⟩)
    have K2 := HK0.out.below hb3 (by simp)
    have hB3 := hb0.trans (hb3.mono hb0.size)
    have hz3 : w.heap.size < w3.heap.size := by have h := hb3.size; simp at h; omega
    have x0 : w3.cell? ⟨gb, 0, none⟩ = some (.int .i64 0) := hcells 0 _ rfl
    have x1 : w3.cell? ⟨gb, 1, none⟩ = some (.int .i64 0) := hcells 1 _ rfl
    have x2 : w3.cell? ⟨gb, 2, none⟩ = some (.int .i64 0) := hcells 2 _ rfl
    have x3 : w3.cell? ⟨gb, 3, none⟩ = some (.int .i64 0) := hcells 3 _ rfl
    have K4 := Lib.hid (K2.alloc (.cells #[.string ⟨#[]⟩, .int .i64 0, .int .i64 0, .int .i64 0, .int .i64 0] 23)).drew
    have hB4 := (hB3.alloc hB3.size (.cells #[.string ⟨#[]⟩, .int .i64 0, .int .i64 0, .int .i64 0, .int .i64 0] 23)).drew
    clear hcells K2 HC HK0 hb3
    go_wp2
    go_region
    generalize (w3.alloc (.cells #[.string ⟨#[]⟩, .int .i64 0, .int .i64 0, .int .i64 0, .int .i64 0] 23)).drew = w4 at *
    have e0 := K4.out.cell 0
    have r0 := K4.out.frozen 0
    have e1 := K4.out.cell 1
    have r1 := K4.out.frozen 1
    have e2 := K4.out.cell 2
    have r2 := K4.out.frozen 2
    have e3 := K4.out.cell 3
    have r3 := K4.out.frozen 3
    have e4 := K4.out.cell 4
    have r4 := K4.out.frozen 4
    go_wp2
    refine bodyPost_ret (v := .tuple #[.agg #[.string ⟨#[]⟩, .int .i64 0, .int .i64 0, .int .i64 0, .int .i64 0], .bool false]) (by simp [results, Tryd.results10, go_sem, e0, e1, e2, e3, e4] <;> rfl) rfl ⟨by rw [HV.out], ?_⟩
    repeat (first | exact hB4 | (refine Below.setCell ?_ (by first | (simp; done) | (simp; omega)) _))
end Go.Proofs.YtdooajiobpjihaaDoor
