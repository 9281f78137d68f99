/- Contract of the reduction of a mine, the program's side. -/
import Derived.Test.YtnfallanjndbcaaRedR
import Derived.Test.YtnfallanjndbcaaRedK
import Derived.Test.YtnfallanjndbcaaRedJ
namespace Go.Proofs.Ytnfallanjndbcaa
set_option linter.unusedVariables false
set_option linter.unusedSimpArgs false
open Go.RowKit
set_option maxHeartbeats 25600000 in
set_option maxRecDepth 100000 in
theorem implReduceMine_any (J : Int) (M : Option Addr) (m d : Nat) (xs : List Awy) (A : Option Addr) (n c : Nat) (rs : List Int) (fr te : Int) (w : World) (hm : Reads w w.heap.size 7 M m (Awy.recs xs)) (hmn : m ≤ 1048576) (hxs : ∀ x ∈ xs, x.s.size ≤ maxLen) (hr : Reads w w.heap.size 1 A n (ints rs)) (hn : n ≤ 1048576) :
    Calls Try.prog 8 #[.agg #[.int .i64 J, .slice M m d], .slice A n c, .int .i64 fr, .int .i64 te] w fun e w' => e = .returned (.tuple #[.int .i64 (redR J xs rs fr te).1, .int .i64 (redR J xs rs fr te).2.1, .int .i64 (redR J xs rs fr te).2.2]) ∧ Below w.heap.size w w' := by
  obtain ⟨i0, hi0, hz0, hz1, hz2⟩ := info_parts info_edge
  have HLm := Lib.hid (recs_rlen Awy.clen (by omega) hm)
  have HLn := Lib.hid (ints_len hr)
  have hb : Below w.heap.size w (w.alloc (.cells #[.int .i64 J, .slice M m d] 31)) := (Below.refl _ _).alloc (Nat.le_refl _) _
  have cc := implValidMine_any J M m d xs _ ((hm.below hb).more hb.size) hmn hxs
  clear hxs
  go_enter Try.func8, Try.ntmps8
  go_wp2_with fail; ((with_reducible refine (cc).mono ?_); rintro e w1 ⟨rfl, hb1⟩)
  have B1 : Below w.heap.size w w1 := hb.trans (hb1.mono (by simp))
  have z1 : w.heap.size < w1.heap.size := by have h := hb1.size; simp at h; omega
  have g0_1 : w1.cell? ⟨w.heap.size, 0, none⟩ = some (.int .i64 J) := (hb1.cell (p := ⟨w.heap.size, 0, none⟩) (by simp)).trans (by go_simp)
  have g1_1 : w1.cell? ⟨w.heap.size, 1, none⟩ = some (.slice M m d) := (hb1.cell (p := ⟨w.heap.size, 1, none⟩) (by simp)).trans (by go_simp)
  clear cc hb hb1
  cases hok : mineOk J xs
  · have HV := Lib.hid (redR_1 (rs := rs) (fr := fr) (te := te) hok)
    go_wp2
    go_ret3
    exact ⟨ret_i3 HV.out, B1⟩
  · have HOK := Lib.hid hok
    have HO := Lib.hid (mineOk_t hok)
    have hm24 : m ≤ 24 := by have := HO.out.2.1; rw [HLm.out] at this; exact this
    obtain ⟨hj1, hj2⟩ := HO.out.1
    have HD : Hid (redOk J xs rs fr te = (lstOk m 1 1000000 rs && inB fr 0 (J - 1) && inB te 0 (J - 1) && !(fr == te))) := show _ = _ by unfold redOk; rw [HLm.out]
    have cL := hasList_any J M m d A n c 1 1000000 rs w1 ((hr.below B1).more B1.size) hn
    clear hok
    cases kl : lstOk m 1 1000000 rs
    · rw [kl] at cL
      go_wp2_with fail; ((with_reducible refine (cL).mono ?_); rintro e w2 ⟨rfl, hb2⟩)
      clear cL
      have B2 : Below w.heap.size w w2 := B1.trans (hb2.mono B1.size)
      have z2 : w.heap.size < w2.heap.size := by have h := hb2.size; omega
      have g0_2 : w2.cell? ⟨w.heap.size, 0, none⟩ = some (.int .i64 J) := (hb2.cell (p := ⟨w.heap.size, 0, none⟩) z1).trans g0_1
      have g1_2 : w2.cell? ⟨w.heap.size, 1, none⟩ = some (.slice M m d) := (hb2.cell (p := ⟨w.heap.size, 1, none⟩) z1).trans g1_1
      clear hb2 g0_1 g1_1
      have HV := Lib.hid (redR_2 HOK.out (rs := rs) (fr := fr) (te := te) (by rw [HD.out]; simp [kl]))
      go_wp2
      go_ret3
      exact ⟨ret_i3 HV.out, B2⟩
    · rw [kl] at cL
      go_wp2_with fail; ((with_reducible refine (cL).mono ?_); rintro e w2 ⟨rfl, hb2⟩)
      clear cL
      have B2 : Below w.heap.size w w2 := B1.trans (hb2.mono B1.size)
      have z2 : w.heap.size < w2.heap.size := by have h := hb2.size; omega
      have g0_2 : w2.cell? ⟨w.heap.size, 0, none⟩ = some (.int .i64 J) := (hb2.cell (p := ⟨w.heap.size, 0, none⟩) z1).trans g0_1
      have g1_2 : w2.cell? ⟨w.heap.size, 1, none⟩ = some (.slice M m d) := (hb2.cell (p := ⟨w.heap.size, 1, none⟩) z1).trans g1_1
      clear hb2 g0_1 g1_1
      have cF := hasJunction_any J (.slice M m d) fr w2 ⟨_, _, _, rfl⟩ (by omega) (by omega)
      cases k1 : inB fr 0 (J - 1)
      · rw [k1] at cF
        go_wp2_with fail; ((with_reducible refine (cF).mono ?_); rintro e w3 ⟨rfl, hb3⟩)
        clear cF
        have B3 : Below w.heap.size w w3 := B2.trans (hb3.mono B2.size)
        have z3 : w.heap.size < w3.heap.size := by have h := hb3.size; omega
        have g0_3 : w3.cell? ⟨w.heap.size, 0, none⟩ = some (.int .i64 J) := (hb3.cell (p := ⟨w.heap.size, 0, none⟩) z2).trans g0_2
        have g1_3 : w3.cell? ⟨w.heap.size, 1, none⟩ = some (.slice M m d) := (hb3.cell (p := ⟨w.heap.size, 1, none⟩) z2).trans g1_2
        clear hb3 g0_2 g1_2
        have HV := Lib.hid (redR_2 HOK.out (rs := rs) (fr := fr) (te := te) (by rw [HD.out]; simp [kl, k1]))
        go_wp2
        go_ret3
        exact ⟨ret_i3 HV.out, B3⟩
      · rw [k1] at cF
        go_wp2_with fail; ((with_reducible refine (cF).mono ?_); rintro e w3 ⟨rfl, hb3⟩)
        clear cF
        have B3 : Below w.heap.size w w3 := B2.trans (hb3.mono B2.size)
        have z3 : w.heap.size < w3.heap.size := by have h := hb3.size; omega
        have g0_3 : w3.cell? ⟨w.heap.size, 0, none⟩ = some (.int .i64 J) := (hb3.cell (p := ⟨w.heap.size, 0, none⟩) z2).trans g0_2
        have g1_3 : w3.cell? ⟨w.heap.size, 1, none⟩ = some (.slice M m d) := (hb3.cell (p := ⟨w.heap.size, 1, none⟩) z2).trans g1_2
        clear hb3 g0_2 g1_2
        have cT := hasJunction_any J (.slice M m d) te w3 ⟨_, _, _, rfl⟩ (by omega) (by omega)
        cases k2 : inB te 0 (J - 1)
        · rw [k2] at cT
          go_wp2_with fail; ((with_reducible refine (cT).mono ?_); rintro e w4 ⟨rfl, hb4⟩)
          clear cT
          have B4 : Below w.heap.size w w4 := B3.trans (hb4.mono B3.size)
          have z4 : w.heap.size < w4.heap.size := by have h := hb4.size; omega
          have g0_4 : w4.cell? ⟨w.heap.size, 0, none⟩ = some (.int .i64 J) := (hb4.cell (p := ⟨w.heap.size, 0, none⟩) z3).trans g0_3
          have g1_4 : w4.cell? ⟨w.heap.size, 1, none⟩ = some (.slice M m d) := (hb4.cell (p := ⟨w.heap.size, 1, none⟩) z3).trans g1_3
          clear hb4 g0_3 g1_3
          have HV := Lib.hid (redR_2 HOK.out (rs := rs) (fr := fr) (te := te) (by rw [HD.out]; simp [kl, k1, k2]))
          go_wp2
          go_ret3
          exact ⟨ret_i3 HV.out, B4⟩
        · rw [k2] at cT
          go_wp2_with fail; ((with_reducible refine (cT).mono ?_); rintro e w4 ⟨rfl, hb4⟩)
          clear cT
          have B4 : Below w.heap.size w w4 := B3.trans (hb4.mono B3.size)
          have z4 : w.heap.size < w4.heap.size := by have h := hb4.size; omega
          have g0_4 : w4.cell? ⟨w.heap.size, 0, none⟩ = some (.int .i64 J) := (hb4.cell (p := ⟨w.heap.size, 0, none⟩) z3).trans g0_3
          have g1_4 : w4.cell? ⟨w.heap.size, 1, none⟩ = some (.slice M m d) := (hb4.cell (p := ⟨w.heap.size, 1, none⟩) z3).trans g1_3
          clear hb4 g0_3 g1_3
          cases k3 : (fr == te)
          rotate_left
          · have hft : fr = te := by simpa using k3
            have HV := Lib.hid (redR_2 HOK.out (rs := rs) (fr := fr) (te := te) (by rw [HD.out]; simp [kl, k1, k2, k3]))
            go_wp2
            go_ret3
            exact ⟨ret_i3 HV.out, B4⟩
          · have hred : redOk J xs rs fr te = true := by rw [HD.out]; simp [kl, k1, k2, k3]
            have hft : fr ≠ te := by simpa using k3
            have HRT := Lib.hid (redOk_t hred)
            have HV := Lib.hid (redR_3 HOK.out hred)
            have HEK := Lib.hid (edgL_ok HOK.out HRT.out.1)
            have hnm : n = m := by have := (lstOk_t HRT.out.1).1; rw [HLm.out, HLn.out] at this; omega
            have HEL : Hid ((edgL xs rs).length = m) := show _ = _ by rw [edgL_len (by rw [HLm.out, HLn.out, hnm]), HLm.out]
            have R1 := (hm.below B4).more B4.size
            have R2 := (hr.below B4).more B4.size
            subst hnm
            clear hred HD hm hr kl k1 k2 B1 B2 B3 z1 z2 z3
            go_wp2
            go_loopw [47] (fun i wr => ∃ (k : Nat) (A' : Option Addr) (c' : Nat), k ≤ n ∧ i = .int .i64 k ∧ Hid (RedS wr w4.heap.size (w4.heap.size + 1) fr te A' k c' ((edgL xs rs).take k) false) ∧ Below w4.heap.size w4 wr) (fun i _ => n - (intOf i).toNat)
            case atStart => exact ⟨0, none, 0, by omega, rfl, ⟨Blk.new _ _ _, own_nil _ _ _ _, Nat.lt_succ_self _⟩, (Below.refl _ _).alloc (Nat.le_refl _) _⟩
            case round =>
              obtain ⟨k, A', c', hk, rfl, HS, hbr⟩ := hrel
              obtain ⟨wo, rfl⟩ : ∃ wo : World, wo = wr := ⟨_, rfl⟩
              have hgl := HS.out.blk.lt
              have g2 : wo.cell? ⟨w4.heap.size, 2, none⟩ = some (.slice A' k c') := (HS.out.blk.cell 2).trans rfl
              have fz : wo.frozen? ⟨w4.heap.size, 2, none⟩ = false := HS.out.blk.frozen 2
              have hsz := hbr.size
              by_cases hlt : k < n
              · obtain ⟨ad, x, rfl, had, hx, hc⟩ := (R1.below hbr).rec_at Awy.clen (by omega) hlt
                obtain ⟨r, hrr⟩ : ∃ r, rs[k]? = some r := ⟨_, List.getElem?_eq_getElem (by rw [HLn.out]; exact hlt)⟩
                obtain ⟨ar, rfl, har, hnr, hcr⟩ := (R2.below hbr).int_at hrr
                obtain ⟨a0, a1, a2, a3, a4, a5, a6⟩ := Awy.open_ hc
                have HN := Lib.hid (edgL_at hx hrr)
                have hkI : (k : Int) < (n : Int) := by omega
                have hbd : Below w4.heap.size w4 (((wo.alloc (.cells #[.string x.s, .int .i64 x.a, .int .i64 x.b, .int .i64 x.l, .int .i64 x.c, .int .i64 x.f, .int .i64 x.h] 44)).drew).alloc (.cells #[.int .i64 x.a, .int .i64 x.b, .int .i64 r] 57)) :=
                  (below_drew (hbr.alloc (by omega) _)).alloc (by simp; omega) _
                have HWB := Lib.hid hbd
                have HWO : Hid ((((wo.alloc (.cells #[.string x.s, .int .i64 x.a, .int .i64 x.b, .int .i64 x.l, .int .i64 x.c, .int .i64 x.f, .int .i64 x.h] 44)).drew).alloc (.cells #[.int .i64 x.a, .int .i64 x.b, .int .i64 r] 57)).ownsRow (w4.heap.size + 1) 57 3 (.slice A' k c') k (Edg.recs ((edgL xs rs).take k))) :=
                  (HS.out.own.alloc _).drew.alloc _
                have HB0 : Hid (Blk (((wo.alloc (.cells #[.string x.s, .int .i64 x.a, .int .i64 x.b, .int .i64 x.l, .int .i64 x.c, .int .i64 x.f, .int .i64 x.h] 44)).drew).alloc (.cells #[.int .i64 x.a, .int .i64 x.b, .int .i64 r] 57)) w4.heap.size 55 #[.int .i64 fr, .int .i64 te, .slice A' k c', .bool false]) :=
                  (HS.out.blk.alloc _).drew.alloc _
                have HB6 : Hid (∀ {w6 : World}, (((wo.alloc (.cells #[.string x.s, .int .i64 x.a, .int .i64 x.b, .int .i64 x.l, .int .i64 x.c, .int .i64 x.f, .int .i64 x.h] 44)).drew).alloc (.cells #[.int .i64 x.a, .int .i64 x.b, .int .i64 r] 57)).grownBy w6 (Value.ownBlock (.slice A' k c')) → Blk w6 w4.heap.size 55 #[.int .i64 fr, .int .i64 te, .slice A' k c', .bool false]) := fun hgrow =>
                  HB0.out.grown hgrow fun h => by have := (HWO.out.lt _ h.symm).1; omega
                have f1 : (wo.alloc (.cells #[.string x.s, .int .i64 x.a, .int .i64 x.b, .int .i64 x.l, .int .i64 x.c, .int .i64 x.f, .int .i64 x.h] 44)).cell? ⟨wo.heap.size, 1, none⟩ = some (.int .i64 x.a) := ((Blk.new wo _ _).cell 1).trans rfl
                have f2 : (wo.alloc (.cells #[.string x.s, .int .i64 x.a, .int .i64 x.b, .int .i64 x.l, .int .i64 x.c, .int .i64 x.f, .int .i64 x.h] 44)).cell? ⟨wo.heap.size, 2, none⟩ = some (.int .i64 x.b) := ((Blk.new wo _ _).cell 2).trans rfl
                have hbr2 : (ar.add k).block < wo.heap.size := by rw [block_of_add]; omega
                clear hx hc hrr hbd
                go_wp2
                go_region_law
                  ((refine step_append_lies _ (by rfl) _ _ _ (by rfl) (w4.heap.size + 1) 57 i0 _ 3 24 Try.underlying53 hi0 hz0 hz1 hz2 rfl (by omega) (.slice A' k c') k (Edg.recs ((edgL xs rs).take k)) (by rfl) HWO.out ⟨wo.heap.size + 1, 0, none⟩ 1 1 [.int .i64 x.a, .int .i64 x.b, .int .i64 r] (by rfl) (by rfl) (World.news_of_block (cs := #[.int .i64 x.a, .int .i64 x.b, .int .i64 r]) (t := 57) (fr := (0, 0)) (by have h := heap_alloc_new ((wo.alloc (.cells #[.string x.s, .int .i64 x.a, .int .i64 x.b, .int .i64 x.l, .int .i64 x.c, .int .i64 x.f, .int .i64 x.h] 44)).drew) (.cells #[.int .i64 x.a, .int .i64 x.b, .int .i64 r] 57); rwa [show ((wo.alloc (.cells #[.string x.s, .int .i64 x.a, .int .i64 x.b, .int .i64 x.l, .int .i64 x.c, .int .i64 x.f, .int .i64 x.h] 44)).drew).heap.size = wo.heap.size + 1 by simp] at h)) (by simp [Value.oneCell']) (by omega) (by unfold maxLen; omega) (by omega) (by simp; omega) (wo.heap.size + 2) (by simp) ?_; intro gg cap w6 ho6 hgrow hat hlt6; have o2 := ((HB6.out hgrow).cell 2); have fz6 := (HB6.out hgrow).frozen 2))
                all_goals
                  have HB7 := Lib.hid (HB6.out hgrow)
                  have B6 : Hid (Below w4.heap.size w4 w6) := HWB.out.grown hgrow (by simp; omega) fun q hq => by have := (HWO.out.lt q hq).1; omega
                  have HO6 : Hid (w6.ownsRow (w4.heap.size + 1) 57 3 (.slice (some ⟨gg, 0, none⟩) (k + 1) cap) (k + 1) (Edg.recs ((edgL xs rs).take (k + 1)))) := show World.ownsRow _ _ _ _ _ _ _ by rw [HN.out, ← recs_snoc]; exact ho6
                  clear ho6 hgrow hat o2 fz6
                  go_wp2
                  go_roundw
                  case rel => exact ⟨k + 1, some ⟨gg, 0, none⟩, cap, by omega, by go_num, ⟨HB7.out.set_ 2 _, own_low HO6.out (p := ⟨w4.heap.size, 2, none⟩) (Nat.lt_succ_self _) _, Nat.lt_succ_self _⟩, B6.out.setCell (p := ⟨w4.heap.size, 2, none⟩) (Nat.le_refl _) _⟩
                  case measure => simp [intOf]; omega
              · have e : k = n := by omega
                subst e
                have HT : Hid ((edgL xs rs).take k = edgL xs rs) := List.take_of_length_le (by rw [HEL.out]; exact Nat.le_refl _)
                rw [HT.out] at HS
                have HS2 := Lib.hid HS.out
                have HB2 := Lib.hid hbr
                clear hbr hsz HS
                go_wp2
                clear g2 fz
                go_loopw [14] (fun s wr => ∃ (es : List Edg) (n' : Nat) (A' : Option Addr) (c' st : Nat), n' + st = k ∧ s = .int .i64 st ∧ Hid (RedS wr w4.heap.size (w4.heap.size + 1) fr te A' n' c' es false) ∧ Hid (EsOk es) ∧ Hid (RThen fr te J (edgL xs rs) es st) ∧ Below w4.heap.size w4 wr) (fun s _ => k + 1 - (intOf s).toNat)
                case atStart => exact ⟨edgL xs rs, k, _, _, 0, by omega, rfl, HS2.out, HEK.out, rthen_0 _ _ _ _, HB2.out⟩
                case round =>
                  clear HS2 HB2 HT
                  obtain ⟨es, n', A', c', st, hns, rfl, HS, HK, HR, hbr⟩ := hrel
                  obtain ⟨wo, rfl⟩ : ∃ wo : World, wo = wr := ⟨_, rfl⟩
                  have HL : Hid (es.length = n') := HS.out.len
                  have HBr := Lib.hid hbr
                  have n24 : n' ≤ 24 := by omega
                  clear hbr hgl
                  cases hrm : rmOf fr te es with
                  | some i =>
                    have cR := removeOne_yes w4.heap.size (w4.heap.size + 1) i fr te A' n' c' es false wo HS.out n24 hrm
                    have HST := Lib.hid (RStep.rm (J := J) i hrm)
                    go_wp2_with fail; ((with_reducible refine (cR).mono ?_); rintro e w5 ⟨rfl, A3, n3, c3, hx, hb5⟩)
                    have HX := Lib.hid hx
                    have HBx := Lib.hid (HBr.out.trans (hb5.mono (Nat.le_refl _)))
                    clear cR hx hb5 hrm
                    have HK' := Lib.hid (step_ok HST.out HK.out)
                    have HR' : Hid (RThen fr te J (edgL xs rs) (es.eraseIdx i) ((st + 1 : Nat) : Int)) := show RThen _ _ _ _ _ _ by
                      have h := rthen_s HR.out HST.out
                      rwa [show (st : Int) + 1 = ((st + 1 : Nat) : Int) by omega] at h
                    have hn3 : n3 + 1 = n' := by have h := step_len HST.out; rw [HX.out.len, HL.out] at h; exact h
                    have q3 : w5.cell? ⟨w4.heap.size, 3, none⟩ = some (.bool false) := (HX.out.blk.cell 3).trans rfl
                    go_wp2
                    go_roundw
                    case rel => exact ⟨_, n3, A3, c3, st + 1, by omega, by go_num, HX.out, HK'.out, HR'.out, HBx.out⟩
                    case measure => simp [intOf]; omega
                  | none =>
                    have cR := removeOne_no w4.heap.size (w4.heap.size + 1) fr te A' n' c' es false wo HS.out n24 hrm
                    have HRM := Lib.hid hrm
                    clear hrm
                    go_wp2_with fail; ((with_reducible refine (cR).mono ?_); rintro e w5 ⟨rfl, hb5⟩)
                    have HS5 := Lib.hid (HS.out.below hb5)
                    have HB5 := Lib.hid (HBr.out.trans (hb5.mono HBr.out.size))
                    clear cR hb5
                    have cS := joinSides_any w4.heap.size (w4.heap.size + 1) fr te A' n' c' es false w5 HS5.out HK.out
                    go_wp2_with fail; ((with_reducible refine (cS).mono ?_); rintro e w6 (⟨hsn, rfl, hb6⟩ | ⟨i, q, A3, n3, c3, hsd, rfl, hx, hb6⟩))
                    · have HS6 := Lib.hid (HS5.out.below hb6)
                      have HB6 := Lib.hid (HB5.out.trans (hb6.mono HB5.out.size))
                      have HSN := Lib.hid hsn
                      have g0_6 : w6.cell? ⟨w.heap.size, 0, none⟩ = some (.int .i64 J) := (HB6.out.cell (p := ⟨w.heap.size, 0, none⟩) z4).trans g0_4
                      have hsz6 : w4.heap.size + 1 ≤ w6.heap.size := HS6.out.blk.lt
                      have cE := joinEnds_any w4.heap.size (w4.heap.size + 1) fr te J A' n' c' es false w6 HS6.out HK.out (by omega) hsz6
                      clear cS hsn hb6
                      go_wp2_with fail; ((with_reducible refine (cE).mono ?_); rintro e w7 (⟨hen, rfl, hb7⟩ | ⟨j, p, q, A3, n3, c3, hea, rfl, hx, hb7⟩))
                      · have HS7 := Lib.hid (HS6.out.below hb7)
                        have HB7 := Lib.hid (HB6.out.trans (hb7.mono HB6.out.size))
                        have HFN := Lib.hid (rthen_stop HR.out ⟨HRM.out, HSN.out, hen⟩)
                        have r2 : w7.cell? ⟨w4.heap.size, 2, none⟩ = some (.slice A' n' c') := (HS7.out.blk.cell 2).trans rfl
                        clear cE hen hb7
                        by_cases hn1 : n' = 1
                        · subst hn1
                          obtain ⟨ge, rfl, hgb, hgl, hgne⟩ := HS7.out.form (by omega)
                          obtain ⟨y, HY, hym, f0, f1, f2⟩ := edge_cells HS7.out.own (show 0 < 1 by omega)
                          rw [Nat.zero_mul] at f0 f1 f2
                          have HF1 := Lib.hid (fin_one (fr := fr) (te := te) (es := es) (st := st) HL.out)
                          have cJ := joins_any y fr te w7
                          clear hym
                          cases hj : jn y ⟨fr, te, 0⟩
                          · have HX : Hid (redFin fr te es st = (0, 0, 6)) := show _ = _ by rw [HF1.out, HY.out, if_neg (by rw [hj]; exact Bool.false_ne_true)]
                            rw [hj] at cJ
                            go_wp2_with fail; ((with_reducible refine (cJ).mono ?_); rintro e w8 ⟨rfl, hb8⟩)
                            have B8 := B4.trans ((HB7.out.trans (hb8.mono HB7.out.size)).mono B4.size)
                            clear cJ hj hb8
                            go_wp2
                            go_ret3
                            exact ⟨ret_i3 (HV.out.trans (HFN.out.trans HX.out)), B8⟩
                          · have HX : Hid (redFin fr te es st = (y.r, (st : Int), 0)) := show _ = _ by rw [HF1.out, HY.out, if_pos hj]
                            rw [hj] at cJ
                            go_wp2_with fail; ((with_reducible refine (cJ).mono ?_); rintro e w8 ⟨rfl, hb8⟩)
                            have B8 := B4.trans ((HB7.out.trans (hb8.mono HB7.out.size)).mono B4.size)
                            have r8 : w8.cell? ⟨w4.heap.size, 2, none⟩ = some (.slice (some ⟨ge, 0, none⟩) 1 c') := (hb8.cell (block_lt_of_cell r2)).trans r2
                            have f8 : w8.cell? ⟨ge, 0 + 2, none⟩ = some (.int .i64 y.r) := (hb8.cell (block_lt_of_cell f2)).trans f2
                            clear cJ hj hb8
                            go_wp2
                            go_ret3
                            exact ⟨ret_i3 (HV.out.trans (HFN.out.trans HX.out)), B8⟩
                        · have HX := Lib.hid (fin_no (fr := fr) (te := te) (es := es) (st := st) (by rw [HL.out]; exact hn1))
                          have hnI : ((n' : Int) != 1) = true := by simp; omega
                          have B8 := B4.trans (HB7.out.mono B4.size)
                          clear hn1
                          go_wp2
                          go_ret3
                          exact ⟨ret_i3 (HV.out.trans (HFN.out.trans HX.out)), B8⟩
                      · have HST := Lib.hid (RStep.en j p q HRM.out HSN.out hea)
                        have HBx := Lib.hid (HB6.out.trans (hb7.mono (Nat.le_refl _)))
                        clear cE hea hb7
                        cases hf : decide (1000000 < enSum es p q)
                        · rw [hf] at HST hx
                          have HX := Lib.hid hx
                          clear hx hf
                          have HK' := Lib.hid (step_ok HST.out HK.out)
                          have HR' : Hid (RThen fr te J (edgL xs rs) (enE es j p q) ((st + 1 : Nat) : Int)) := show RThen _ _ _ _ _ _ by
                            have h := rthen_s HR.out HST.out
                            rwa [show (st : Int) + 1 = ((st + 1 : Nat) : Int) by omega] at h
                          have hn3 : n3 + 1 = n' := by have h := step_len HST.out; rw [HX.out.len, HL.out] at h; exact h
                          have q3 : w7.cell? ⟨w4.heap.size, 3, none⟩ = some (.bool false) := (HX.out.blk.cell 3).trans rfl
                          go_wp2
                          go_roundw
                          case rel => exact ⟨_, n3, A3, c3, st + 1, by omega, by go_num, HX.out, HK'.out, HR'.out, HBx.out⟩
                          case measure => simp [intOf]; omega
                        · rw [hf] at HST hx
                          have HX := Lib.hid hx
                          have HY := Lib.hid (rthen_full HR.out HST.out)
                          have q3 : w7.cell? ⟨w4.heap.size, 3, none⟩ = some (.bool true) := (HX.out.blk.cell 3).trans rfl
                          have hn3 : n3 + 1 = n' := by have h := step_len HST.out; rw [HX.out.len, HL.out] at h; exact h
                          clear hx hf
                          go_wp2
                          go_ret3
                          exact ⟨ret_i3 (HV.out.trans HY.out), B4.trans (HBx.out.mono B4.size)⟩
                    · have HST := Lib.hid (RStep.sd (J := J) i q HRM.out hsd)
                      have HX := Lib.hid hx
                      have HBx := Lib.hid (HB5.out.trans (hb6.mono (Nat.le_refl _)))
                      clear cS hsd hb6 hx
                      have HK' := Lib.hid (step_ok HST.out HK.out)
                      have HR' : Hid (RThen fr te J (edgL xs rs) (sdE es i q) ((st + 1 : Nat) : Int)) := show RThen _ _ _ _ _ _ by
                        have h := rthen_s HR.out HST.out
                        rwa [show (st : Int) + 1 = ((st + 1 : Nat) : Int) by omega] at h
                      have hn3 : n3 + 1 = n' := by have h := step_len HST.out; rw [HX.out.len, HL.out] at h; exact h
                      have q3 : w6.cell? ⟨w4.heap.size, 3, none⟩ = some (.bool false) := (HX.out.blk.cell 3).trans rfl
                      go_wp2
                      go_roundw
                      case rel => exact ⟨_, n3, A3, c3, st + 1, by omega, by go_num, HX.out, HK'.out, HR'.out, HBx.out⟩
                      case measure => simp [intOf]; omega
end Go.Proofs.Ytnfallanjndbcaa
