/- Several texts in one: CorI. -/
import Derived.Test.YtjmhhbjbmgpagaaMgJ
import Derived.BigRegion
/- Contract of the correction of a mesh, the program's. -/
namespace Go.Proofs.Ytjmhhbjbmgpagaa
set_option linter.unusedVariables false
set_option linter.unusedSimpArgs false
open Go.RowKit
/-- Behind the copy of the flows and the pick of the mesh. -/
def CorCut (ms : List (List Int)) (fs : List Int) (kn m : Nat) (w3 : World) (s12 s13 : Value) (w' : World) : Prop :=
  ∃ (A5 : Option Addr) (c5 : Nat) (r : Row), s12 = .slice A5 m c5 ∧ s13 = .slice r.A r.n r.c ∧ w'.ownsRow w3.heap.size 2 1 (.slice A5 m c5) m (ints fs) ∧ ms[kn]? = some r.xs ∧ Reads w' w'.heap.size 1 r.A r.n (ints r.xs) ∧ (∀ a b, r.A = some a → A5 = some b → a.block ≠ b.block) ∧ Below w3.heap.size w3 w'
set_option maxHeartbeats 3200000 in
set_option maxRecDepth 100000 in
theorem implCorrectMesh_any (J : Int) (M : Option Addr) (m d : Nat) (xs : List Awy) (A1 : Option Addr) (n1 c1 : Nat) (rs : List Int) (A2 : Option Addr) (n2 c2 : Nat) (ps : List Int) (A3 : Option Addr) (n3 c3 : Nat) (fs : List Int) (k : Int) (w : World) (hm : Reads w w.heap.size 7 M m (Awy.recs xs)) (hmn : m ≤ 1048576) (hxs : ∀ x ∈ xs, x.s.size ≤ maxLen) (hr1 : Reads w w.heap.size 1 A1 n1 (ints rs)) (hn1 : n1 ≤ 1048576) (hr2 : Reads w w.heap.size 1 A2 n2 (ints ps)) (hn2 : n2 ≤ 1048576) (hr3 : Reads w w.heap.size 1 A3 n3 (ints fs)) (hn3 : n3 ≤ 1048576) :
    Calls Try.prog 33 #[.agg #[.int .i64 J, .slice M m d], .slice A1 n1 c1, .slice A2 n2 c2, .slice A3 n3 c3, .int .i64 k] w fun e w' => ∃ A' n' c', e = .returned (.tuple #[.slice A' n' c', .int .i64 (corR J xs rs ps fs k).2]) ∧ w'.ownsRow w.heap.size 2 1 (.slice A' n' c') n' (ints (corR J xs rs ps fs k).1) ∧ n' ≤ 1048576 ∧ Below w.heap.size w w' := by
  have HLm := Lib.hid (recs_rlen Awy.clen (by omega) hm)
  have hb : Below w.heap.size w (w.alloc (.cells #[.int .i64 J, .slice M m d] 31)) := (Below.refl _ _).alloc (Nat.le_refl _) _
  have g0 : (w.alloc (.cells #[.int .i64 J, .slice M m d] 31)).cell? ⟨w.heap.size, 0, none⟩ = some (.int .i64 J) := ((Blk.new w _ _).cell 0).trans rfl
  have g1 : (w.alloc (.cells #[.int .i64 J, .slice M m d] 31)).cell? ⟨w.heap.size, 1, none⟩ = some (.slice M m d) := ((Blk.new w _ _).cell 1).trans rfl
  have z0 : w.heap.size < (w.alloc (.cells #[.int .i64 J, .slice M m d] 31)).heap.size := by simp
  have HW := Lib.hid (fun W (hb : Below w.heap.size w W) => (hm.below hb).more hb.size)
  have HR1 := Lib.hid (fun W (hb : Below w.heap.size w W) => (hr1.below hb).more hb.size)
  have HR2 := Lib.hid (fun W (hb : Below w.heap.size w W) => (hr2.below hb).more hb.size)
  have HR3 := Lib.hid (fun W (hb : Below w.heap.size w W) => (hr3.below hb).more hb.size)
  have cm := implValidMine_any J M m d xs (w.alloc (.cells #[.int .i64 J, .slice M m d] 31)) (HW.out _ hb) hmn hxs
  clear hxs
  rcases Bool.eq_false_or_eq_true (mineOk J xs) with k1 | k1
  · have K1 := Lib.hid k1
    have HML := Lib.hid (meshL_len k1)
    have HV2 := Lib.hid (fun h => corR_2 (rs := rs) (ps := ps) (fs := fs) (k := k) k1 h)
    have HV7 := Lib.hid (fun h h1 => corR_7 (rs := rs) (ps := ps) (fs := fs) (k := k) k1 h h1)
    have HVx := Lib.hid (fun h h1 => corR_x (rs := rs) (ps := ps) (fs := fs) (k := k) k1 h h1)
    rw [k1] at cm
    have HCM := Lib.hid cm
    clear cm
    rcases Bool.eq_false_or_eq_true (sysOk m rs ps fs) with k2 | k2
    · obtain ⟨s1, s2, s3⟩ := sysOk_t k2
      have hm24 : m ≤ 24 := by have := (mineOk_t k1).2.1; rw [HLm.out] at this; exact this
      obtain rfl : n1 = m := (lenR (HR1.out w (Below.refl _ _)) s1)
      obtain rfl : n2 = n1 := (lenR (HR2.out w (Below.refl _ _)) s2)
      obtain rfl : n3 = n2 := (lenR (HR3.out w (Below.refl _ _)) s3)
      have HSY : Hid (∀ s ∈ meshL J xs, SysB rs ps fs s n3) := fun s h => sys_of s1 (lst_wide s2) s3 (by have := (meshL_ok k1 s h).2.2; rw [HLm.out] at this; exact this)
      have HMO := Lib.hid (meshL_ok k1)
      have HFB : Hid (∀ f ∈ fs, -100000 ≤ f ∧ f ≤ 100000) := (lstOk_t s3).2
      go_enter Try.func33, Try.ntmps33
      go_wp2_with fail; ((with_reducible refine HCM.out.mono ?_); rintro e w1 ⟨rfl, hb1⟩)
      have B1 := hb.trans (hb1.mono hb.size)
      have p0 := (hb1.cell (p := ⟨w.heap.size, 0, none⟩) z0).trans g0
      have p1 := (hb1.cell (p := ⟨w.heap.size, 1, none⟩) z0).trans g1
      have z1 := Nat.lt_of_lt_of_le z0 hb1.size
      have cM := meshes_any J M n3 d xs w1 (HW.out _ B1) K1.out
      go_wp2_with fail; ((with_reducible refine cM.mono ?_); rintro e w2 ⟨A4, n4, c4, rws, rfl, hos, hda, hb2⟩)
      have B2 := B1.trans (hb2.mono B1.size)
      have p0 := (hb2.cell (p := ⟨w.heap.size, 0, none⟩) z1).trans p0
      have p1 := (hb2.cell (p := ⟨w.heap.size, 1, none⟩) z1).trans p1
      have z2 := Nat.lt_of_lt_of_le z1 hb2.size
      have HMS : Hid (Mms w2 w1.heap.size A4 n4 c4 (meshL J xs) rws) := ⟨hos, hda⟩
      have HN4 := Lib.hid HMS.out.len
      have hn4 : n4 ≤ 24 := by rw [← HN4.out]; exact HML.out
      have hci := indexValidM_any A4 n4 c4 k w2 (by omega)
      clear cM hos hda hb1 hb2
      rcases Bool.eq_false_or_eq_true (inB k 0 ((n4 : Int) - 1)) with k3 | k3
      · have HV := Lib.hid (HVx.out (by rw [HN4.out]; exact k3) (by rw [HLm.out]; exact k2))
        rw [k3] at hci
        have HCI := Lib.hid hci
        obtain ⟨u1, u2⟩ := inB_t k3
        obtain ⟨kn, rfl⟩ : ∃ kn : Nat, k = kn := ⟨k.toNat, by omega⟩
        rw [Int.toNat_natCast] at HV
        have hlt : kn < n4 := by omega
        have cs := hasSystem_any J M n3 d A1 n3 c1 rs A2 n3 c2 ps A3 n3 c3 fs w2 (HR1.out _ B2) hn1 (HR2.out _ B2) hn2 (HR3.out _ B2) hn3
        rw [k2] at cs
        have HCS0 := Lib.hid cs
        clear hci k1 k2 k3 s1 s2 s3 u1 u2 cs
        go_wp2_with fail; ((with_reducible refine HCI.out.mono ?_); rintro e w' ⟨rfl, rfl⟩)
        go_wp2_with fail; ((with_reducible refine HCS0.out.mono ?_); rintro e w3 ⟨rfl, hb3⟩)
        have B3 := B2.trans (hb3.mono B2.size)
        have p0 := (hb3.cell (p := ⟨w.heap.size, 0, none⟩) z2).trans p0
        have p1 := (hb3.cell (p := ⟨w.heap.size, 1, none⟩) z2).trans p1
        have z3 := Nat.lt_of_lt_of_le z2 hb3.size
        have HCL : Hid (∀ W : World, Below w3.heap.size w3 W → Calls Try.prog 81 #[.slice A3 n3 c3] W fun e w' => ∃ A' c', e = .returned (.slice A' n3 c') ∧ w'.ownsRow W.heap.size 2 1 (.slice A' n3 c') n3 (ints fs) ∧ Below W.heap.size W w') := fun W hW => clone_any A3 n3 c3 fs W (HR3.out _ (B3.trans (hW.mono B3.size))) hn3
        have HMH : Hid (∀ W : World, Below w3.heap.size w3 W → Calls Try.prog 53 #[.agg #[.int .i64 J, .slice M n3 d]] W (MshRet J xs W)) := fun W hW => meshes_any J M n3 d xs W (HW.out _ (B3.trans (hW.mono B3.size))) K1.out
        have p0_3 := p0
        have p1_3 := p1
        have hltm : kn < (meshL J xs).length := by rw [HN4.out]; exact hlt
        have hkI : (kn : Int) < ((meshL J xs).length : Int) := by omega
        go_upto_region 7 with (fail)
        go_cut [12, 13] from 31 (fun s12 s13 w' => CorCut (meshL J xs) fs kn n3 w3 s12 s13 w')
        case first =>
          go_region_with (first
            | (go_at_call 81; refine (HCL.out _ (by first | exact (Below.refl _ _).drew | exact ((Below.refl _ _).drew).trans hbm)).mono ?_; rintro e wc ⟨A5, c5, rfl, ho5, hbc⟩; first | (have p0c := (hbc.cell (p := ⟨w.heap.size, 0, none⟩) z3).trans p0; have p1c := (hbc.cell (p := ⟨w.heap.size, 1, none⟩) z3).trans p1) | (have hcc := (hbc.cell (block_lt_of_cell hc6)).trans hc6))
            | (go_at_call 53; refine (HMH.out _ (by first | exact (Below.refl _ _).drew | exact ((Below.refl _ _).drew).trans hbc)).mono ?_; rintro e wm ⟨A6, n6, c6, rw6, rfl, hos, hda, hbm⟩; have HMS6 := Lib.hid (Mms.mk hos hda); have hn6 := HMS6.out.len; subst hn6; obtain ⟨ad6, r6, rfl, hms6, hrl6, hc6, hrr6, hra6⟩ := HMS6.out.row_at (Below.refl _ _) hltm; have H6 := Lib.hid (And.intro hms6 (And.intro hrl6 (And.intro hrr6 hra6))); clear hms6 hrl6 hrr6 hra6 hos hda))
          all_goals (go_wp2_with fail; go_meet; exact ⟨A5, c5, r6, rfl, rfl, own_below ho5 hbm, H6.out.1, H6.out.2.2.1, fun a b h1 h2 => by have h3 := (H6.out.2.2.2 a h1).1; have h4 := (ho5.lt b.block (by rw [h2]; rfl)).2; omega, (((Below.refl _ _).drew).trans hbc).trans (hbm.mono hbc.size)⟩)
        case rest =>
          obtain ⟨A5, c5, r, rfl, rfl, ho5, hms, hrr, hap, hbq⟩ := hcut
          obtain ⟨wq, rfl⟩ : ∃ wq : World, wq = wc := ⟨_, rfl⟩
          have Bq := B3.trans (hbq.mono B3.size)
          have p0 := (hbq.cell (p := ⟨w.heap.size, 0, none⟩) z3).trans p0
          have p1 := (hbq.cell (p := ⟨w.heap.size, 1, none⟩) z3).trans p1
          have zq := Nat.lt_of_lt_of_le z3 hbq.size
          have hmem := List.mem_of_getElem? hms
          have hmo := HMO.out r.xs hmem
          have hsy := HSY.out r.xs hmem
          have hrl := (ints_len hrr).symm
          have hq1 : 1 ≤ r.n := by rw [hrl]; exact List.length_pos_iff.2 hmo.2.1
          have hq2 : r.n ≤ 18 := by rw [hrl]; exact hmo.1
          have hgd : (meshL J xs).getD kn [] = r.xs := by rw [List.getD_eq_getElem?_getD, hms]; rfl
          have hwk : ∀ x ∈ r.xs, wkB n3 x = true := hsy.2.2.2
          have hn0 : 0 < n3 := by
            obtain ⟨x, hx⟩ := List.exists_mem_of_ne_nil _ hmo.2.1
            have := wkI_lt (hwk x hx); omega
          obtain ⟨g, rfl, _⟩ := own_upd ho5 hn0 0
          have hg2 : w3.heap.size ≤ g := (ho5.lt g rfl).1
          rw [hgd] at HV
          have hsb : -10000 ≤ stR rs ps fs r.xs r.xs.length ∧ stR rs ps fs r.xs r.xs.length ≤ 10000 := stC_bnd (erT rs ps fs r.xs r.xs.length) (slT rs fs r.xs r.xs.length) (alT rs r.xs r.xs.length)
          have HCA2 : Hid (∀ W : World, Below wq.heap.size wq W → Calls Try.prog 55 #[.slice (some ⟨g, 0, none⟩) n3 c5, .slice r.A r.n r.c, .int .i64 (stR rs ps fs r.xs r.xs.length)] W fun e w' => e = .returned (.tuple #[]) ∧ w'.ownsRow w3.heap.size 2 1 (.slice (some ⟨g, 0, none⟩) n3 c5) n3 (ints (addL fs r.xs (stR rs ps fs r.xs r.xs.length) r.xs.length)) ∧ W.grownBy w' (some g)) := fun W hW => by
            have h := addAlong_any w3.heap.size g n3 c5 fs r.A r.n r.c r.xs (stR rs ps fs r.xs r.xs.length) 100000 W (own_below ho5 hW) ((hrr.below hW).more hW.size) (by omega) (fun a ha => hap a _ ha rfl) hwk (by omega) (by omega) (by omega) HFB.out (by omega) (by omega)
            rw [hrl] at h; rw [hrl]; exact h
          have HCF : Hid (corF rs ps fs r.xs = addL fs r.xs (stR rs ps fs r.xs r.xs.length) r.xs.length) := rfl
          have HCS2 : Hid (Calls Try.prog 82 #[.slice r.A r.n r.c, .slice A1 n3 c1, .slice A2 n3 c2, .slice A3 n3 c3] wq fun e w' => e = .returned (.int .i64 (stR rs ps fs r.xs r.xs.length)) ∧ Below wq.heap.size wq w') := by
            have h := stepOf_any r.A r.n r.c r.xs A1 n3 c1 rs A2 c2 ps A3 c3 fs wq (HR1.out _ Bq) (HR2.out _ Bq) (HR3.out _ Bq) hrr hsy (by omega) (by omega) hq1
            rw [hrl] at h; rw [hrl]; exact h
          generalize stR rs ps fs r.xs r.xs.length = st at *
          have HHBQ := Lib.hid hbq
          clear hms hmem hmo hsy hrr hap hgd hwk hsb ho5 hrl hbq
          go_wp2_with fail; ((with_reducible refine HCS2.out.mono ?_); rintro e w4 ⟨rfl, hb4⟩)
          go_wp2_with fail; ((with_reducible refine (HCA2.out _ hb4).mono ?_); rintro e w5 ⟨rfl, ho6, hg5⟩)
          have HB5 := Lib.hid (((HHBQ.out.trans (hb4.mono HHBQ.out.size))).grown hg5 (Nat.le_trans HHBQ.out.size hb4.size) (fun q hq => by have := Option.some.inj hq; omega))
          have B5 := B3.trans (HB5.out.mono B3.size)
          have p0 := (HB5.out.cell (p := ⟨w.heap.size, 0, none⟩) z3).trans p0_3
          have p1 := (HB5.out.cell (p := ⟨w.heap.size, 1, none⟩) z3).trans p1_3
          have HO6 := Lib.hid ho6
          have cf := hasFlows_any J M n3 d (some ⟨g, 0, none⟩) n3 c5 _ w5 (Reads.of_own ho6) (by omega)
          clear ho6 hg5
          rw [← HCF.out] at HO6 cf
          rcases Bool.eq_false_or_eq_true (lstOk n3 (-100000) 100000 (corF rs ps fs r.xs)) with k4 | k4
          · have HVV := Lib.hid (HV.out.trans (if_pos (by rw [HLm.out]; exact k4)))
            rw [k4] at cf
            have HF := Lib.hid cf
            clear cf k4
            go_wp2_with fail; ((with_reducible refine HF.out.mono ?_); rintro e w6 ⟨rfl, hb6⟩)
            go_wp2
            go_ret2
            rw [HVV.out]
            exact ⟨_, n3, c5, rfl, own_base (own_below HO6.out hb6) B3.size, by omega, B5.trans (hb6.mono B5.size)⟩
          · have HVV := Lib.hid (HV.out.trans (if_neg (by rw [HLm.out, k4]; exact Bool.false_ne_true)))
            rw [k4] at cf
            have HF := Lib.hid cf
            clear cf k4
            go_wp2_with fail; ((with_reducible refine HF.out.mono ?_); rintro e w6 ⟨rfl, hb6⟩)
            go_wp2
            go_ret2
            rw [HVV.out]
            exact ⟨none, 0, 0, rfl, own_nil _ _ _ _, by omega, B5.trans (hb6.mono B5.size)⟩
      · have HV := Lib.hid (HV2.out (by rw [HN4.out]; exact k3))
        rw [k3] at hci
        have HCI := Lib.hid hci
        clear hci k1 k2 k3 s1 s2 s3
        go_wp2_with fail; ((with_reducible refine HCI.out.mono ?_); rintro e w' ⟨rfl, rfl⟩)
        go_wp2
        go_ret2
        rw [HV.out]
        exact ⟨none, 0, 0, rfl, own_nil _ _ _ _, by omega, B2⟩
    · go_enter Try.func33, Try.ntmps33
      go_wp2_with fail; ((with_reducible refine HCM.out.mono ?_); rintro e w1 ⟨rfl, hb1⟩)
      have B1 := hb.trans (hb1.mono hb.size)
      have p0 := (hb1.cell (p := ⟨w.heap.size, 0, none⟩) z0).trans g0
      have p1 := (hb1.cell (p := ⟨w.heap.size, 1, none⟩) z0).trans g1
      have z1 := Nat.lt_of_lt_of_le z0 hb1.size
      have cM := meshes_any J M m d xs w1 (HW.out _ B1) K1.out
      go_wp2_with fail; ((with_reducible refine cM.mono ?_); rintro e w2 ⟨A4, n4, c4, rws, rfl, hos, hda, hb2⟩)
      have B2 := B1.trans (hb2.mono B1.size)
      have p0 := (hb2.cell (p := ⟨w.heap.size, 0, none⟩) z1).trans p0
      have p1 := (hb2.cell (p := ⟨w.heap.size, 1, none⟩) z1).trans p1
      have z2 := Nat.lt_of_lt_of_le z1 hb2.size
      have HMS : Hid (Mms w2 w1.heap.size A4 n4 c4 (meshL J xs) rws) := ⟨hos, hda⟩
      have HN4 := Lib.hid HMS.out.len
      have hn4 : n4 ≤ 24 := by rw [← HN4.out]; exact HML.out
      have hci := indexValidM_any A4 n4 c4 k w2 (by omega)
      clear cM hos hda hb1 hb2
      rcases Bool.eq_false_or_eq_true (inB k 0 ((n4 : Int) - 1)) with k3 | k3
      · have HV := Lib.hid (HV7.out (by rw [HN4.out]; exact k3) (by rw [HLm.out]; exact k2))
        rw [k3] at hci
        have HCI := Lib.hid hci
        have cs := hasSystem_any J M m d A1 n1 c1 rs A2 n2 c2 ps A3 n3 c3 fs w2 (HR1.out _ B2) hn1 (HR2.out _ B2) hn2 (HR3.out _ B2) hn3
        rw [k2] at cs
        have HCS0 := Lib.hid cs
        clear hci k1 k2 k3 cs
        go_wp2_with fail; ((with_reducible refine HCI.out.mono ?_); rintro e w' ⟨rfl, rfl⟩)
        go_wp2_with fail; ((with_reducible refine HCS0.out.mono ?_); rintro e w3 ⟨rfl, hb3⟩)
        go_wp2
        go_ret2
        rw [HV.out]
        exact ⟨none, 0, 0, rfl, own_nil _ _ _ _, by omega, B2.trans (hb3.mono B2.size)⟩
      · have HV := Lib.hid (HV2.out (by rw [HN4.out]; exact k3))
        rw [k3] at hci
        have HCI := Lib.hid hci
        clear hci k1 k2 k3
        go_wp2_with fail; ((with_reducible refine HCI.out.mono ?_); rintro e w' ⟨rfl, rfl⟩)
        go_wp2
        go_ret2
        rw [HV.out]
        exact ⟨none, 0, 0, rfl, own_nil _ _ _ _, by omega, B2⟩
  · have HV := Lib.hid (corR_1 (rs := rs) (ps := ps) (fs := fs) (k := k) k1)
    rw [k1] at cm
    have HCA := Lib.hid cm
    clear cm k1
    go_enter Try.func33, Try.ntmps33
    go_wp2_with fail; ((with_reducible refine HCA.out.mono ?_); rintro e w1 ⟨rfl, hb1⟩)
    go_wp2
    go_ret2
    rw [HV.out]
    exact ⟨none, 0, 0, rfl, own_nil _ _ _ _, by omega, hb.trans (hb1.mono hb.size)⟩
end Go.Proofs.Ytjmhhbjbmgpagaa
