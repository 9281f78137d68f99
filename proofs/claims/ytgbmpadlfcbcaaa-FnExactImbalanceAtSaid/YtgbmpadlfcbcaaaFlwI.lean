/- Contracts of the sums of flows at a junction, the program's. -/
import Derived.Test.YtgbmpadlfcbcaaaFlow
namespace Go.Proofs.Ytgbmpadlfcbcaaa
set_option linter.unusedVariables false
set_option linter.unusedSimpArgs false
open Go.RowKit
set_option maxHeartbeats 1600000 in
set_option maxRecDepth 100000 in
theorem imbalance_any (J : Int) (M : Option Addr) (m d : Nat) (xs : List Awy) (A : Option Addr) (n c : Nat) (fs : List Int) (j : Int) (w : World) (hm1 : Reads w w.heap.size 7 M m (Awy.recs xs)) (hr1 : Reads w w.heap.size 1 A n (ints fs))
    (hok : mineOk J xs = true) (hl : lstOk xs.length (-100000) 100000 fs = true) :
    Calls Try.prog 67 #[.agg #[.int .i64 J, .slice M m d], .slice A n c, .int .i64 j] w fun e w' => e = .returned (.int .i64 (exTo xs fs j xs.length)) ∧ Below w.heap.size w w' := by
  have HO := Lib.hid (mineOk_t hok)
  have HF := Lib.hid (lstOk_t hl).2
  have HLL := Lib.hid hl
  have HLm := Lib.hid (recs_rlen Awy.clen (by omega) hm1)
  have hm24 : m ≤ 24 := by have := HO.out.2.1; rw [HLm.out] at this; exact this
  have hb0 : Below w.heap.size w (w.alloc (.cells #[.int .i64 J, .slice M m d] 31)) := (Below.refl _ _).alloc (Nat.le_refl _) _
  have hm : Reads (w.alloc (.cells #[.int .i64 J, .slice M m d] 31)) (w.heap.size + 1) 7 M m (Awy.recs xs) := (hm1.below hb0).more (by omega)
  have hr : Reads (w.alloc (.cells #[.int .i64 J, .slice M m d] 31)) (w.heap.size + 1) 1 A n (ints fs) := (hr1.below hb0).more (by omega)
  clear hok hl hb0
  go_enter Try.func67, Try.ntmps67
  go_wp2
  go_loopw [7, 13] (fun s i wr => ∃ k : Nat, k ≤ m ∧ i = .int .i64 k ∧ s = .int .i64 (exTo xs fs j k) ∧ Below (w.heap.size + 1) (w.alloc (.cells #[.int .i64 J, .slice M m d] 31)) wr) (fun _ i _ => m - (intOf i).toNat)
  case atStart => exact ⟨0, by omega, rfl, rfl, Below.refl _ _⟩
  case round =>
    obtain ⟨k, hk, rfl, rfl, hbw⟩ := hrel
    obtain ⟨wo, rfl⟩ : ∃ wo : World, wo = wr := ⟨_, rfl⟩
    have zo : w.heap.size < wo.heap.size := by have h := hbw.size; simp at h; omega
    have Bw : Below w.heap.size w wo := ((Below.refl _ _).alloc (Nat.le_refl _) _).trans (hbw.mono (by omega))
    obtain ⟨s1, s2⟩ := exTo_bnd (xs := xs) (j := j) HF.out k
    by_cases hlt : k < m
    · obtain ⟨ad, x, rfl, had, hx, hc⟩ := (hm.below hbw).rec_at Awy.clen (by omega) hlt
      obtain ⟨a0, a1, a2, a3, a4, a5, a6⟩ := Awy.open_ hc
      have HNE := Lib.hid (HO.out.2.2 x (List.mem_of_getElem? hx))
      obtain ⟨f, hf, f1, f2⟩ := lst_at HLL.out (k := k) (by rw [HLm.out]; omega)
      obtain ⟨af, rfl, haf, hkn, hcf⟩ := (hr.below hbw).int_at hf
      have gf : (wo.alloc (.cells #[.string x.s, .int .i64 x.a, .int .i64 x.b, .int .i64 x.l, .int .i64 x.c, .int .i64 x.f, .int .i64 x.h] 73)).cell? (af.add k) = some (.int .i64 f) := (World.cell?_alloc_lt _ _ _ (block_lt_of_cell hcf)).trans hcf
      have HS := Lib.hid (exTo_snoc (j := j) hx hf)
      have hltI : (k : Int) < (n : Int) := by omega
      have Bn : Below (w.heap.size + 1) (w.alloc (.cells #[.int .i64 J, .slice (some ad) m d] 31)) (wo.alloc (.cells #[.string x.s, .int .i64 x.a, .int .i64 x.b, .int .i64 x.l, .int .i64 x.c, .int .i64 x.f, .int .i64 x.h] 73)) := hbw.alloc (by omega) _
      clear hx hf hc
      rcases Bool.eq_false_or_eq_true (j == x.b) with hb | hb <;> rcases Bool.eq_false_or_eq_true (j == x.a) with ha | ha
      · exfalso
        have e1 := eq_of_beq hb
        have e2 := eq_of_beq ha
        exact (awyOk_t HNE.out.1).2.2.1 (e2.symm.trans e1)
      all_goals
        have HE : Hid (exTo xs fs j (k + 1) = exTo xs fs j k + exStep j x f) := HS.out
        have HB : Hid ((x.b == j) = _) := BEq.comm.trans hb
        have HA : Hid ((x.a == j) = _) := BEq.comm.trans ha
        go_wp2
        go_roundw
        case rel => exact ⟨k + 1, by omega, by go_num, by rw [HE.out]; unfold exStep; rw [HB.out, HA.out]; first | rfl | simp [Int.sub_eq_add_neg] | simp, Bn⟩
        case measure => simp [intOf]; omega
    · have e : k = m := by omega
      go_wp2
      go_ret
      exact ⟨ret_int (by first | (rw [HLm.out]; done) | (rw [e, HLm.out]; done)), Bw⟩
set_option maxHeartbeats 1600000 in
set_option maxRecDepth 100000 in
theorem balanced_any (J : Int) (M : Option Addr) (m d : Nat) (xs : List Awy) (A : Option Addr) (n c : Nat) (fs : List Int) (w : World) (hm1 : Reads w w.heap.size 7 M m (Awy.recs xs)) (hr1 : Reads w w.heap.size 1 A n (ints fs))
    (hok : mineOk J xs = true) (hl : lstOk xs.length (-100000) 100000 fs = true) :
    Calls Try.prog 63 #[.agg #[.int .i64 J, .slice M m d], .slice A n c] w fun e w' => e = .returned (.bool (balOk J xs fs)) ∧ Below w.heap.size w w' := by
  have hJ := (mineOk_t hok).1
  obtain ⟨N, rfl⟩ : ∃ N : Nat, J = N := ⟨J.toNat, by omega⟩
  have HC : Hid (∀ (j : Int) (W : World), Below (w.heap.size + 1) (w.alloc (.cells #[.int .i64 N, .slice M m d] 31)) W → Calls Try.prog 67 #[.agg #[.int .i64 N, .slice M m d], .slice A n c, .int .i64 j] W fun e w' => e = .returned (.int .i64 (exTo xs fs j xs.length)) ∧ Below W.heap.size W w') := fun j W hW => by
    have B : Below w.heap.size w W := ((Below.refl _ _).alloc (Nat.le_refl _) _).trans (hW.mono (by omega))
    exact imbalance_any N M m d xs A n c fs j W ((hm1.below B).more B.size) ((hr1.below B).more B.size) hok hl
  have hN : N ≤ 16 := by omega
  clear hok hl hm1 hr1 hJ
  go_enter Try.func63, Try.ntmps63
  go_wp2
  go_loopw [8] (fun i wr => ∃ k : Nat, k ≤ N ∧ i = .int .i64 k ∧ Hid (∀ j, j < k → (exTo xs fs (j : Nat) xs.length == 0) = true) ∧ Below (w.heap.size + 1) (w.alloc (.cells #[.int .i64 N, .slice M m d] 31)) wr) (fun i _ => N - (intOf i).toNat)
  case atStart => exact ⟨0, by omega, rfl, fun j hj => absurd hj (Nat.not_lt_zero _), Below.refl _ _⟩
  case round =>
    obtain ⟨k, hk, rfl, HK, hbw⟩ := hrel
    obtain ⟨wo, rfl⟩ : ∃ wo : World, wo = wr := ⟨_, rfl⟩
    have zo : w.heap.size < wo.heap.size := by have h := hbw.size; simp at h; omega
    have Bw : Below w.heap.size w wo := ((Below.refl _ _).alloc (Nat.le_refl _) _).trans (hbw.mono (by omega))
    have g0 : wo.cell? ⟨w.heap.size, 0, none⟩ = some (.int .i64 N) := (hbw.cell (p := ⟨w.heap.size, 0, none⟩) (by show w.heap.size < _; omega)).trans (by go_simp)
    have g1 : wo.cell? ⟨w.heap.size, 1, none⟩ = some (.slice M m d) := (hbw.cell (p := ⟨w.heap.size, 1, none⟩) (by show w.heap.size < _; omega)).trans (by go_simp)
    by_cases hlt : k < N
    · have cc := HC.out k wo hbw
      cases hz : (exTo xs fs (k : Int) xs.length == 0)
      · have HZ := Lib.hid hz
        have hz' : (exTo xs fs (k : Int) xs.length != 0) = true := by rw [bne, hz]; rfl
        clear hz
        go_wp2_with fail; ((with_reducible refine (cc).mono ?_); rintro e w1 ⟨rfl, hb1⟩)
        go_wp2
        go_ret
        exact ⟨ret_bool (by unfold balOk; rw [allUpto_f (k := k) (by omega) HZ.out]), Bw.trans (hb1.mono (by omega))⟩
      · have HZ := Lib.hid hz
        have hz' : (exTo xs fs (k : Int) xs.length != 0) = false := by rw [bne, hz]; rfl
        clear hz
        go_wp2_with fail; ((with_reducible refine (cc).mono ?_); rintro e w1 ⟨rfl, hb1⟩)
        have Bn := hbw.trans (hb1.mono (by omega))
        go_wp2
        go_roundw
        case rel => exact ⟨k + 1, by omega, by go_num, upto_succ1 (f := fun j => exTo xs fs (j : Nat) xs.length == 0) HK.out HZ.out, Bn⟩
        case measure => simp [intOf]; omega
    · have e : k = N := by omega
      have HV : Hid (balOk N xs fs = true) := allUpto_t (by intro j hj; exact HK.out j (by omega))
      clear e
      go_wp2
      go_ret
      exact ⟨ret_bool HV.out.symm, Bw⟩
set_option maxHeartbeats 1600000 in
theorem implIsBalanced_any (J : Int) (M : Option Addr) (m d : Nat) (xs : List Awy) (A : Option Addr) (n c : Nat) (fs : List Int) (w : World) (hm : Reads w w.heap.size 7 M m (Awy.recs xs)) (hmn : m ≤ 1048576) (hxs : ∀ x ∈ xs, x.s.size ≤ maxLen) (hr : Reads w w.heap.size 1 A n (ints fs)) (hn : n ≤ 1048576) :
    Calls Try.prog 22 #[.agg #[.int .i64 J, .slice M m d], .slice A n c] w fun e w' => e = .returned (.bool (isBal J xs fs)) ∧ Below w.heap.size w w' := by
  have HLm := Lib.hid (recs_rlen Awy.clen (by omega) hm)
  have hb : Below w.heap.size w (w.alloc (.cells #[.int .i64 J, .slice M m d] 31)) := (Below.refl _ _).alloc (Nat.le_refl _) _
  have cc := implValidMine_any J M m d xs _ ((hm.below hb).more hb.size) hmn hxs
  have HXX := Lib.hid hxs
  clear hxs
  go_enter Try.func22, Try.ntmps22
  go_wp2_with fail; ((with_reducible refine (cc).mono ?_); rintro e w1 ⟨rfl, hb1⟩)
  have B1 : Below w.heap.size w w1 := hb.trans (hb1.mono (by simp))
  have z1 : w.heap.size < w1.heap.size := by have h := hb1.size; simp at h; omega
  have g0 : w1.cell? ⟨w.heap.size, 0, none⟩ = some (.int .i64 J) := (hb1.cell (p := ⟨w.heap.size, 0, none⟩) (by simp)).trans (by go_simp)
  have g1 : w1.cell? ⟨w.heap.size, 1, none⟩ = some (.slice M m d) := (hb1.cell (p := ⟨w.heap.size, 1, none⟩) (by simp)).trans (by go_simp)
  have hm1 := (hm.below B1).more B1.size
  have hr1 := (hr.below B1).more B1.size
  clear cc hb hb1
  rcases Bool.eq_false_or_eq_true (mineOk J xs) with hok | hok
  · have cf := hasFlows_any J M m d A n c fs w1 hr1 hn
    have HOK := Lib.hid hok
    rcases Bool.eq_false_or_eq_true (lstOk m (-100000) 100000 fs) with hl | hl
    · have HL2 : Hid (lstOk xs.length (-100000) 100000 fs = true) := show _ = _ by rw [HLm.out]; exact hl
      go_wp2_with fail; ((with_reducible refine (cf).mono ?_); rintro e w2 ⟨rfl, hb2⟩)
      have B2 : Below w.heap.size w w2 := B1.trans (hb2.mono B1.size)
      have g2 : w2.cell? ⟨w.heap.size, 0, none⟩ = some (.int .i64 J) := (hb2.cell (p := ⟨w.heap.size, 0, none⟩) z1).trans g0
      have g3 : w2.cell? ⟨w.heap.size, 1, none⟩ = some (.slice M m d) := (hb2.cell (p := ⟨w.heap.size, 1, none⟩) z1).trans g1
      clear g0 g1 cf
      rw [hl]
      have cb := balanced_any J M m d xs A n c fs w2 ((hm.below B2).more B2.size) ((hr.below B2).more B2.size) HOK.out HL2.out
      go_wp2_with fail; ((with_reducible refine (cb).mono ?_); rintro e w3 ⟨rfl, hb3⟩)
      go_wp2
      go_ret
      exact ⟨ret_bool (by unfold isBal; rw [HOK.out, HL2.out]; rfl), B2.trans (hb3.mono B2.size)⟩
    · have hl2 : Hid (lstOk xs.length (-100000) 100000 fs = false) := show _ = _ by rw [HLm.out]; exact hl
      go_wp2_with fail; ((with_reducible refine (cf).mono ?_); rintro e w2 ⟨rfl, hb2⟩)
      rw [hl]
      go_wp2
      go_ret
      exact ⟨ret_bool (by unfold isBal; rw [hl2.out]; simp), B1.trans (hb2.mono B1.size)⟩
  · have HOK := Lib.hid hok
    go_wp2
    go_ret
    exact ⟨ret_bool (by unfold isBal; rw [HOK.out]; rfl), B1⟩
set_option maxHeartbeats 1600000 in
theorem implImbalanceAt_any (J : Int) (M : Option Addr) (m d : Nat) (xs : List Awy) (A : Option Addr) (n c : Nat) (fs : List Int) (j : Int) (w : World) (hm : Reads w w.heap.size 7 M m (Awy.recs xs)) (hmn : m ≤ 1048576) (hxs : ∀ x ∈ xs, x.s.size ≤ maxLen) (hr : Reads w w.heap.size 1 A n (ints fs)) (hn : n ≤ 1048576) :
    Calls Try.prog 24 #[.agg #[.int .i64 J, .slice M m d], .slice A n c, .int .i64 j] w fun e w' => e = .returned (.tuple #[.int .i64 (imbR J xs fs j).1, .int .i64 (imbR J xs fs j).2]) ∧ Below w.heap.size w w' := by
  have HLm := Lib.hid (recs_rlen Awy.clen (by omega) hm)
  have hb : Below w.heap.size w (w.alloc (.cells #[.int .i64 J, .slice M m d] 31)) := (Below.refl _ _).alloc (Nat.le_refl _) _
  have cc := implValidMine_any J M m d xs _ ((hm.below hb).more hb.size) hmn hxs
  have HXX := Lib.hid hxs
  clear hxs
  go_enter Try.func24, Try.ntmps24
  go_wp2_with fail; ((with_reducible refine (cc).mono ?_); rintro e w1 ⟨rfl, hb1⟩)
  have B1 : Below w.heap.size w w1 := hb.trans (hb1.mono (by simp))
  have z1 : w.heap.size < w1.heap.size := by have h := hb1.size; simp at h; omega
  have g0 : w1.cell? ⟨w.heap.size, 0, none⟩ = some (.int .i64 J) := (hb1.cell (p := ⟨w.heap.size, 0, none⟩) (by simp)).trans (by go_simp)
  have g1 : w1.cell? ⟨w.heap.size, 1, none⟩ = some (.slice M m d) := (hb1.cell (p := ⟨w.heap.size, 1, none⟩) (by simp)).trans (by go_simp)
  clear cc hb hb1
  rcases Bool.eq_false_or_eq_true (mineOk J xs) with hok | hok
  · obtain ⟨⟨j1, j2⟩, _⟩ := mineOk_t hok
    have HOK := Lib.hid hok
    have cj := hasJunction_any J (.slice M m d) j w1 ⟨M, m, d, rfl⟩ (by omega) (by omega)
    rcases Bool.eq_false_or_eq_true (inB j 0 (J - 1)) with hj | hj
    · have HJJ := Lib.hid hj
      rw [hj] at cj
      clear hj
      go_wp2_with fail; ((with_reducible refine (cj).mono ?_); rintro e w2 ⟨rfl, hb2⟩)
      have B2 : Below w.heap.size w w2 := B1.trans (hb2.mono B1.size)
      have z2 : w.heap.size < w2.heap.size := by have h := hb2.size; omega
      have g2 : w2.cell? ⟨w.heap.size, 0, none⟩ = some (.int .i64 J) := (hb2.cell (p := ⟨w.heap.size, 0, none⟩) z1).trans g0
      have g3 : w2.cell? ⟨w.heap.size, 1, none⟩ = some (.slice M m d) := (hb2.cell (p := ⟨w.heap.size, 1, none⟩) z1).trans g1
      clear g0 g1 cj hb2
      have cf := hasFlows_any J M m d A n c fs w2 ((hr.below B2).more B2.size) hn
      rcases Bool.eq_false_or_eq_true (lstOk m (-100000) 100000 fs) with hl | hl
      · have HL2 : Hid (lstOk xs.length (-100000) 100000 fs = true) := show _ = _ by rw [HLm.out]; exact hl
        have HV : Hid (imbR J xs fs j = (exTo xs fs j xs.length, 0)) := show _ = _ by unfold imbR; rw [if_pos HOK.out, if_pos HJJ.out, if_pos HL2.out]
        rw [hl] at cf
        clear hl
        go_wp2_with fail; ((with_reducible refine (cf).mono ?_); rintro e w3 ⟨rfl, hb3⟩)
        have B3 : Below w.heap.size w w3 := B2.trans (hb3.mono B2.size)
        have g4 : w3.cell? ⟨w.heap.size, 0, none⟩ = some (.int .i64 J) := (hb3.cell (p := ⟨w.heap.size, 0, none⟩) z2).trans g2
        have g5 : w3.cell? ⟨w.heap.size, 1, none⟩ = some (.slice M m d) := (hb3.cell (p := ⟨w.heap.size, 1, none⟩) z2).trans g3
        clear g2 g3 cf hb3
        have cb := imbalance_any J M m d xs A n c fs j w3 ((hm.below B3).more B3.size) ((hr.below B3).more B3.size) HOK.out HL2.out
        go_wp2_with fail; ((with_reducible refine (cb).mono ?_); rintro e w4 ⟨rfl, hb4⟩)
        go_wp2
        go_ret2
        exact ⟨by rw [HV.out]; rfl, B3.trans (hb4.mono B3.size)⟩
      · have HL2 : Hid (lstOk xs.length (-100000) 100000 fs = false) := show _ = _ by rw [HLm.out]; exact hl
        have HV : Hid (imbR J xs fs j = (0, 7)) := show _ = _ by unfold imbR; rw [if_pos HOK.out, if_pos HJJ.out, if_neg (by rw [HL2.out]; exact Bool.false_ne_true)]
        rw [hl] at cf
        clear hl
        go_wp2_with fail; ((with_reducible refine (cf).mono ?_); rintro e w3 ⟨rfl, hb3⟩)
        go_wp2
        go_ret2
        exact ⟨by rw [HV.out]; rfl, B2.trans (hb3.mono B2.size)⟩
    · have HV : Hid (imbR J xs fs j = (0, 2)) := show _ = _ by unfold imbR; rw [if_pos HOK.out, if_neg (by rw [hj]; exact Bool.false_ne_true)]
      rw [hj] at cj
      clear hj
      go_wp2_with fail; ((with_reducible refine (cj).mono ?_); rintro e w2 ⟨rfl, hb2⟩)
      go_wp2
      go_ret2
      exact ⟨by rw [HV.out]; rfl, B1.trans (hb2.mono B1.size)⟩
  · have HV : Hid (imbR J xs fs j = (0, 1)) := show _ = _ by unfold imbR; rw [if_neg (by rw [hok]; exact Bool.false_ne_true)]
    go_wp2
    go_ret2
    exact ⟨by rw [HV.out]; rfl, B1⟩
end Go.Proofs.Ytgbmpadlfcbcaaa
