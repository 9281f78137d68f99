/- Contracts of the steepest airway. -/
import Derived.Test.YtgbmpadlfcbcaaaLev
namespace Go.Proofs.Ytgbmpadlfcbcaaa
set_option linter.unusedVariables false
set_option linter.unusedSimpArgs false
open Go.RowKit
def bestN (f : Nat → Int) : Nat → Int × Int
  | 0 => (0, -1)
  | k + 1 => if (bestN f k).2 < f k then ((k : Int), f k) else bestN f k
theorem bestN_y {f : Nat → Int} {k : Nat} (h : (bestN f k).2 < f k) : bestN f (k + 1) = ((k : Int), f k) := by simp only [bestN]; rw [if_pos h]
theorem bestN_n {f : Nat → Int} {k : Nat} (h : ¬ (bestN f k).2 < f k) : bestN f (k + 1) = bestN f k := by simp only [bestN]; rw [if_neg h]
theorem bestN_bnd {f : Nat → Int} (h : ∀ k, 0 ≤ f k ∧ f k ≤ 10000000) : ∀ k : Nat, 0 ≤ (bestN f k).1 ∧ (bestN f k).1 ≤ k ∧ -1 ≤ (bestN f k).2 ∧ (bestN f k).2 ≤ 10000000
  | 0 => by simp [bestN]
  | k + 1 => by
    have ih := bestN_bnd h k
    have hk := h k
    simp only [bestN]
    split
    · show 0 ≤ (k : Int) ∧ (k : Int) ≤ _ ∧ _; omega
    · omega
def riseOf (ls : List Int) (x : Awy) : Int := absI (ls.getD x.b.toNat 0 - ls.getD x.a.toNat 0)
def stpAt (xs : List Awy) (ls : List Int) (k : Nat) : Int :=
  match xs[k]? with
  | some x => if 0 < x.l ∧ riseOf ls x ≤ 6000 then 1000 * riseOf ls x / x.l else 0
  | none => 0
theorem absI_nn (a : Int) : 0 ≤ absI a := by unfold absI; omega
theorem stpAt_bnd (xs : List Awy) (ls : List Int) (k : Nat) : 0 ≤ stpAt xs ls k ∧ stpAt xs ls k ≤ 10000000 := by
  unfold stpAt
  split
  · split
    · rename_i x h h2
      have h3 := absI_nn (ls.getD x.b.toNat 0 - ls.getD x.a.toNat 0)
      exact ediv_bounds (by unfold riseOf; omega) h2.1 (by omega)
    · omega
  · omega
theorem stpAt_eq {xs : List Awy} {ls : List Int} {k tb ta : Nat} {x : Awy} {lb la : Int} (h : xs[k]? = some x) (hb : x.b = (tb : Int)) (ha : x.a = (ta : Int)) (eb : ls[tb]? = some lb) (ea : ls[ta]? = some la) (h1 : 0 < x.l) (h2 : absI (lb - la) ≤ 6000) : stpAt xs ls k = 1000 * absI (lb - la) / x.l := by
  have hr : riseOf ls x = absI (lb - la) := by
    unfold riseOf
    rw [hb, ha, Int.toNat_natCast, Int.toNat_natCast, List.getD_eq_getElem?_getD, List.getD_eq_getElem?_getD, eb, ea]; rfl
  unfold stpAt
  rw [h]
  show (if 0 < x.l ∧ riseOf ls x ≤ 6000 then 1000 * riseOf ls x / x.l else 0) = _
  rw [hr, if_pos ⟨h1, h2⟩]
def stpR (J : Int) (xs : List Awy) (ls : List Int) : Int × Int × Int :=
  if mineOk J xs = true then (if lstOk J (-3000) 3000 ls = true then (if xs.length = 0 then (0, 0, 3) else ((bestN (stpAt xs ls) xs.length).1, (bestN (stpAt xs ls) xs.length).2, 0)) else (0, 0, 7)) else (0, 0, 1)
set_option maxHeartbeats 1600000 in
theorem specSteepestOf_any (J : Int) (M : Option Addr) (m d : Nat) (xs : List Awy) (A : Option Addr) (n c : Nat) (ls : List Int) (w : World) (hm : Reads w w.heap.size 7 M m (Awy.recs xs)) (hmn : m ≤ 1048576) (hxs : ∀ x ∈ xs, x.s.size ≤ maxLen) (hr : Reads w w.heap.size 1 A n (ints ls)) (hn : n ≤ 1048576) :
    Calls Try.prog 15 #[.agg #[.int .i64 J, .slice M m d], .slice A n c] w fun e w' => e = .returned (.tuple #[.int .i64 (stpR J xs ls).1, .int .i64 (stpR J xs ls).2.1, .int .i64 (stpR J xs ls).2.2]) ∧ Below w.heap.size w w' := by
  have HLm := Lib.hid (recs_rlen Awy.clen (by omega) hm)
  have hb : Below w.heap.size w (w.alloc (.cells #[.int .i64 J, .slice M m d] 31)) := (Below.refl _ _).alloc (Nat.le_refl _) _
  have cc := l04Ok_any J M m d xs ⟨w.heap.size, 0, none⟩ _ ((hm.below hb).more hb.size) hmn hxs (Cells.new w _ _)
  have HXX := Lib.hid hxs
  clear hxs
  go_enter Try.func15, Try.ntmps15
  go_wp2_with fail; ((with_reducible refine (cc).mono ?_); rintro e w1 ⟨rfl, hb1⟩)
  have B1 : Below w.heap.size w w1 := hb.trans (hb1.mono (by simp))
  have z1 : w.heap.size < w1.heap.size := by have h := hb1.size; simp at h; omega
  have g0 : w1.cell? ⟨w.heap.size, 0, none⟩ = some (.int .i64 J) := (hb1.cell (p := ⟨w.heap.size, 0, none⟩) (by simp)).trans (by go_simp)
  have g1 : w1.cell? ⟨w.heap.size, 1, none⟩ = some (.slice M m d) := (hb1.cell (p := ⟨w.heap.size, 1, none⟩) (by simp)).trans (by go_simp)
  have hm1 := (hm.below B1).more B1.size
  have hr1 := (hr.below B1).more B1.size
  clear cc hb hb1
  rcases Bool.eq_false_or_eq_true (mineOk J xs) with hok | hok
  · have HO := Lib.hid (mineOk_t hok)
    have cl := l09Levels_any J ⟨w.heap.size, 0, none⟩ A n c ls w1 hr1 hn g0
    rcases Bool.eq_false_or_eq_true (lstOk J (-3000) 3000 ls) with hl | hl
    · rw [hl] at cl
      have HL := Lib.hid hl
      rcases Nat.eq_zero_or_pos m with h0 | hpos
      · have HV : Hid (stpR J xs ls = (0, 0, 3)) := show _ = _ by unfold stpR; rw [if_pos hok, if_pos hl, if_pos (by rw [HLm.out]; exact h0)]
        clear hl
        have hm0 : ((m : Int) == 0) = true := by rw [h0]; rfl
        clear h0
        go_wp2_with fail; ((with_reducible refine (cl).mono ?_); rintro e w' ⟨rfl, rfl⟩)
        go_wp2
        go_ret3
        exact ⟨by rw [HV.out]; rfl, B1⟩
      · have HV : Hid (stpR J xs ls = ((bestN (stpAt xs ls) m).1, (bestN (stpAt xs ls) m).2, 0)) := show _ = _ by unfold stpR; rw [if_pos hok, if_pos hl, HLm.out, if_neg (by omega)]
        have hm0 : ((m : Int) == 0) = false := beq_eq_false_iff_ne.2 (by omega)
        clear hl hpos
        go_wp2_with fail; ((with_reducible refine (cl).mono ?_); rintro e w' ⟨rfl, rfl⟩)
        go_wp2
        clear cl
        have HB := Lib.hid (bestN_bnd (stpAt_bnd xs ls))
        have hm24 : m ≤ 24 := by have := HO.out.2.1; rw [HLm.out] at this; exact this
        go_loopw [7, 8, 9] (fun b s i wr => ∃ k q : Nat, k ≤ m ∧ b = .int .i64 (bestN (stpAt xs ls) k).1 ∧ s = .int .i64 (bestN (stpAt xs ls) k).2 ∧ i = .int .i64 k ∧ wr = w1.drewN q) (fun _ _ i _ => m - (intOf i).toNat)
        case atStart => exact ⟨0, 0, by omega, rfl, rfl, rfl, rfl⟩
        case round =>
          obtain ⟨k, q, hk, rfl, rfl, rfl, rfl⟩ := hrel
          obtain ⟨b1, b2, b3, b4⟩ := HB.out k
          by_cases hlt : k < m
          · obtain ⟨ad, x, rfl, had, hx, hc⟩ := hm1.rec_at Awy.clen (by omega) hlt
            obtain ⟨ho, ⟨xa1, xa2⟩, ⟨xb1, xb2⟩⟩ := HO.out.2.2 x (List.mem_of_getElem? hx)
            obtain ⟨_, _, _, ⟨l1, l2⟩, _⟩ := awyOk_t ho
            obtain ⟨ta, hta⟩ : ∃ t : Nat, x.a = t := ⟨x.a.toNat, by omega⟩
            obtain ⟨tb, htb⟩ : ∃ t : Nat, x.b = t := ⟨x.b.toNat, by omega⟩
            obtain ⟨la, hla, la1, la2⟩ := lst_at HL.out (k := ta) (by omega)
            obtain ⟨lb, hlb, lb1, lb2⟩ := lst_at HL.out (k := tb) (by omega)
            obtain ⟨af, rfl, haf, hna, hca⟩ := hr1.int_at hla
            obtain ⟨af', e1, _, hnb, hcb⟩ := hr1.int_at hlb
            injection e1 with e1
            subst e1
            have q1 : 0 ≤ absI (lb - la) := absI_nn _
            have q2 : absI (lb - la) ≤ 6000 := by unfold absI; omega
            have HS := Lib.hid (stpAt_eq hx htb hta hlb hla (by omega) q2)
            obtain ⟨s1, s2⟩ := stpAt_bnd xs ls k
            obtain ⟨a0, a1, a2, a3, a4, a5, a6⟩ := Awy.open_ hc
            rw [hta] at a1
            rw [htb] at a2
            have hna' : (ta : Int) < (n : Int) := by omega
            have hnb' : (tb : Int) < (n : Int) := by omega
            have hl0 : x.l ≠ 0 := by omega
            have hwd : IntKind.i64.wrap (lb - la) = lb - la := IntWalk.i64_in _ (by omega)
            have hwm : IntKind.i64.wrap (1000 * absI (lb - la)) = 1000 * absI (lb - la) := IntWalk.i64_in _ (by omega)
            have hwq : Int.tdiv (1000 * absI (lb - la)) x.l = stpAt xs ls k := by rw [HS.out]; exact Int.tdiv_eq_ediv_of_nonneg (by omega)
            have hwr : IntKind.i64.wrap (stpAt xs ls k) = stpAt xs ls k := IntWalk.i64_in _ (by omega)
            have HA : Hid (∀ nn, Calls Try.prog 54 #[.int .i64 (lb - la)] (w1.drewN (q + nn)) fun e w'' => e = .returned (.int .i64 (absI (lb - la))) ∧ ∃ mm, w'' = w1.drewN (q + mm)) := fun nn => (l03Abs_any (lb - la) _ (by omega) (by omega)).mono fun _ _ ⟨he, hw⟩ => ⟨he, nn, hw.symm⟩
            clear hx hc hta htb hla hlb ho a0 a4 a5 a6
            go_wp2
            go_quiet ((go_at_call 54; exact HA.out _))
            by_cases hg : (bestN (stpAt xs ls) k).2 < stpAt xs ls k
            · have HY := Lib.hid (bestN_y hg)
              go_wp2
              go_roundw
              case rel => exact ⟨k + 1, _, by omega, by rw [HY.out], by rw [HY.out], by go_num, rfl⟩
              case measure => simp [intOf]; omega
            · have HY := Lib.hid (bestN_n hg)
              go_wp2
              go_roundw
              case rel => exact ⟨k + 1, _, by omega, by rw [HY.out], by rw [HY.out], by go_num, rfl⟩
              case measure => simp [intOf]; omega
          · have e : k = m := by omega
            go_wp2
            go_ret3
            exact ⟨by rw [HV.out, e]; rfl, below_drewN B1 _⟩
    · rw [hl] at cl
      have HV : Hid (stpR J xs ls = (0, 0, 7)) := show _ = _ by unfold stpR; rw [if_pos hok, if_neg (by rw [hl]; exact Bool.false_ne_true)]
      clear hl
      go_wp2_with fail; ((with_reducible refine (cl).mono ?_); rintro e w' ⟨rfl, rfl⟩)
      go_wp2
      go_ret3
      exact ⟨by rw [HV.out]; rfl, B1⟩
  · have HV : Hid (stpR J xs ls = (0, 0, 1)) := show _ = _ by unfold stpR; rw [if_neg (by rw [hok]; exact Bool.false_ne_true)]
    go_wp2
    go_ret3
    exact ⟨by rw [HV.out]; rfl, B1⟩
set_option maxHeartbeats 1600000 in
set_option maxRecDepth 100000 in
theorem implSteepestOf_any (J : Int) (M : Option Addr) (m d : Nat) (xs : List Awy) (A : Option Addr) (n c : Nat) (ls : List Int) (w : World) (hm : Reads w w.heap.size 7 M m (Awy.recs xs)) (hmn : m ≤ 1048576) (hxs : ∀ x ∈ xs, x.s.size ≤ maxLen) (hr : Reads w w.heap.size 1 A n (ints ls)) (hn : n ≤ 1048576) :
    Calls Try.prog 18 #[.agg #[.int .i64 J, .slice M m d], .slice A n c] w fun e w' => e = .returned (.tuple #[.int .i64 (stpR J xs ls).1, .int .i64 (stpR J xs ls).2.1, .int .i64 (stpR J xs ls).2.2]) ∧ Below w.heap.size w w' := by
  have HLm := Lib.hid (recs_rlen Awy.clen (by omega) hm)
  have hb : Below w.heap.size w (w.alloc (.cells #[.int .i64 J, .slice M m d] 31)) := (Below.refl _ _).alloc (Nat.le_refl _) _
  have cc := implValidMine_any J M m d xs _ ((hm.below hb).more hb.size) hmn hxs
  have HXX := Lib.hid hxs
  clear hxs
  go_enter Try.func18, Try.ntmps18
  go_wp2_with fail; ((with_reducible refine (cc).mono ?_); rintro e w1 ⟨rfl, hb1⟩)
  have B1 : Below w.heap.size w w1 := hb.trans (hb1.mono (by simp))
  have z1 : w.heap.size < w1.heap.size := by have h := hb1.size; simp at h; omega
  have g0 : w1.cell? ⟨w.heap.size, 0, none⟩ = some (.int .i64 J) := (hb1.cell (p := ⟨w.heap.size, 0, none⟩) (by simp)).trans (by go_simp)
  have g1 : w1.cell? ⟨w.heap.size, 1, none⟩ = some (.slice M m d) := (hb1.cell (p := ⟨w.heap.size, 1, none⟩) (by simp)).trans (by go_simp)
  clear cc hb hb1
  rcases Bool.eq_false_or_eq_true (mineOk J xs) with hok | hok
  · have HO := Lib.hid (mineOk_t hok)
    have cl := hasLevels_any J M m d A n c ls w1 ((hr.below B1).more B1.size) hn
    rcases Bool.eq_false_or_eq_true (lstOk J (-3000) 3000 ls) with hl | hl
    · rw [hl] at cl
      have HL := Lib.hid hl
      have HV0 : Hid (m = 0 → stpR J xs ls = (0, 0, 3)) := fun h0 => by unfold stpR; rw [if_pos hok, if_pos hl, if_pos (by rw [HLm.out]; exact h0)]
      have HV : Hid (m ≠ 0 → stpR J xs ls = ((bestN (stpAt xs ls) m).1, (bestN (stpAt xs ls) m).2, 0)) := fun h0 => by unfold stpR; rw [if_pos hok, if_pos hl, HLm.out, if_neg h0]
      clear hl
      go_wp2_with fail; ((with_reducible refine (cl).mono ?_); rintro e w2 ⟨rfl, hb2⟩)
      have B2 : Below w.heap.size w w2 := B1.trans (hb2.mono B1.size)
      have z2 : w.heap.size < w2.heap.size := by have h := hb2.size; omega
      have g2 : w2.cell? ⟨w.heap.size, 0, none⟩ = some (.int .i64 J) := (hb2.cell (p := ⟨w.heap.size, 0, none⟩) z1).trans g0
      have g3 : w2.cell? ⟨w.heap.size, 1, none⟩ = some (.slice M m d) := (hb2.cell (p := ⟨w.heap.size, 1, none⟩) z1).trans g1
      have hm2 := (hm.below B2).more B2.size
      have hr2 := (hr.below B2).more B2.size
      clear cl hb2 g0 g1
      go_wp2
      have HB := Lib.hid (bestN_bnd (stpAt_bnd xs ls))
      have hm24 : m ≤ 24 := by have := HO.out.2.1; rw [HLm.out] at this; exact this
      go_loopw [7, 8, 24] (fun b s i wr => ∃ (k : Nat) (vb vs : Int), k ≤ m ∧ b = .int .i64 vb ∧ s = .int .i64 vs ∧ i = .int .i64 k ∧ Hid (vb = if k = 0 then -1 else (bestN (stpAt xs ls) k).1) ∧ Hid (vs = if k = 0 then 0 else (bestN (stpAt xs ls) k).2) ∧ Below w2.heap.size w2 wr) (fun _ _ i _ => m - (intOf i).toNat)
      case atStart => exact ⟨0, -1, 0, by omega, rfl, rfl, rfl, rfl, rfl, Below.refl _ _⟩
      case round =>
        obtain ⟨k, vb, vs, hk, rfl, rfl, rfl, HVB, HVS, hbw⟩ := hrel
        obtain ⟨wo, rfl⟩ : ∃ wo : World, wo = wr := ⟨_, rfl⟩
        have zo := hbw.size
        obtain ⟨b1, b2, b3, b4⟩ := HB.out k
        by_cases hlt : k < m
        · obtain ⟨ad, x, rfl, had, hx, hc⟩ := (hm2.below hbw).rec_at Awy.clen (by omega) hlt
          obtain ⟨ho, ⟨xa1, xa2⟩, ⟨xb1, xb2⟩⟩ := HO.out.2.2 x (List.mem_of_getElem? hx)
          obtain ⟨_, _, _, ⟨l1, l2⟩, _⟩ := awyOk_t ho
          obtain ⟨ta, hta⟩ : ∃ t : Nat, x.a = t := ⟨x.a.toNat, by omega⟩
          obtain ⟨tb, htb⟩ : ∃ t : Nat, x.b = t := ⟨x.b.toNat, by omega⟩
          obtain ⟨la, hla, la1, la2⟩ := lst_at HL.out (k := ta) (by omega)
          obtain ⟨lb, hlb, lb1, lb2⟩ := lst_at HL.out (k := tb) (by omega)
          obtain ⟨af, rfl, haf, hna, hca⟩ := (hr2.below hbw).int_at hla
          obtain ⟨af', e1, _, hnb, hcb⟩ := (hr2.below hbw).int_at hlb
          injection e1 with e1
          subst e1
          have q1 : 0 ≤ absI (lb - la) := absI_nn _
          have q2 : absI (lb - la) ≤ 6000 := by unfold absI; omega
          have HS := Lib.hid (stpAt_eq hx htb hta hlb hla (by omega) q2)
          obtain ⟨s1, s2⟩ := stpAt_bnd xs ls k
          obtain ⟨a0, a1, a2, a3, a4, a5, a6⟩ := Awy.open_ hc
          rw [hta] at a1
          rw [htb] at a2
          have hna' : (ta : Int) < (n : Int) := by omega
          have hnb' : (tb : Int) < (n : Int) := by omega
          have hl0 : x.l ≠ 0 := by omega
          have hwd : IntKind.i64.wrap (lb - la) = lb - la := IntWalk.i64_in _ (by omega)
          have hwm : IntKind.i64.wrap (1000 * absI (lb - la)) = 1000 * absI (lb - la) := IntWalk.i64_in _ (by omega)
          have hwq : Int.tdiv (1000 * absI (lb - la)) x.l = stpAt xs ls k := by rw [HS.out]; exact Int.tdiv_eq_ediv_of_nonneg (by omega)
          have hwr : IntKind.i64.wrap (stpAt xs ls k) = stpAt xs ls k := IntWalk.i64_in _ (by omega)
          have F1 : (wo.alloc (.cells #[.string x.s, .int .i64 ta, .int .i64 tb, .int .i64 x.l, .int .i64 x.c, .int .i64 x.f, .int .i64 x.h] 73)).cell? ⟨wo.heap.size, 1, none⟩ = some (.int .i64 ta) := ((Blk.new wo _ _).cell 1).trans rfl
          have F2 : (wo.alloc (.cells #[.string x.s, .int .i64 ta, .int .i64 tb, .int .i64 x.l, .int .i64 x.c, .int .i64 x.f, .int .i64 x.h] 73)).cell? ⟨wo.heap.size, 2, none⟩ = some (.int .i64 tb) := ((Blk.new wo _ _).cell 2).trans rfl
          have F3 : (wo.alloc (.cells #[.string x.s, .int .i64 ta, .int .i64 tb, .int .i64 x.l, .int .i64 x.c, .int .i64 x.f, .int .i64 x.h] 73)).cell? ⟨wo.heap.size, 3, none⟩ = some (.int .i64 x.l) := ((Blk.new wo _ _).cell 3).trans rfl
          have F4 : (wo.alloc (.cells #[.string x.s, .int .i64 ta, .int .i64 tb, .int .i64 x.l, .int .i64 x.c, .int .i64 x.f, .int .i64 x.h] 73)).cell? (af.add ta) = some (.int .i64 la) := (World.cell?_alloc_lt _ _ _ (block_lt_of_cell hca)).trans hca
          have F5 : (wo.alloc (.cells #[.string x.s, .int .i64 ta, .int .i64 tb, .int .i64 x.l, .int .i64 x.c, .int .i64 x.f, .int .i64 x.h] 73)).cell? (af.add tb) = some (.int .i64 lb) := (World.cell?_alloc_lt _ _ _ (block_lt_of_cell hcb)).trans hcb
          have Bn : Below w2.heap.size w2 (wo.alloc (.cells #[.string x.s, .int .i64 ta, .int .i64 tb, .int .i64 x.l, .int .i64 x.c, .int .i64 x.f, .int .i64 x.h] 73)) := hbw.alloc zo _
          have HA : Hid (∀ nn, Calls Try.prog 58 #[.int .i64 (lb - la)] ((wo.alloc (.cells #[.string x.s, .int .i64 ta, .int .i64 tb, .int .i64 x.l, .int .i64 x.c, .int .i64 x.f, .int .i64 x.h] 73)).drewN nn) fun e w'' => e = .returned (.int .i64 (absI (lb - la))) ∧ ∃ mm, w'' = (wo.alloc (.cells #[.string x.s, .int .i64 ta, .int .i64 tb, .int .i64 x.l, .int .i64 x.c, .int .i64 x.f, .int .i64 x.h] 73)).drewN mm) := fun nn => (abs_any (lb - la) _ (by omega) (by omega)).mono fun _ _ ⟨he, hw⟩ => ⟨he, nn, hw.symm⟩
          clear hx hc hta htb hla hlb ho hca hcb
          have hg0 : k = 0 → (bestN (stpAt xs ls) k).2 < stpAt xs ls k := fun h => by subst h; show (-1 : Int) < _; omega
          rcases Nat.eq_zero_or_pos k with h0 | hpos
          · have HY := Lib.hid (bestN_y (hg0 h0))
            obtain rfl : vb = -1 := HVB.out.trans (if_pos h0)
            clear h0 hg0
            go_wp2
            go_quiet ((go_at_call 58; exact HA.out _))
            go_wp2
            go_roundw
            case rel => exact ⟨k + 1, _, _, by omega, rfl, rfl, by go_num, show _ = _ by rw [HY.out, if_neg (by omega)], show _ = _ by rw [HY.out, if_neg (by omega)], below_drewN Bn _⟩
            case measure => simp [intOf]; omega
          · obtain rfl : vb = (bestN (stpAt xs ls) k).1 := HVB.out.trans (if_neg (by omega))
            obtain rfl : vs = (bestN (stpAt xs ls) k).2 := HVS.out.trans (if_neg (by omega))
            clear hg0
            by_cases hg : (bestN (stpAt xs ls) k).2 < stpAt xs ls k
            · have HY := Lib.hid (bestN_y hg)
              go_wp2
              go_quiet ((go_at_call 58; exact HA.out _))
              go_wp2
              go_roundw
              case rel => exact ⟨k + 1, _, _, by omega, rfl, rfl, by go_num, show _ = _ by rw [HY.out, if_neg (by omega)], show _ = _ by rw [HY.out, if_neg (by omega)], below_drewN Bn _⟩
              case measure => simp [intOf]; omega
            · have HY := Lib.hid (bestN_n hg)
              go_wp2
              go_quiet ((go_at_call 58; exact HA.out _))
              go_wp2
              go_roundw
              case rel => exact ⟨k + 1, _, _, by omega, rfl, rfl, by go_num, show _ = _ by rw [HY.out, if_neg (by omega)], show _ = _ by rw [HY.out, if_neg (by omega)], below_drewN Bn _⟩
              case measure => simp [intOf]; omega
        · have e : k = m := by omega
          have Bw := B2.trans (hbw.mono B2.size)
          rcases Nat.eq_zero_or_pos k with h0 | hpos
          · have hv := HV0.out (by omega)
            have Hv := Lib.hid hv
            obtain rfl : vb = -1 := HVB.out.trans (if_pos h0)
            clear e h0 hv
            go_wp2
            go_ret3
            exact ⟨by rw [Hv.out]; rfl, Bw⟩
          · have hv := HV.out (by omega)
            rw [← e] at hv
            have Hv := Lib.hid hv
            obtain rfl : vb = (bestN (stpAt xs ls) k).1 := HVB.out.trans (if_neg (by omega))
            obtain rfl : vs = (bestN (stpAt xs ls) k).2 := HVS.out.trans (if_neg (by omega))
            clear e hv
            go_wp2
            go_ret3
            exact ⟨by rw [Hv.out]; rfl, Bw⟩
    · rw [hl] at cl
      have HV : Hid (stpR J xs ls = (0, 0, 7)) := show _ = _ by unfold stpR; rw [if_pos hok, if_neg (by rw [hl]; exact Bool.false_ne_true)]
      clear hl
      go_wp2_with fail; ((with_reducible refine (cl).mono ?_); rintro e w2 ⟨rfl, hb2⟩)
      go_wp2
      go_ret3
      exact ⟨by rw [HV.out]; rfl, B1.trans (hb2.mono B1.size)⟩
  · have HV : Hid (stpR J xs ls = (0, 0, 1)) := show _ = _ by unfold stpR; rw [if_neg (by rw [hok]; exact Bool.false_ne_true)]
    go_wp2
    go_ret3
    exact ⟨by rw [HV.out]; rfl, B1⟩
end Go.Proofs.Ytgbmpadlfcbcaaa
