/- Contracts of the fan with the least power, both sides. -/
import Derived.Test.YtapophggndlhaaaFanL
namespace Go.Proofs.Ytapophggndlhaaa
set_option linter.unusedVariables false
set_option linter.unusedSimpArgs false
open Go.RowKit
/-- The best fan among the first k, and its power. -/
def bestUp (ks : List FKey) (r need : Int) : Nat → Int × Int
  | 0 => (-1, 0)
  | k + 1 => match ks[k]? with
    | some x => if need ≤ wrkV x.2.2 r ∧ ((bestUp ks r need k).1 < 0 ∨ pwr x.2.2 (wrkV x.2.2 r) < (bestUp ks r need k).2) then ((k : Int), pwr x.2.2 (wrkV x.2.2 r)) else bestUp ks r need k
    | none => bestUp ks r need k
section
variable {ks : List FKey} {r need : Int} {k : Nat} {x : FKey}
theorem best_y (h : ks[k]? = some x) (h1 : need ≤ wrkV x.2.2 r) (h2 : (bestUp ks r need k).1 < 0 ∨ pwr x.2.2 (wrkV x.2.2 r) < (bestUp ks r need k).2) : bestUp ks r need (k + 1) = ((k : Int), pwr x.2.2 (wrkV x.2.2 r)) := by
  simp only [bestUp]; rw [h]; simp only []; rw [if_pos ⟨h1, h2⟩]
theorem best_n (h : ks[k]? = some x) (h1 : ¬ (need ≤ wrkV x.2.2 r ∧ ((bestUp ks r need k).1 < 0 ∨ pwr x.2.2 (wrkV x.2.2 r) < (bestUp ks r need k).2))) : bestUp ks r need (k + 1) = bestUp ks r need k := by
  simp only [bestUp]; rw [h]; simp only []; rw [if_neg h1]
theorem best_bnd (ks : List FKey) (r need : Int) : ∀ k : Nat, -1 ≤ (bestUp ks r need k).1 ∧ (bestUp ks r need k).1 < k
  | 0 => ⟨by simp [bestUp], by simp [bestUp]⟩
  | k + 1 => by
    have h := best_bnd ks r need k
    cases hx : ks[k]? with
    | none =>
      have e : bestUp ks r need (k + 1) = bestUp ks r need k := by simp only [bestUp]; rw [hx]
      rw [e]; omega
    | some x =>
      by_cases hc : need ≤ wrkV x.2.2 r ∧ ((bestUp ks r need k).1 < 0 ∨ pwr x.2.2 (wrkV x.2.2 r) < (bestUp ks r need k).2)
      · rw [best_y hx hc.1 hc.2]; exact ⟨by show -1 ≤ (k : Int); omega, by show (k : Int) < _; omega⟩
      · rw [best_n hx hc]; omega
def bestOk (ks : List FKey) (r need : Int) : Int := if fansOk ks = true then (if isRes r = true ∧ inB need 0 100000 = true then 0 else 2) else 1
def bestR (ks : List FKey) (r need : Int) : Int × Int :=
  if fansOk ks = true then (if isRes r = true ∧ inB need 0 100000 = true then orNF (bestUp ks r need ks.length).1 (decide (0 ≤ (bestUp ks r need ks.length).1)) else (0, 2)) else (0, 1)
theorem bestR_1 (h : fansOk ks = false) : bestR ks r need = (0, 1) := by unfold bestR; rw [if_neg (by rw [h]; exact Bool.false_ne_true)]
theorem bestR_2 (h : fansOk ks = true) (h1 : isRes r = false) : bestR ks r need = (0, 2) := by unfold bestR; rw [if_pos h, if_neg (by rw [h1]; simp)]
theorem bestR_3 (h : fansOk ks = true) (h1 : isRes r = true) (h2 : inB need 0 100000 = false) : bestR ks r need = (0, 2) := by unfold bestR; rw [if_pos h, if_neg (by rw [h2]; simp)]
theorem bestR_0 (h : fansOk ks = true) (h1 : isRes r = true) (h2 : inB need 0 100000 = true) : bestR ks r need = orNF (bestUp ks r need ks.length).1 (decide (0 ≤ (bestUp ks r need ks.length).1)) := by
  unfold bestR; rw [if_pos h, if_pos ⟨h1, h2⟩]
end
set_option maxHeartbeats 1600000 in
set_option maxRecDepth 100000 in
theorem specBestFan_any (A : Option Addr) (n c : Nat) (xs : List Fan) (r need : Int) (w : World) (hr : FSS w w.heap.size A n xs) (hn : n ≤ 1048576) (hxs : ∀ x ∈ xs, x.ok) :
    Calls Try.prog 27 #[.slice A n c, .int .i64 r, .int .i64 need] w fun e w' => e = .returned (.tuple #[.int .i64 (bestR (fdat xs) r need).1, .int .i64 (bestR (fdat xs) r need).2]) ∧ Below w.heap.size w w' := by
  have HLn : Hid ((fdat xs).length = n) := show _ = _ by rw [fdat_len]; exact hr.len
  have cc := l06List_any A n c xs w hr hn hxs
  clear hxs
  rcases Bool.eq_false_or_eq_true (fansOk (fdat xs)) with k0 | k0
  · rw [k0] at cc
    have HC := Lib.hid cc
    clear cc
    rcases Bool.eq_false_or_eq_true (isRes r) with k1 | k1
    · rcases Bool.eq_false_or_eq_true (inB need 0 100000) with k2 | k2
      · have HV := Lib.hid (bestR_0 k0 k1 k2)
        have HOK := Lib.hid (fansOk_t k0)
        have HR := Lib.hid k1
        have n8 : n ≤ 8 := by have h1 := HOK.out.1; have h2 := HLn.out; omega
        clear k0
        go_enter Try.func27, Try.ntmps27
        go_wp2_with fail; ((with_reducible refine HC.out.mono ?_); rintro e w1 ⟨rfl, hb1⟩)
        go_wp2_with fail; ((with_reducible refine (l03Res_any r _).mono ?_); rintro e w' ⟨rfl, rfl⟩)
        go_wp2_with fail; ((with_reducible refine (l00In_any need _ _ _).mono ?_); rintro e w' ⟨rfl, rfl⟩)
        rw [k2]
        clear k1 k2
        go_wp2
        go_loopw [8, 9, 10] (fun b l i wr => ∃ (k : Nat) (bv lv : Int), k ≤ n ∧ b = .int .i64 bv ∧ l = .int .i64 lv ∧ i = .int .i64 k ∧ -1 ≤ bv ∧ bv < k ∧ Hid (bestUp (fdat xs) r need k = (bv, lv)) ∧ Below w.heap.size w wr) (fun _ _ i _ => n - (intOf i).toNat)
        case atStart => exact ⟨0, -1, 0, by omega, rfl, rfl, rfl, by omega, by omega, rfl, hb1⟩
        case round =>
          obtain ⟨k, bv, lv, hk, rfl, rfl, rfl, hv1, hv2, HB, hbw⟩ := hrel
          by_cases hlt : k < n
          · obtain ⟨ad, x, rfl, had, hx, hc, hrx⟩ := (hr.below hbw).at_ hlt
            have HX := Lib.hid (fdat_at hx)
            have hok : crvOk (dat x.rs) = true := (fanOk_t (HOK.out.2 x.key (List.mem_of_getElem? HX.out))).2.2
            have hltI : (k : Int) < (n : Int) := by omega
            obtain ⟨a0, a1, a2⟩ := Fan.open_ hc
            have hwv := wrkV_bnd hok r
            have c1 := l06Point_any x.A x.n x.c x.rs r (ad.add (k * 3)) wr (hrx.more hbw.size) hok HR.out a2
            have HP : Hid (∀ W, Below wr.heap.size wr W → Calls Try.prog 49 #[.pointer (some (ad.add (k * 3))), .int .i64 (wrkV (dat x.rs) r)] W fun e w' => e = .returned (.int .i64 (pwr (dat x.rs) (wrkV (dat x.rs) r))) ∧ Below W.heap.size W w') :=
              fun W hb => l06Power_any x.A x.n x.c x.rs _ (ad.add (k * 3)) W ((hrx.below (hb.mono hbw.size)).more (Nat.le_trans hbw.size hb.size)) hok (by omega) (by omega) ((hb.cell (block_lt_of_cell a2)).trans a2)
            clear hx hc hok hrx
            have HY := Lib.hid (fun h1 h2 => best_y (need := need) (r := r) HX.out h1 h2)
            have HN := Lib.hid (fun h1 => best_n (need := need) (r := r) HX.out h1)
            go_wp2_with fail; ((with_reducible refine c1.mono ?_); rintro e w2 ⟨rfl, hb2⟩)
            clear c1
            go_wp2_with fail; ((with_reducible refine (HP.out _ hb2).mono ?_); rintro e w3 ⟨rfl, hb3⟩)
            have B3 := Lib.hid (hbw.trans ((hb2.trans (hb3.mono hb2.size)).mono hbw.size))
            clear hb2 hb3 HP
            generalize hq : wrkV (dat x.rs) r = q at *
            generalize hp : pwr (dat x.rs) q = p at *
            have HQ := Lib.hid (And.intro hq hp)
            clear hq hp
            by_cases g1 : need ≤ q
            · by_cases g2 : bv < 0
              · go_wp2
                go_roundw
                case rel => exact ⟨k + 1, k, p, by omega, rfl, rfl, by go_num, by omega, by omega, by
                  rw [HY.out (by show need ≤ wrkV (dat x.rs) r; rw [HQ.out.1]; exact g1) (by rw [HB.out]; exact .inl g2)]; show (_, pwr (dat x.rs) (wrkV (dat x.rs) r)) = _; rw [HQ.out.1, HQ.out.2], B3.out⟩
                case measure => simp [intOf]; omega
              · by_cases g3 : p < lv
                · go_wp2
                  go_roundw
                  case rel => exact ⟨k + 1, k, p, by omega, rfl, rfl, by go_num, by omega, by omega, by
                    rw [HY.out (by show need ≤ wrkV (dat x.rs) r; rw [HQ.out.1]; exact g1) (by rw [HB.out]; show _ ∨ pwr (dat x.rs) (wrkV (dat x.rs) r) < lv; rw [HQ.out.1, HQ.out.2]; exact .inr g3)]; show (_, pwr (dat x.rs) (wrkV (dat x.rs) r)) = _; rw [HQ.out.1, HQ.out.2], B3.out⟩
                  case measure => simp [intOf]; omega
                · go_wp2
                  go_roundw
                  case rel => exact ⟨k + 1, bv, lv, by omega, rfl, rfl, by go_num, by omega, by omega, by
                    rw [HN.out (by rw [HB.out]; show ¬ (_ ∧ (_ ∨ pwr (dat x.rs) (wrkV (dat x.rs) r) < lv)); rw [HQ.out.1, HQ.out.2]; rintro ⟨_, h | h⟩ <;> (try simp only [] at h) <;> omega)]; exact HB.out, B3.out⟩
                  case measure => simp [intOf]; omega
            · go_wp2
              go_roundw
              case rel => exact ⟨k + 1, bv, lv, by omega, rfl, rfl, by go_num, by omega, by omega, by
                rw [HN.out (by show ¬ (need ≤ wrkV (dat x.rs) r ∧ _); rw [HQ.out.1]; rintro ⟨h, _⟩; omega)]; exact HB.out, B3.out⟩
              case measure => simp [intOf]; omega
          · have e : k = n := by omega
            have HZ : Hid (bestR (fdat xs) r need = orNF bv (decide (0 ≤ bv))) := show _ = _ by rw [HV.out, HLn.out, ← e, HB.out]
            clear e
            by_cases g : bv < 0
            · go_wp2
              go_ret2
              exact ⟨ret_int2 (by rw [HZ.out, decide_eq_false (by omega)]; rfl) (by rw [HZ.out, decide_eq_false (by omega)]; rfl), hbw⟩
            · go_wp2
              go_ret2
              exact ⟨ret_int2 (by rw [HZ.out, decide_eq_true (by omega)]; rfl) (by rw [HZ.out, decide_eq_true (by omega)]; rfl), hbw⟩
      · have HV := Lib.hid (bestR_3 k0 k1 k2)
        go_enter Try.func27, Try.ntmps27
        go_wp2_with fail; ((with_reducible refine HC.out.mono ?_); rintro e w1 ⟨rfl, hb1⟩)
        go_wp2_with fail; ((with_reducible refine (l03Res_any r _).mono ?_); rintro e w' ⟨rfl, rfl⟩)
        go_wp2_with fail; ((with_reducible refine (l00In_any need _ _ _).mono ?_); rintro e w' ⟨rfl, rfl⟩)
        rw [k2]
        go_wp2
        go_ret2
        exact ⟨ret_int2 (by rw [HV.out]) (by rw [HV.out]), hb1⟩
    · have HV := Lib.hid (bestR_2 (need := need) k0 k1)
      go_enter Try.func27, Try.ntmps27
      go_wp2_with fail; ((with_reducible refine HC.out.mono ?_); rintro e w1 ⟨rfl, hb1⟩)
      go_wp2_with fail; ((with_reducible refine (l03Res_any r _).mono ?_); rintro e w' ⟨rfl, rfl⟩)
      rw [k1]
      go_wp2
      go_ret2
      exact ⟨ret_int2 (by rw [HV.out]) (by rw [HV.out]), hb1⟩
  · have HV := Lib.hid (bestR_1 (r := r) (need := need) k0)
    rw [k0] at cc
    have HC := Lib.hid cc
    clear cc k0
    go_enter Try.func27, Try.ntmps27
    go_wp2_with fail; ((with_reducible refine HC.out.mono ?_); rintro e w1 ⟨rfl, hb1⟩)
    go_wp2
    go_ret2
    exact ⟨ret_int2 (by rw [HV.out]) (by rw [HV.out]), hb1⟩
set_option maxHeartbeats 1600000 in
set_option maxRecDepth 100000 in
theorem implBestFan_any (A : Option Addr) (n c : Nat) (xs : List Fan) (r need : Int) (w : World) (hr : FSS w w.heap.size A n xs) (hn : n ≤ 1048576) (hxs : ∀ x ∈ xs, x.ok) :
    Calls Try.prog 29 #[.slice A n c, .int .i64 r, .int .i64 need] w fun e w' => e = .returned (.tuple #[.int .i64 (bestR (fdat xs) r need).1, .int .i64 (bestR (fdat xs) r need).2]) ∧ Below w.heap.size w w' := by
  have HLn : Hid ((fdat xs).length = n) := show _ = _ by rw [fdat_len]; exact hr.len
  have cc := implValidFans_any A n c xs w hr hn hxs
  clear hxs
  rcases Bool.eq_false_or_eq_true (fansOk (fdat xs)) with k0 | k0
  · rw [k0] at cc
    have HC := Lib.hid cc
    clear cc
    rcases Bool.eq_false_or_eq_true (isRes r) with k1 | k1
    · rcases Bool.eq_false_or_eq_true (inB need 0 100000) with k2 | k2
      · have HV := Lib.hid (bestR_0 k0 k1 k2)
        have HOK := Lib.hid (fansOk_t k0)
        have HR := Lib.hid k1
        have n8 : n ≤ 8 := by have h1 := HOK.out.1; have h2 := HLn.out; omega
        clear k0
        go_enter Try.func29, Try.ntmps29
        go_wp2_with fail; ((with_reducible refine HC.out.mono ?_); rintro e w1 ⟨rfl, hb1⟩)
        go_wp2_with fail; ((with_reducible refine (resistanceOk_any r _).mono ?_); rintro e w' ⟨rfl, rfl⟩)
        go_wp2_with fail; ((with_reducible refine (within_any need _ _ _).mono ?_); rintro e w' ⟨rfl, rfl⟩)
        rw [k2]
        clear k1 k2
        go_wp2
        go_loopw [8, 9, 28] (fun b l i wr => ∃ (k : Nat) (bv lv : Int), k ≤ n ∧ b = .int .i64 bv ∧ l = .int .i64 lv ∧ i = .int .i64 k ∧ -1 ≤ bv ∧ bv < k ∧ Hid (bestUp (fdat xs) r need k = (bv, lv)) ∧ Below w.heap.size w wr) (fun _ _ i _ => n - (intOf i).toNat)
        case atStart => exact ⟨0, -1, 0, by omega, rfl, rfl, rfl, by omega, by omega, rfl, hb1⟩
        case round =>
          obtain ⟨k, bv, lv, hk, rfl, rfl, rfl, hv1, hv2, HB, hbw⟩ := hrel
          obtain ⟨wo, rfl⟩ : ∃ wo : World, wo = wr := ⟨_, rfl⟩
          by_cases hlt : k < n
          · obtain ⟨ad, x, rfl, had, hx, hc, hrx⟩ := (hr.below hbw).at_ hlt
            have HX := Lib.hid (fdat_at hx)
            have hok : crvOk (dat x.rs) = true := (fanOk_t (HOK.out.2 x.key (List.mem_of_getElem? HX.out))).2.2
            have hltI : (k : Int) < (n : Int) := by omega
            obtain ⟨a0, a1, a2⟩ := Fan.open_ hc
            have hwv := wrkV_bnd hok r
            have hbo : Below wo.heap.size wo (wo.alloc (.cells #[.string x.s, .int .i64 x.a, .slice x.A x.n x.c] 26)) := (Below.refl _ _).alloc (Nat.le_refl _) _
            have f0 : (wo.alloc (.cells #[.string x.s, .int .i64 x.a, .slice x.A x.n x.c] 26)).cell? ⟨wo.heap.size, 0, none⟩ = some (.string x.s) := ((Blk.new wo _ _).cell 0).trans rfl
            have f1 : (wo.alloc (.cells #[.string x.s, .int .i64 x.a, .slice x.A x.n x.c] 26)).cell? ⟨wo.heap.size, 1, none⟩ = some (.int .i64 x.a) := ((Blk.new wo _ _).cell 1).trans rfl
            have f2 : (wo.alloc (.cells #[.string x.s, .int .i64 x.a, .slice x.A x.n x.c] 26)).cell? ⟨wo.heap.size, 2, none⟩ = some (.slice x.A x.n x.c) := ((Blk.new wo _ _).cell 2).trans rfl
            have hrW : ∀ W, Below wo.heap.size wo W → RSS W W.heap.size x.A x.n x.rs := fun W hb => (hrx.below (hb.mono hbw.size)).more (Nat.le_trans hbw.size hb.size)
            have c1 := workingFlow_any x.s x.a x.A x.n x.c x.rs r _ (hrW _ hbo) hok HR.out
            have HP : Hid (∀ W, Below wo.heap.size wo W → Calls Try.prog 50 #[.agg #[.string x.s, .int .i64 x.a, .slice x.A x.n x.c], .int .i64 (wrkV (dat x.rs) r)] W fun e w' => e = .returned (.int .i64 (pwr (dat x.rs) (wrkV (dat x.rs) r))) ∧ Below W.heap.size W w') :=
              fun W hb => power_any x.s x.a x.A x.n x.c x.rs _ W (hrW W hb) hok (by omega) (by omega)
            have zo : wo.heap.size < (wo.alloc (.cells #[.string x.s, .int .i64 x.a, .slice x.A x.n x.c] 26)).heap.size := by simp
            clear hx hc hok hrx hrW
            have HY := Lib.hid (fun h1 h2 => best_y (need := need) (r := r) HX.out h1 h2)
            have HN := Lib.hid (fun h1 => best_n (need := need) (r := r) HX.out h1)
            go_wp2_with fail; ((with_reducible refine c1.mono ?_); rintro e w2 ⟨rfl, hb2⟩)
            clear c1
            have q0 := (hb2.cell (p := ⟨wo.heap.size, 0, none⟩) zo).trans f0
            have q1 := (hb2.cell (p := ⟨wo.heap.size, 1, none⟩) zo).trans f1
            have q2 := (hb2.cell (p := ⟨wo.heap.size, 2, none⟩) zo).trans f2
            have b2 := hbo.trans (hb2.mono hbo.size)
            have zo2 := Nat.lt_of_lt_of_le zo hb2.size
            clear f0 f1 f2 hb2 hbo zo
            generalize hq : wrkV (dat x.rs) r = q at *
            generalize hp : pwr (dat x.rs) q = p at *
            have HQ := Lib.hid (And.intro hq hp)
            clear hq hp
            by_cases g1 : need ≤ q
            · by_cases g2 : bv < 0
              · go_wp2_with fail; ((with_reducible refine (HP.out _ b2).mono ?_); rintro e w3 ⟨rfl, hb3⟩)
                have b3 := b2.trans (hb3.mono b2.size)
                go_wp2
                go_roundw
                case rel => exact ⟨k + 1, k, p, by omega, rfl, rfl, by go_num, by omega, by omega, by
                  rw [HY.out (by show need ≤ wrkV (dat x.rs) r; rw [HQ.out.1]; exact g1) (by rw [HB.out]; exact .inl g2)]; show (_, pwr (dat x.rs) (wrkV (dat x.rs) r)) = _; rw [HQ.out.1, HQ.out.2], hbw.trans (b3.mono hbw.size)⟩
                case measure => simp [intOf]; omega
              · by_cases g3 : p < lv
                · go_wp2_with fail; ((with_reducible refine (HP.out _ b2).mono ?_); rintro e w3 ⟨rfl, hb3⟩)
                  have b3 := b2.trans (hb3.mono b2.size)
                  have r0 := (hb3.cell (p := ⟨wo.heap.size, 0, none⟩) zo2).trans q0
                  have r1 := (hb3.cell (p := ⟨wo.heap.size, 1, none⟩) zo2).trans q1
                  have r2 := (hb3.cell (p := ⟨wo.heap.size, 2, none⟩) zo2).trans q2
                  clear q0 q1 q2
                  go_wp2_with fail; ((with_reducible refine (HP.out _ b3).mono ?_); rintro e w4 ⟨rfl, hb4⟩)
                  have b4 := b3.trans (hb4.mono b3.size)
                  go_wp2
                  go_roundw
                  case rel => exact ⟨k + 1, k, p, by omega, rfl, rfl, by go_num, by omega, by omega, by
                    rw [HY.out (by show need ≤ wrkV (dat x.rs) r; rw [HQ.out.1]; exact g1) (by rw [HB.out]; show _ ∨ pwr (dat x.rs) (wrkV (dat x.rs) r) < lv; rw [HQ.out.1, HQ.out.2]; exact .inr g3)]; show (_, pwr (dat x.rs) (wrkV (dat x.rs) r)) = _; rw [HQ.out.1, HQ.out.2], hbw.trans (b4.mono hbw.size)⟩
                  case measure => simp [intOf]; omega
                · go_wp2_with fail; ((with_reducible refine (HP.out _ b2).mono ?_); rintro e w3 ⟨rfl, hb3⟩)
                  have b3 := b2.trans (hb3.mono b2.size)
                  go_wp2
                  go_roundw
                  case rel => exact ⟨k + 1, bv, lv, by omega, rfl, rfl, by go_num, by omega, by omega, by
                    rw [HN.out (by rw [HB.out]; show ¬ (_ ∧ (_ ∨ pwr (dat x.rs) (wrkV (dat x.rs) r) < lv)); rw [HQ.out.1, HQ.out.2]; rintro ⟨_, h | h⟩ <;> (try simp only [] at h) <;> omega)]; exact HB.out, hbw.trans (b3.mono hbw.size)⟩
                  case measure => simp [intOf]; omega
            · go_wp2
              go_roundw
              case rel => exact ⟨k + 1, bv, lv, by omega, rfl, rfl, by go_num, by omega, by omega, by
                rw [HN.out (by show ¬ (need ≤ wrkV (dat x.rs) r ∧ _); rw [HQ.out.1]; rintro ⟨h, _⟩; omega)]; exact HB.out, hbw.trans (b2.mono hbw.size)⟩
              case measure => simp [intOf]; omega
          · have e : k = n := by omega
            have HZ : Hid (bestR (fdat xs) r need = orNF bv (decide (0 ≤ bv))) := show _ = _ by rw [HV.out, HLn.out, ← e, HB.out]
            clear e
            go_wp2_with fail; ((with_reducible refine (orNotFound_any bv _ _).mono ?_); rintro e w' ⟨rfl, rfl⟩)
            go_wp2
            go_ret2
            exact ⟨ret_int2 (by rw [HZ.out]) (by rw [HZ.out]), hbw⟩
      · have HV := Lib.hid (bestR_3 k0 k1 k2)
        go_enter Try.func29, Try.ntmps29
        go_wp2_with fail; ((with_reducible refine HC.out.mono ?_); rintro e w1 ⟨rfl, hb1⟩)
        go_wp2_with fail; ((with_reducible refine (resistanceOk_any r _).mono ?_); rintro e w' ⟨rfl, rfl⟩)
        go_wp2_with fail; ((with_reducible refine (within_any need _ _ _).mono ?_); rintro e w' ⟨rfl, rfl⟩)
        rw [k2]
        go_wp2
        go_ret2
        exact ⟨ret_int2 (by rw [HV.out]) (by rw [HV.out]), hb1⟩
    · have HV := Lib.hid (bestR_2 (need := need) k0 k1)
      go_enter Try.func29, Try.ntmps29
      go_wp2_with fail; ((with_reducible refine HC.out.mono ?_); rintro e w1 ⟨rfl, hb1⟩)
      go_wp2_with fail; ((with_reducible refine (resistanceOk_any r _).mono ?_); rintro e w' ⟨rfl, rfl⟩)
      rw [k1]
      go_wp2
      go_ret2
      exact ⟨ret_int2 (by rw [HV.out]) (by rw [HV.out]), hb1⟩
  · have HV := Lib.hid (bestR_1 (r := r) (need := need) k0)
    rw [k0] at cc
    have HC := Lib.hid cc
    clear cc k0
    go_enter Try.func29, Try.ntmps29
    go_wp2_with fail; ((with_reducible refine HC.out.mono ?_); rintro e w1 ⟨rfl, hb1⟩)
    go_wp2
    go_ret2
    exact ⟨ret_int2 (by rw [HV.out]) (by rw [HV.out]), hb1⟩
end Go.Proofs.Ytapophggndlhaaa
