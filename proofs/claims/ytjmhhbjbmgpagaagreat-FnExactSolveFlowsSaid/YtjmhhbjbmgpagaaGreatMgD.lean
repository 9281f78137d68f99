/- Several texts in one: Mine Lev Flow FlwI Stl Loss Drt Warm FanP FanQ Prs. -/
import Derived.Test.YtjmhhbjbmgpagaaGreatMgC
import Derived.Test.YtjmhhbjbmgpagaaGreatMgB
import Derived.Test.YtjmhhbjbmgpagaaGreatMgA
import Derived.Deep.AppendLies
import Derived.Deep.RegionHeld3
/- Contracts of the test of a mine. -/
namespace Go.Proofs.YtjmhhbjbmgpagaaGreat
set_option linter.unusedVariables false
set_option linter.unusedSimpArgs false
open Go.RowKit
def sLt (a b : ByteArray) : Bool := Op.bytesLess a.toList b.toList
theorem leq_lt : ∀ a b : List UInt8, (Op.bytesLess b a || b == a) = !Op.bytesLess a b
  | [], [] => by simp [Op.bytesLess]
  | [], _ :: _ => by simp [Op.bytesLess]
  | _ :: _, [] => by simp [Op.bytesLess]
  | x :: a, y :: b => by
    have ih := leq_lt a b
    simp only [Op.bytesLess, List.cons_beq_cons]
    rcases Nat.lt_trichotomy x.toNat y.toNat with h | h | h
    · have h1 : x < y := h
      have h2 : ¬ y < x := fun h3 => by have : y.toNat < x.toNat := h3; omega
      have h3 : (y == x) = false := beq_eq_false_iff_ne.2 (fun e => by rw [e] at h; omega)
      simp [h1, h2, h3]
    · obtain rfl : x = y := UInt8.toNat_inj.1 h
      have h2 : ¬ x < x := fun h3 => by have : x.toNat < x.toNat := h3; omega
      simp only [h2, decide_false, BEq.rfl, Bool.true_and, Bool.false_or]
      exact ih
    · have h1 : y < x := h
      have h2 : ¬ x < y := fun h3 => by have : x.toNat < y.toNat := h3; omega
      have h3 : (x == y) = false := beq_eq_false_iff_ne.2 (fun e => by rw [e] at h; omega)
      simp [h1, h2, h3]
def idAt (xs : List Awy) (k : Nat) : ByteArray := (xs.getD k default).s
theorem idAt_eq {xs : List Awy} {k : Nat} {x : Awy} (h : xs[k]? = some x) : idAt xs k = x.s := by unfold idAt; rw [List.getD_eq_getElem?_getD, h]; rfl
def mnAt (J : Int) (xs : List Awy) (k : Nat) : Bool :=
  match xs[k]? with
  | some x => awyOk x && (inB x.a 0 (J - 1) && inB x.b 0 (J - 1)) && (decide (k = 0) || sLt (idAt xs (k - 1)) x.s)
  | none => false
theorem mn_eq {J : Int} {xs : List Awy} {k : Nat} {x : Awy} (h : xs[k]? = some x) : mnAt J xs k = (awyOk x && (inB x.a 0 (J - 1) && inB x.b 0 (J - 1)) && (decide (k = 0) || sLt (idAt xs (k - 1)) x.s)) := by unfold mnAt; rw [h]
theorem mn_o {J : Int} {xs : List Awy} {k : Nat} {x : Awy} (h : xs[k]? = some x) (h0 : awyOk x = false) : mnAt J xs k = false := by rw [mn_eq h, h0]; simp
theorem mn_a {J : Int} {xs : List Awy} {k : Nat} {x : Awy} (h : xs[k]? = some x) (h0 : (inB x.a 0 (J - 1) && inB x.b 0 (J - 1)) = false) : mnAt J xs k = false := by rw [mn_eq h, h0]; simp
theorem mn_p {J : Int} {xs : List Awy} {k j : Nat} {x y : Awy} (h : xs[k]? = some x) (hk : k = j + 1) (hy : xs[j]? = some y) (h0 : sLt y.s x.s = false) : mnAt J xs k = false := by
  rw [mn_eq h, show k - 1 = j by omega, idAt_eq hy, h0, decide_eq_false (show ¬ k = 0 by omega)]; simp
theorem mn_z {J : Int} {xs : List Awy} {k : Nat} {x : Awy} (h : xs[k]? = some x) (h0 : awyOk x = true) (h1 : (inB x.a 0 (J - 1) && inB x.b 0 (J - 1)) = true) (hk : k = 0) : mnAt J xs k = true := by rw [mn_eq h, h0, h1, decide_eq_true hk]; rfl
theorem mn_y {J : Int} {xs : List Awy} {k j : Nat} {x y : Awy} (h : xs[k]? = some x) (h0 : awyOk x = true) (h1 : (inB x.a 0 (J - 1) && inB x.b 0 (J - 1)) = true) (hk : k = j + 1) (hy : xs[j]? = some y) (h2 : sLt y.s x.s = true) : mnAt J xs k = true := by
  rw [mn_eq h, h0, h1, show k - 1 = j by omega, idAt_eq hy, h2]; simp
def mineOk (J : Int) (xs : List Awy) : Bool := inB J 1 16 && decide (xs.length ≤ 24) && allUpto xs.length (mnAt J xs)
theorem mineOk_j {J : Int} {xs : List Awy} (h : inB J 1 16 = false) : mineOk J xs = false := by unfold mineOk; rw [h]; rfl
theorem mineOk_l {J : Int} {xs : List Awy} (h : 24 < xs.length) : mineOk J xs = false := by unfold mineOk; rw [decide_eq_false (show ¬ xs.length ≤ 24 by omega)]; simp
theorem mineOk_k {J : Int} {xs : List Awy} {k : Nat} (hk : k < xs.length) (h : mnAt J xs k = false) : mineOk J xs = false := by unfold mineOk; rw [allUpto_f hk h, Bool.and_false]
theorem mineOk_y {J : Int} {xs : List Awy} (h : inB J 1 16 = true) (h1 : ∀ k, k < xs.length → mnAt J xs k = true) : mineOk J xs = decide (xs.length ≤ 24) := by unfold mineOk; rw [h, allUpto_t h1]; simp
theorem mineOk_t {J : Int} {xs : List Awy} (h : mineOk J xs = true) : (1 ≤ J ∧ J ≤ 16) ∧ xs.length ≤ 24 ∧ ∀ x ∈ xs, awyOk x = true ∧ (0 ≤ x.a ∧ x.a < J) ∧ (0 ≤ x.b ∧ x.b < J) := by
  unfold mineOk at h
  simp only [Bool.and_eq_true, decide_eq_true_eq] at h
  refine ⟨inB_t h.1.1, h.1.2, fun x hx => ?_⟩
  obtain ⟨k, hk⟩ := List.getElem?_of_mem hx
  have hkl : k < xs.length := by
    rcases Nat.lt_or_ge k xs.length with h1 | h1
    · exact h1
    · rw [List.getElem?_eq_none h1] at hk; cases hk
  have hm := allUpto_get h.2 hkl
  rw [mn_eq hk] at hm
  simp only [Bool.and_eq_true] at hm
  have h1 := inB_t hm.1.2.1
  have h2 := inB_t hm.1.2.2
  exact ⟨hm.1.1, by omega, by omega⟩
theorem upto_succ1 {f : Nat → Bool} {k : Nat} (h : ∀ j, j < k → f j = true) (h1 : f k = true) : ∀ j, j < k + 1 → f j = true := by
  intro j hj
  rcases Nat.lt_succ_iff_lt_or_eq.1 hj with h2 | rfl
  · exact h j h2
  · exact h1
theorem jun_q {J j : Int} {b : Bool} {p : Addr} {w : World} (k : inB j 0 (J - 1) = b) (hJ : -9223372036854775808 < J) (hJ2 : J ≤ 9223372036854775807) (h0 : w.cell? p = some (.int .i64 J)) :
    ∀ m, Calls Tryz.prog 53 #[.pointer (some p), .int .i64 j] (w.drewN m) fun e w'' => e = .returned (.bool b) ∧ ∃ q, w'' = w.drewN q :=
  fun m => (l04Junction_any J j p (w.drewN m) hJ hJ2 h0).mono fun _ _ ⟨he, hw⟩ => ⟨by rw [he, k], m, hw.symm⟩
theorem awy_q {x : Awy} {b : Bool} {p : Addr} {w : World} (k : awyOk x = b) (hs : x.s.size ≤ maxLen) (hc : Cells w p x.cells) :
    ∀ m, Calls Tryz.prog 52 #[.pointer (some p)] (w.drewN m) fun e w'' => e = .returned (.bool b) ∧ ∃ q, w'' = w.drewN q :=
  fun m => Calls.quiet_of ((l03Ok_any x p (w.drewN m) hs (hc.drewN m)).mono fun _ _ ⟨he, hw⟩ => ⟨by rw [he, k], hw⟩)
set_option maxHeartbeats 1600000 in
set_option maxRecDepth 100000 in
theorem l04Ok_any (J : Int) (A : Option Addr) (n c : Nat) (xs : List Awy) (p : Addr) (w : World) (hr : Reads w w.heap.size 7 A n (Awy.recs xs)) (hn : n ≤ 1048576) (hxs : ∀ x ∈ xs, x.s.size ≤ maxLen) (hcp : Cells w p [.int .i64 J, .slice A n c]) :
    Calls Tryz.prog 20 #[.pointer (some p)] w fun e w' => e = .returned (.bool (mineOk J xs)) ∧ Below w.heap.size w w' := by
  have HM := Lib.hid hxs
  have HLn := Lib.hid (recs_rlen Awy.clen (by omega) hr)
  have hp0 := hcp.z rfl
  have hp1 := hcp.at_ 0 rfl
  have hpl := block_lt_of_cell hp0
  clear hxs
  rcases Bool.eq_false_or_eq_true (inB J 1 16) with hJ | hJ
  · have HJ := Lib.hid hJ
    obtain ⟨j1, j2⟩ := inB_t hJ
    clear hcp
    go_enter Tryz.func20, Tryz.ntmps20
    go_wp2_with fail; ((with_reducible refine (l00In_any _ _ _ _).mono ?_); rintro e w' ⟨rfl, rfl⟩)
    rw [hJ]
    clear hJ
    go_wp2
    go_loopw [3] (fun i wr => ∃ (k : Nat), k ≤ n ∧ i = .int .i64 k ∧ Hid (∀ j, j < k → mnAt J xs j = true) ∧ Below w.heap.size w wr) (fun i _ => n - (intOf i).toNat)
    case atStart => exact ⟨0, by omega, rfl, fun j hj => absurd hj (Nat.not_lt_zero _), Below.refl _ _⟩
    case round =>
      obtain ⟨k, hk, rfl, HK, hbw⟩ := hrel
      have g0 : wr.cell? p = some (.int .i64 J) := (hbw.cell hpl).trans hp0
      have g1 : wr.cell? ⟨p.block, p.off + 1, none⟩ = some (.slice A n c) := (hbw.cell (p := ⟨p.block, p.off + 1, none⟩) hpl).trans hp1
      by_cases hlt : k < n
      · obtain ⟨ad, x, rfl, had, hx, hc⟩ := (hr.below hbw).rec_at Awy.clen (by omega) hlt
        have HX := Lib.hid hx
        have HCx := Lib.hid hc
        have hm := HM.out x (List.mem_of_getElem? hx)
        have hlx : Hid (k < xs.length) := show k < xs.length by rw [HLn.out]; exact hlt
        have hltI : (k : Int) < (n : Int) := by omega
        obtain ⟨a0, a1, a2, a3, a4, a5, a6⟩ := Awy.open_ hc
        clear hx hc
        rcases Bool.eq_false_or_eq_true (awyOk x) with k0 | k0
        · have HO := Lib.hid (awy_q k0 hm HCx.out)
          rcases Bool.eq_false_or_eq_true (inB x.a 0 (J - 1)) with k1 | k1
          · have H1 := Lib.hid (jun_q k1 (by omega) (by omega) g0)
            rcases Bool.eq_false_or_eq_true (inB x.b 0 (J - 1)) with k2 | k2
            · have H2 := Lib.hid (jun_q k2 (by omega) (by omega) g0)
              rcases Nat.eq_zero_or_pos k with h0 | hpos
              · have HY := Lib.hid (mn_z HX.out k0 (by rw [k1, k2]; rfl) h0)
                subst h0
                have hcz : Cells wr ad x.cells := HCx.out
                have HO := Lib.hid (awy_q k0 hm hcz)
                obtain ⟨b0, b1, b2, b3, b4, b5, b6⟩ := Awy.open_ hcz
                clear hcz
                go_wp2
                go_quiet ((first | (go_at_call 52; exact HO.out _) | (go_at_call_of 53 (Value.int .i64 x.a); exact H1.out _) | (go_at_call_of 53 (Value.int .i64 x.b); exact H2.out _)))
                go_wp2
                go_roundw
                case rel => exact ⟨1, by omega, by go_num, upto_succ1 HK.out HY.out, below_drewN hbw _⟩
                case measure => simp [intOf]; omega
              · obtain ⟨j, hj⟩ : ∃ j, Hid (k = j + 1) := ⟨k - 1, show k = k - 1 + 1 by omega⟩
                have hjn : j < n := by have := hj.out; omega
                have hwj : IntKind.i64.wrap ((k : Int) - 1) = (j : Int) := by have := hj.out; rw [IntWalk.i64_in _ (by omega)]; omega
                have hk0 : decide ((0 : Int) < (k : Int)) = true := decide_eq_true (by omega)
                have hjI : (j : Int) < (n : Int) := by omega
                obtain ⟨ad', y, e1, had', hy, hcy⟩ := (hr.below hbw).rec_at Awy.clen (by omega) hjn
                injection e1 with e1
                subst e1
                have HYy := Lib.hid hy
                have b0 := hcy.z rfl
                clear hy hcy
                cases hl : Op.bytesLess y.s.toList x.s.toList
                · have HY := Lib.hid (mn_p (J := J) HX.out hj.out HYy.out hl)
                  go_wp2
                  go_quiet ((first | (go_at_call 52; exact HO.out _) | (go_at_call_of 53 (Value.int .i64 x.a); exact H1.out _) | (go_at_call_of 53 (Value.int .i64 x.b); exact H2.out _)))
                  go_wp2
                  go_ret
                  exact ⟨ret_bool (mineOk_k hlx.out HY.out).symm, below_drewN hbw _⟩
                · have HY := Lib.hid (mn_y (J := J) HX.out k0 (by rw [k1, k2]; rfl) hj.out HYy.out hl)
                  go_wp2
                  go_quiet ((first | (go_at_call 52; exact HO.out _) | (go_at_call_of 53 (Value.int .i64 x.a); exact H1.out _) | (go_at_call_of 53 (Value.int .i64 x.b); exact H2.out _)))
                  go_wp2
                  go_roundw
                  case rel => exact ⟨k + 1, by omega, by go_num, upto_succ1 HK.out HY.out, below_drewN hbw _⟩
                  case measure => simp [intOf]; omega
            · have H2 := Lib.hid (jun_q k2 (by omega) (by omega) g0)
              have HY := Lib.hid (mn_a (J := J) HX.out (by rw [k1, k2]; rfl))
              go_wp2
              go_quiet ((first | (go_at_call 52; exact HO.out _) | (go_at_call_of 53 (Value.int .i64 x.a); exact H1.out _) | (go_at_call_of 53 (Value.int .i64 x.b); exact H2.out _)))
              go_wp2
              go_ret
              exact ⟨ret_bool (mineOk_k hlx.out HY.out).symm, below_drewN hbw _⟩
          · have H1 := Lib.hid (jun_q k1 (by omega) (by omega) g0)
            have HY := Lib.hid (mn_a (J := J) HX.out (by rw [k1]; rfl))
            go_wp2
            go_quiet ((first | (go_at_call 52; exact HO.out _) | (go_at_call_of 53 (Value.int .i64 x.a); exact H1.out _)))
            go_wp2
            go_ret
            exact ⟨ret_bool (mineOk_k hlx.out HY.out).symm, below_drewN hbw _⟩
        · have HO := Lib.hid (awy_q k0 hm HCx.out)
          have HY := Lib.hid (mn_o (J := J) HX.out k0)
          go_wp2
          go_quiet ((go_at_call 52; exact HO.out _))
          go_wp2
          go_ret
          exact ⟨ret_bool (mineOk_k hlx.out HY.out).symm, below_drewN hbw _⟩
      · have e : k = n := by omega
        have HV := Lib.hid (mineOk_y HJ.out (by rw [HLn.out, ← e]; exact HK.out))
        clear e
        go_wp2
        go_ret
        exact ⟨ret_bool (by rw [HV.out, HLn.out]; exact Bool.eq_iff_iff.2 (by simp only [decide_eq_true_eq]; omega)), hbw⟩
  · have HV := Lib.hid (mineOk_j (xs := xs) hJ)
    go_enter Tryz.func20, Tryz.ntmps20
    go_wp2_with fail; ((with_reducible refine (l00In_any _ _ _ _).mono ?_); rintro e w' ⟨rfl, rfl⟩)
    rw [hJ]
    go_wp2
    go_ret
    exact ⟨ret_bool HV.out.symm, Below.refl _ _⟩
theorem va_q {x : Awy} {b : Bool} (k : awyOk x = b) (hs : x.s.size ≤ maxLen) : ∀ W : World, Calls Tryz.prog 67 #[.agg #[.string x.s, .int .i64 x.a, .int .i64 x.b, .int .i64 x.l, .int .i64 x.c, .int .i64 x.f, .int .i64 x.h]] W fun e w' => e = .returned (.bool b) ∧ Below W.heap.size W w' :=
  fun W => k ▸ ValidAirway_any x W hs
theorem he_q {x : Awy} {J : Int} {A : Option Addr} {n c : Nat} {b : Bool} (k : (inB x.a 0 (J - 1) && inB x.b 0 (J - 1)) = b) (hJ : -9223372036854775808 < J) (hJ2 : J ≤ 9223372036854775807) : ∀ W : World, Calls Tryz.prog 68 #[.agg #[.int .i64 J, .slice A n c], .agg #[.string x.s, .int .i64 x.a, .int .i64 x.b, .int .i64 x.l, .int .i64 x.c, .int .i64 x.f, .int .i64 x.h]] W fun e w' => e = .returned (.bool b) ∧ Below W.heap.size W w' :=
  fun W => k ▸ hasEnds_any J A n c x W hJ hJ2
set_option maxHeartbeats 1600000 in
set_option maxRecDepth 100000 in
theorem implValidMine_any (J : Int) (A : Option Addr) (n c : Nat) (xs : List Awy) (w : World) (hr1 : Reads w w.heap.size 7 A n (Awy.recs xs)) (hn : n ≤ 1048576) (hxs : ∀ x ∈ xs, x.s.size ≤ maxLen) :
    Calls Tryz.prog 31 #[.agg #[.int .i64 J, .slice A n c]] w fun e w' => e = .returned (.bool (mineOk J xs)) ∧ Below w.heap.size w w' := by
  have HM := Lib.hid hxs
  have HLn := Lib.hid (recs_rlen Awy.clen (by omega) hr1)
  have hr : Reads (w.alloc (.cells #[.int .i64 J, .slice A n c] 33)) (w.heap.size + 1) 7 A n (Awy.recs xs) := (hr1.below ((Below.refl _ _).alloc (Nat.le_refl _) _)).more (by omega)
  clear hxs
  rcases Bool.eq_false_or_eq_true (inB J 1 16) with hJ | hJ
  · have HJ := Lib.hid hJ
    obtain ⟨j1, j2⟩ := inB_t hJ
    by_cases h24 : n ≤ 24
    · go_enter Tryz.func31, Tryz.ntmps31
      go_wp2_with fail; ((with_reducible refine (within_any _ _ _ _).mono ?_); rintro e w' ⟨rfl, rfl⟩)
      rw [hJ]
      clear hJ
      go_wp2
      go_loopw [18] (fun i wr => ∃ (k : Nat), k ≤ n ∧ i = .int .i64 k ∧ Hid (∀ j, j < k → mnAt J xs j = true) ∧ Below (w.heap.size + 1) (w.alloc (.cells #[.int .i64 J, .slice A n c] 33)) wr) (fun i _ => n - (intOf i).toNat)
      case atStart => exact ⟨0, by omega, rfl, fun j hj => absurd hj (Nat.not_lt_zero _), Below.refl _ _⟩
      case round =>
        obtain ⟨k, hk, rfl, HK, hbw⟩ := hrel
        obtain ⟨wo, rfl⟩ : ∃ wo : World, wo = wr := ⟨_, rfl⟩
        have zo : w.heap.size < wo.heap.size := by have h := hbw.size; simp at h; omega
        have Bw : Below w.heap.size w wo := ((Below.refl _ _).alloc (Nat.le_refl _) _).trans (hbw.mono (by omega))
        have g0 : wo.cell? ⟨w.heap.size, 0, none⟩ = some (.int .i64 J) := (hbw.cell (p := ⟨w.heap.size, 0, none⟩) (by show w.heap.size < _; omega)).trans (by go_simp)
        have g1 : wo.cell? ⟨w.heap.size, 1, none⟩ = some (.slice A n c) := (hbw.cell (p := ⟨w.heap.size, 1, none⟩) (by show w.heap.size < _; omega)).trans (by go_simp)
        by_cases hlt : k < n
        · obtain ⟨ad, x, rfl, had, hx, hc⟩ := (hr.below hbw).rec_at Awy.clen (by omega) hlt
          have HX := Lib.hid hx
          have hm := HM.out x (List.mem_of_getElem? hx)
          have hlx : Hid (k < xs.length) := show k < xs.length by rw [HLn.out]; exact hlt
          have hltI : (k : Int) < (n : Int) := by omega
          obtain ⟨a0, a1, a2, a3, a4, a5, a6⟩ := Awy.open_ hc
          have HCx := Lib.hid hc
          clear hx hc
          have f0 : (wo.alloc (.cells #[.string x.s, .int .i64 x.a, .int .i64 x.b, .int .i64 x.l, .int .i64 x.c, .int .i64 x.f, .int .i64 x.h] 78)).cell? ⟨wo.heap.size, 0, none⟩ = some (.string x.s) := ((Blk.new wo _ _).cell 0).trans rfl
          have f1 : (wo.alloc (.cells #[.string x.s, .int .i64 x.a, .int .i64 x.b, .int .i64 x.l, .int .i64 x.c, .int .i64 x.f, .int .i64 x.h] 78)).cell? ⟨wo.heap.size, 1, none⟩ = some (.int .i64 x.a) := ((Blk.new wo _ _).cell 1).trans rfl
          have f2 : (wo.alloc (.cells #[.string x.s, .int .i64 x.a, .int .i64 x.b, .int .i64 x.l, .int .i64 x.c, .int .i64 x.f, .int .i64 x.h] 78)).cell? ⟨wo.heap.size, 2, none⟩ = some (.int .i64 x.b) := ((Blk.new wo _ _).cell 2).trans rfl
          have f3 : (wo.alloc (.cells #[.string x.s, .int .i64 x.a, .int .i64 x.b, .int .i64 x.l, .int .i64 x.c, .int .i64 x.f, .int .i64 x.h] 78)).cell? ⟨wo.heap.size, 3, none⟩ = some (.int .i64 x.l) := ((Blk.new wo _ _).cell 3).trans rfl
          have f4 : (wo.alloc (.cells #[.string x.s, .int .i64 x.a, .int .i64 x.b, .int .i64 x.l, .int .i64 x.c, .int .i64 x.f, .int .i64 x.h] 78)).cell? ⟨wo.heap.size, 4, none⟩ = some (.int .i64 x.c) := ((Blk.new wo _ _).cell 4).trans rfl
          have f5 : (wo.alloc (.cells #[.string x.s, .int .i64 x.a, .int .i64 x.b, .int .i64 x.l, .int .i64 x.c, .int .i64 x.f, .int .i64 x.h] 78)).cell? ⟨wo.heap.size, 5, none⟩ = some (.int .i64 x.f) := ((Blk.new wo _ _).cell 5).trans rfl
          have f6 : (wo.alloc (.cells #[.string x.s, .int .i64 x.a, .int .i64 x.b, .int .i64 x.l, .int .i64 x.c, .int .i64 x.f, .int .i64 x.h] 78)).cell? ⟨wo.heap.size, 6, none⟩ = some (.int .i64 x.h) := ((Blk.new wo _ _).cell 6).trans rfl
          have f7 : (wo.alloc (.cells #[.string x.s, .int .i64 x.a, .int .i64 x.b, .int .i64 x.l, .int .i64 x.c, .int .i64 x.f, .int .i64 x.h] 78)).cell? ⟨w.heap.size, 0, none⟩ = some (.int .i64 J) := (World.cell?_alloc_lt _ _ _ (block_lt_of_cell g0)).trans g0
          have f8 : (wo.alloc (.cells #[.string x.s, .int .i64 x.a, .int .i64 x.b, .int .i64 x.l, .int .i64 x.c, .int .i64 x.f, .int .i64 x.h] 78)).cell? ⟨w.heap.size, 1, none⟩ = some (.slice (some ad) n c) := (World.cell?_alloc_lt _ _ _ (block_lt_of_cell g1)).trans g1
          rcases Bool.eq_false_or_eq_true (awyOk x) with k0 | k0
          · have HA := Lib.hid (va_q k0 hm)
            rcases Bool.eq_false_or_eq_true (inB x.a 0 (J - 1) && inB x.b 0 (J - 1)) with k1 | k1
            · have HE := Lib.hid (he_q (A := some ad) (n := n) (c := c) k1 (by omega) (by omega))
              rcases Nat.eq_zero_or_pos k with h0 | hpos
              · have HY := Lib.hid (mn_z HX.out k0 k1 h0)
                subst h0
                have hcz : Cells wo ad x.cells := HCx.out
                obtain ⟨b0, b1, b2, b3, b4, b5, b6⟩ := Awy.open_ hcz
                clear hcz k1
                go_wp2
                have m0 := nb_cell f0 (block_lt_of_cell f0)
                have m1 := nb_cell f1 (block_lt_of_cell f1)
                have m2 := nb_cell f2 (block_lt_of_cell f2)
                have m3 := nb_cell f3 (block_lt_of_cell f3)
                have m4 := nb_cell f4 (block_lt_of_cell f4)
                have m5 := nb_cell f5 (block_lt_of_cell f5)
                have m6 := nb_cell f6 (block_lt_of_cell f6)
                have m7 := nb_cell f7 (block_lt_of_cell f7)
                have m8 := nb_cell f8 (block_lt_of_cell f8)
                refine wp_region_nb (by kernel_rfl) (by kernel_rfl) ?_
                repeat (go_big_quiet_step ((first | (go_at_call 67; exact nb_call (HA.out _)) | (go_at_call 68; exact nb_call (HE.out _)))))
                refine wpQuiet_nil ?_
                intro w3 hw3
                have hb3 := nb_out hw3
                clear hw3
                clear m0 m1 m2 m3 m4 m5 m6 m7 m8
                have B3 : Below (w.heap.size + 1) (w.alloc (.cells #[.int .i64 J, .slice (some ad) n c] 33)) w3 := (hbw.alloc (by omega) (.cells #[.string x.s, .int .i64 x.a, .int .i64 x.b, .int .i64 x.l, .int .i64 x.c, .int .i64 x.f, .int .i64 x.h] 78)).trans (hb3.mono (by simp; omega))
                go_wp2
                go_roundw
                case rel => exact ⟨1, by omega, by go_num, upto_succ1 HK.out HY.out, B3⟩
                case measure => simp [intOf]; omega
              · obtain ⟨j, hj⟩ : ∃ j, Hid (k = j + 1) := ⟨k - 1, show k = k - 1 + 1 by omega⟩
                have hjn : j < n := by have := hj.out; omega
                have hwj : IntKind.i64.wrap ((k : Int) - 1) = (j : Int) := by have := hj.out; rw [IntWalk.i64_in _ (by omega)]; omega
                have hk0 : decide ((0 : Int) < (k : Int)) = true := decide_eq_true (by omega)
                have hjI : (j : Int) < (n : Int) := by omega
                obtain ⟨ad', y, e1, had', hy, hcy⟩ := (hr.below hbw).rec_at Awy.clen (by omega) hjn
                injection e1 with e1
                subst e1
                have HYy := Lib.hid hy
                have b0 := hcy.z rfl
                have f9 : (wo.alloc (.cells #[.string x.s, .int .i64 x.a, .int .i64 x.b, .int .i64 x.l, .int .i64 x.c, .int .i64 x.f, .int .i64 x.h] 78)).cell? (ad.add (j * 7)) = some (.string y.s) := (World.cell?_alloc_lt _ _ _ (block_lt_of_cell b0)).trans b0
                clear hy hcy
                have hle := leq_lt y.s.toList x.s.toList
                cases hl : Op.bytesLess y.s.toList x.s.toList <;> rw [hl] at hle <;> cases q1 : Op.bytesLess x.s.toList y.s.toList <;> cases q2 : (x.s.toList == y.s.toList) <;> rw [q1, q2] at hle <;> first | (exact absurd hle (by decide)) | skip
                · have HY := Lib.hid (mn_p (J := J) HX.out hj.out HYy.out hl)
                  clear hle hl k1
                  go_wp2
                  have m0 := nb_cell f0 (block_lt_of_cell f0)
                  have m1 := nb_cell f1 (block_lt_of_cell f1)
                  have m2 := nb_cell f2 (block_lt_of_cell f2)
                  have m3 := nb_cell f3 (block_lt_of_cell f3)
                  have m4 := nb_cell f4 (block_lt_of_cell f4)
                  have m5 := nb_cell f5 (block_lt_of_cell f5)
                  have m6 := nb_cell f6 (block_lt_of_cell f6)
                  have m7 := nb_cell f7 (block_lt_of_cell f7)
                  have m8 := nb_cell f8 (block_lt_of_cell f8)
                  have m9 := nb_cell f9 (block_lt_of_cell f9)
                  refine wp_region_nb (by kernel_rfl) (by kernel_rfl) ?_
                  repeat (go_big_quiet_step ((first | (go_at_call 67; exact nb_call (HA.out _)) | (go_at_call 68; exact nb_call (HE.out _)))))
                  refine wpQuiet_nil ?_
                  intro w3 hw3
                  have hb3 := nb_out hw3
                  clear hw3
                  clear m0 m1 m2 m3 m4 m5 m6 m7 m8 m9
                  have B3 : Below (w.heap.size + 1) (w.alloc (.cells #[.int .i64 J, .slice (some ad) n c] 33)) w3 := (hbw.alloc (by omega) (.cells #[.string x.s, .int .i64 x.a, .int .i64 x.b, .int .i64 x.l, .int .i64 x.c, .int .i64 x.f, .int .i64 x.h] 78)).trans (hb3.mono (by simp; omega))
                  go_wp2
                  go_ret
                  exact ⟨ret_bool (mineOk_k hlx.out HY.out).symm, ((Below.refl _ _).alloc (Nat.le_refl _) _).trans (B3.mono (by omega))⟩
                · have HY := Lib.hid (mn_p (J := J) HX.out hj.out HYy.out hl)
                  clear hle hl k1
                  go_wp2
                  have m0 := nb_cell f0 (block_lt_of_cell f0)
                  have m1 := nb_cell f1 (block_lt_of_cell f1)
                  have m2 := nb_cell f2 (block_lt_of_cell f2)
                  have m3 := nb_cell f3 (block_lt_of_cell f3)
                  have m4 := nb_cell f4 (block_lt_of_cell f4)
                  have m5 := nb_cell f5 (block_lt_of_cell f5)
                  have m6 := nb_cell f6 (block_lt_of_cell f6)
                  have m7 := nb_cell f7 (block_lt_of_cell f7)
                  have m8 := nb_cell f8 (block_lt_of_cell f8)
                  have m9 := nb_cell f9 (block_lt_of_cell f9)
                  refine wp_region_nb (by kernel_rfl) (by kernel_rfl) ?_
                  repeat (go_big_quiet_step ((first | (go_at_call 67; exact nb_call (HA.out _)) | (go_at_call 68; exact nb_call (HE.out _)))))
                  refine wpQuiet_nil ?_
                  intro w3 hw3
                  have hb3 := nb_out hw3
                  clear hw3
                  clear m0 m1 m2 m3 m4 m5 m6 m7 m8 m9
                  have B3 : Below (w.heap.size + 1) (w.alloc (.cells #[.int .i64 J, .slice (some ad) n c] 33)) w3 := (hbw.alloc (by omega) (.cells #[.string x.s, .int .i64 x.a, .int .i64 x.b, .int .i64 x.l, .int .i64 x.c, .int .i64 x.f, .int .i64 x.h] 78)).trans (hb3.mono (by simp; omega))
                  go_wp2
                  go_ret
                  exact ⟨ret_bool (mineOk_k hlx.out HY.out).symm, ((Below.refl _ _).alloc (Nat.le_refl _) _).trans (B3.mono (by omega))⟩
                · have HY := Lib.hid (mn_p (J := J) HX.out hj.out HYy.out hl)
                  clear hle hl k1
                  go_wp2
                  have m0 := nb_cell f0 (block_lt_of_cell f0)
                  have m1 := nb_cell f1 (block_lt_of_cell f1)
                  have m2 := nb_cell f2 (block_lt_of_cell f2)
                  have m3 := nb_cell f3 (block_lt_of_cell f3)
                  have m4 := nb_cell f4 (block_lt_of_cell f4)
                  have m5 := nb_cell f5 (block_lt_of_cell f5)
                  have m6 := nb_cell f6 (block_lt_of_cell f6)
                  have m7 := nb_cell f7 (block_lt_of_cell f7)
                  have m8 := nb_cell f8 (block_lt_of_cell f8)
                  have m9 := nb_cell f9 (block_lt_of_cell f9)
                  refine wp_region_nb (by kernel_rfl) (by kernel_rfl) ?_
                  repeat (go_big_quiet_step ((first | (go_at_call 67; exact nb_call (HA.out _)) | (go_at_call 68; exact nb_call (HE.out _)))))
                  refine wpQuiet_nil ?_
                  intro w3 hw3
                  have hb3 := nb_out hw3
                  clear hw3
                  clear m0 m1 m2 m3 m4 m5 m6 m7 m8 m9
                  have B3 : Below (w.heap.size + 1) (w.alloc (.cells #[.int .i64 J, .slice (some ad) n c] 33)) w3 := (hbw.alloc (by omega) (.cells #[.string x.s, .int .i64 x.a, .int .i64 x.b, .int .i64 x.l, .int .i64 x.c, .int .i64 x.f, .int .i64 x.h] 78)).trans (hb3.mono (by simp; omega))
                  go_wp2
                  go_ret
                  exact ⟨ret_bool (mineOk_k hlx.out HY.out).symm, ((Below.refl _ _).alloc (Nat.le_refl _) _).trans (B3.mono (by omega))⟩
                · have HY := Lib.hid (mn_y (J := J) HX.out k0 k1 hj.out HYy.out hl)
                  clear hle hl k1
                  go_wp2
                  have m0 := nb_cell f0 (block_lt_of_cell f0)
                  have m1 := nb_cell f1 (block_lt_of_cell f1)
                  have m2 := nb_cell f2 (block_lt_of_cell f2)
                  have m3 := nb_cell f3 (block_lt_of_cell f3)
                  have m4 := nb_cell f4 (block_lt_of_cell f4)
                  have m5 := nb_cell f5 (block_lt_of_cell f5)
                  have m6 := nb_cell f6 (block_lt_of_cell f6)
                  have m7 := nb_cell f7 (block_lt_of_cell f7)
                  have m8 := nb_cell f8 (block_lt_of_cell f8)
                  have m9 := nb_cell f9 (block_lt_of_cell f9)
                  refine wp_region_nb (by kernel_rfl) (by kernel_rfl) ?_
                  repeat (go_big_quiet_step ((first | (go_at_call 67; exact nb_call (HA.out _)) | (go_at_call 68; exact nb_call (HE.out _)))))
                  refine wpQuiet_nil ?_
                  intro w3 hw3
                  have hb3 := nb_out hw3
                  clear hw3
                  clear m0 m1 m2 m3 m4 m5 m6 m7 m8 m9
                  have B3 : Below (w.heap.size + 1) (w.alloc (.cells #[.int .i64 J, .slice (some ad) n c] 33)) w3 := (hbw.alloc (by omega) (.cells #[.string x.s, .int .i64 x.a, .int .i64 x.b, .int .i64 x.l, .int .i64 x.c, .int .i64 x.f, .int .i64 x.h] 78)).trans (hb3.mono (by simp; omega))
                  go_wp2
                  go_roundw
                  case rel => exact ⟨k + 1, by omega, by go_num, upto_succ1 HK.out HY.out, B3⟩
                  case measure => simp [intOf]; omega
            · have HE := Lib.hid (he_q (A := some ad) (n := n) (c := c) k1 (by omega) (by omega))
              have HY := Lib.hid (mn_a (J := J) HX.out k1)
              clear k1
              go_wp2
              have m0 := nb_cell f0 (block_lt_of_cell f0)
              have m1 := nb_cell f1 (block_lt_of_cell f1)
              have m2 := nb_cell f2 (block_lt_of_cell f2)
              have m3 := nb_cell f3 (block_lt_of_cell f3)
              have m4 := nb_cell f4 (block_lt_of_cell f4)
              have m5 := nb_cell f5 (block_lt_of_cell f5)
              have m6 := nb_cell f6 (block_lt_of_cell f6)
              have m7 := nb_cell f7 (block_lt_of_cell f7)
              have m8 := nb_cell f8 (block_lt_of_cell f8)
              refine wp_region_nb (by kernel_rfl) (by kernel_rfl) ?_
              repeat (go_big_quiet_step ((first | (go_at_call 67; exact nb_call (HA.out _)) | (go_at_call 68; exact nb_call (HE.out _)))))
              refine wpQuiet_nil ?_
              intro w3 hw3
              have hb3 := nb_out hw3
              clear hw3
              clear m0 m1 m2 m3 m4 m5 m6 m7 m8
              have B3 : Below (w.heap.size + 1) (w.alloc (.cells #[.int .i64 J, .slice (some ad) n c] 33)) w3 := (hbw.alloc (by omega) (.cells #[.string x.s, .int .i64 x.a, .int .i64 x.b, .int .i64 x.l, .int .i64 x.c, .int .i64 x.f, .int .i64 x.h] 78)).trans (hb3.mono (by simp; omega))
              go_wp2
              go_ret
              exact ⟨ret_bool (mineOk_k hlx.out HY.out).symm, ((Below.refl _ _).alloc (Nat.le_refl _) _).trans (B3.mono (by omega))⟩
          · have HA := Lib.hid (va_q k0 hm)
            have HY := Lib.hid (mn_o (J := J) HX.out k0)
            go_wp2
            have m0 := nb_cell f0 (block_lt_of_cell f0)
            have m1 := nb_cell f1 (block_lt_of_cell f1)
            have m2 := nb_cell f2 (block_lt_of_cell f2)
            have m3 := nb_cell f3 (block_lt_of_cell f3)
            have m4 := nb_cell f4 (block_lt_of_cell f4)
            have m5 := nb_cell f5 (block_lt_of_cell f5)
            have m6 := nb_cell f6 (block_lt_of_cell f6)
            have m7 := nb_cell f7 (block_lt_of_cell f7)
            have m8 := nb_cell f8 (block_lt_of_cell f8)
            refine wp_region_nb (by kernel_rfl) (by kernel_rfl) ?_
            repeat (go_big_quiet_step ((((go_at_call 67; exact nb_call (HA.out _))))))
            refine wpQuiet_nil ?_
            intro w3 hw3
            have hb3 := nb_out hw3
            clear hw3
            clear m0 m1 m2 m3 m4 m5 m6 m7 m8
            have B3 : Below (w.heap.size + 1) (w.alloc (.cells #[.int .i64 J, .slice (some ad) n c] 33)) w3 := (hbw.alloc (by omega) (.cells #[.string x.s, .int .i64 x.a, .int .i64 x.b, .int .i64 x.l, .int .i64 x.c, .int .i64 x.f, .int .i64 x.h] 78)).trans (hb3.mono (by simp; omega))
            go_wp2
            go_ret
            exact ⟨ret_bool (mineOk_k hlx.out HY.out).symm, ((Below.refl _ _).alloc (Nat.le_refl _) _).trans (B3.mono (by omega))⟩
        · have e : k = n := by omega
          have HV : Hid (mineOk J xs = true) := show _ = _ by rw [mineOk_y HJ.out (by rw [HLn.out, ← e]; exact HK.out), HLn.out]; exact decide_eq_true h24
          clear e
          go_wp2
          go_ret
          exact ⟨ret_bool HV.out.symm, Bw⟩
    · have HV := Lib.hid (mineOk_l (J := J) (xs := xs) (by rw [HLn.out]; omega))
      go_enter Tryz.func31, Tryz.ntmps31
      go_wp2_with fail; ((with_reducible refine (within_any _ _ _ _).mono ?_); rintro e w' ⟨rfl, rfl⟩)
      rw [hJ]
      go_wp2
      go_ret
      exact ⟨ret_bool HV.out.symm, by (repeat (first | exact Below.refl _ _ | assumption | (refine Below.alloc ?_ (by first | exact Nat.le_refl _ | (simp; done) | (simp; omega)) _) | (refine below_drewN ?_ _) | (refine Below.trans ?_ (Below.mono (by assumption) (by first | exact Nat.le_refl _ | (simp; done) | (simp; omega) | omega)))))⟩
  · have HV := Lib.hid (mineOk_j (xs := xs) hJ)
    go_enter Tryz.func31, Tryz.ntmps31
    go_wp2_with fail; ((with_reducible refine (within_any _ _ _ _).mono ?_); rintro e w' ⟨rfl, rfl⟩)
    rw [hJ]
    go_wp2
    go_ret
    exact ⟨ret_bool HV.out.symm, by (repeat (first | exact Below.refl _ _ | assumption | (refine Below.alloc ?_ (by first | exact Nat.le_refl _ | (simp; done) | (simp; omega)) _) | (refine below_drewN ?_ _) | (refine Below.trans ?_ (Below.mono (by assumption) (by first | exact Nat.le_refl _ | (simp; done) | (simp; omega) | omega)))))⟩
end Go.Proofs.YtjmhhbjbmgpagaaGreat

/- Contracts of the lists with one number for each junction or each airway. -/
namespace Go.Proofs.YtjmhhbjbmgpagaaGreat
set_option linter.unusedVariables false
set_option linter.unusedSimpArgs false
open Go.RowKit
def lstOk (N l h : Int) (xs : List Int) : Bool := allIn l h xs && ((xs.length : Int) == N)
theorem lstOk_t {N l h : Int} {xs : List Int} (e : lstOk N l h xs = true) : (xs.length : Int) = N ∧ ∀ x ∈ xs, l ≤ x ∧ x ≤ h := by
  unfold lstOk at e
  rw [Bool.and_eq_true, beq_iff_eq] at e
  exact ⟨e.2, fun x hx => allIn_mem e.1 hx⟩
theorem lst_at {N l h : Int} {xs : List Int} (e : lstOk N l h xs = true) {k : Nat} (hk : (k : Int) < N) : ∃ b, xs[k]? = some b ∧ l ≤ b ∧ b ≤ h := by
  obtain ⟨h1, h2⟩ := lstOk_t e
  have hl : k < xs.length := by omega
  exact ⟨xs[k], List.getElem?_eq_getElem hl, h2 _ (List.getElem_mem hl)⟩
/-- A number of a list, found behind its address. -/
theorem Reads.int_at {w : World} {B n : Nat} {A : Option Addr} {xs : List Int} (hr : Reads w B 1 A n (ints xs)) {k : Nat} {b : Int} (hb : xs[k]? = some b) : ∃ ad, A = some ad ∧ ad.block < B ∧ k < n ∧ w.cell? (ad.add k) = some (.int .i64 b) := by
  have hl := ints_len hr
  have hk : k < xs.length := by
    rcases Nat.lt_or_ge k xs.length with h1 | h1
    · exact h1
    · rw [List.getElem?_eq_none h1] at hb; cases hb
  obtain ⟨ad, u, e, had, hx, hc⟩ := hr.at_ (k := k) (by omega)
  obtain ⟨b', hb', rfl⟩ := ints_at hx
  rw [hb] at hb'
  injection hb' with hb'
  subst hb'
  exact ⟨ad, e, had, by omega, hc⟩
set_option maxHeartbeats 800000 in
theorem l07Flows_any (m : Nat) (M : Option Addr) (d : Nat) (p : Addr) (A : Option Addr) (n c : Nat) (xs : List Int) (w : World) (hr : Reads w w.heap.size 1 A n (ints xs)) (hn : n ≤ 1048576) (h0 : w.cell? ⟨p.block, p.off + 1, none⟩ = some (.slice M m d)) :
    Calls Tryz.prog 26 #[.pointer (some p), .slice A n c] w fun e w' => e = .returned (.bool (lstOk (m : Int) (-100000) 100000 xs)) ∧ w = w' := by
  have HL := Lib.hid (ints_len hr)
  rcases Bool.eq_false_or_eq_true ((n : Int) == (m : Int)) with hnj | hnj
  all_goals
    have HN := Lib.hid hnj
    go_enter Tryz.func26, Tryz.ntmps26
    go_wp2
    go_loop [5] (fun i => ∃ k : Nat, k ≤ n ∧ i = .int .i64 k ∧ Hid ((xs.take k).all (fun x => inB x (-100000) 100000) = true)) (fun i => n - (intOf i).toNat)
    case atStart => exact ⟨0, by omega, rfl, rfl⟩
    case round =>
      obtain ⟨k, hk, rfl, HK⟩ := hrel
      by_cases hlt : k < n
      · obtain ⟨ad, u, rfl, had, hx, hc⟩ := hr.at_ hlt
        obtain ⟨b, hb, rfl⟩ := ints_at hx
        have HX := Lib.hid hb
        clear hb hx
        cases hp : inB b (-100000) 100000
        · have HP : Hid (inB b (-100000) 100000 = false) := hp
          go_wp2_with (go_at_call 56; refine ((show Calls Tryz.prog _ _ _ (fun e w' => e = .returned (.bool (inB _ (-100000) 100000)) ∧ _ = w') from l03Flow_any _ _)).mono ?_; rintro e w' ⟨rfl, rfl⟩)
          go_ret
          exact ⟨ret_bool (by unfold lstOk allIn; rw [all_false (p := fun x => inB x (-100000) 100000) HX.out HP.out, Bool.false_and]), rfl⟩
        · have HP : Hid (inB b (-100000) 100000 = true) := hp
          go_wp2_with (go_at_call 56; refine ((show Calls Tryz.prog _ _ _ (fun e w' => e = .returned (.bool (inB _ (-100000) 100000)) ∧ _ = w') from l03Flow_any _ _)).mono ?_; rintro e w' ⟨rfl, rfl⟩)
          go_round
          case rel => exact ⟨k + 1, by omega, by go_num, all_take HX.out HK.out HP.out⟩
          case measure => simp [intOf]; omega
      · have e : k = n := by omega
        subst e
        have HA : Hid (allIn (-100000) 100000 xs = true) := all_whole HL.out HK.out
        go_wp2
        go_ret
        exact ⟨ret_bool (by unfold lstOk; rw [HA.out, HL.out, HN.out]; first | rfl | simp_all), rfl⟩
theorem hasList_any (J : Int) (B : Option Addr) (m d : Nat) (A : Option Addr) (n c : Nat) (l h : Int) (xs : List Int) (w : World) (hr : Reads w w.heap.size 1 A n (ints xs)) (hn : n ≤ 1048576) :
    Calls Tryz.prog 70 #[.agg #[.int .i64 J, .slice B m d], .slice A n c, .int .i64 l, .int .i64 h] w fun e w' => e = .returned (.bool (lstOk m l h xs)) ∧ Below w.heap.size w w' := by
  have HL := Lib.hid (ints_len hr)
  have hb : Below w.heap.size w (w.alloc (.cells #[.int .i64 J, .slice B m d] 33)) := (Below.refl _ _).alloc (Nat.le_refl _) _
  have cc := allWithin_any A n c xs l h _ ((hr.below hb).more hb.size) (by omega)
  clear hb
  rcases Bool.eq_false_or_eq_true ((n : Int) == (m : Int)) with hnj | hnj
  all_goals
    have HN := Lib.hid hnj
    go_enter Tryz.func70, Tryz.ntmps70
    go_wp2_with fail; try ((with_reducible refine (cc).mono ?_); rintro e w1 ⟨rfl, hb1⟩; go_wp2)
    go_ret
    refine ⟨ret_bool (by unfold lstOk; rw [HL.out, HN.out]; simp), ?_⟩
    first
    | exact (show Below w.heap.size w _ by (repeat (first | exact Below.refl _ _ | assumption | (refine Below.alloc ?_ (by first | exact Nat.le_refl _ | (simp; done) | (simp; omega)) _) | (refine below_drewN ?_ _) | (refine Below.trans ?_ (Below.mono (by assumption) (by first | exact Nat.le_refl _ | (simp; done) | (simp; omega) | omega)))))).trans (hb1.mono (by simp))
    | (repeat (first | exact Below.refl _ _ | assumption | (refine Below.alloc ?_ (by first | exact Nat.le_refl _ | (simp; done) | (simp; omega)) _) | (refine below_drewN ?_ _) | (refine Below.trans ?_ (Below.mono (by assumption) (by first | exact Nat.le_refl _ | (simp; done) | (simp; omega) | omega)))))
theorem hasFlows_any (J : Int) (B : Option Addr) (m d : Nat) (A : Option Addr) (n c : Nat) (xs : List Int) (w : World) (hr : Reads w w.heap.size 1 A n (ints xs)) (hn : n ≤ 1048576) :
    Calls Tryz.prog 44 #[.agg #[.int .i64 J, .slice B m d], .slice A n c] w fun e w' => e = .returned (.bool (lstOk m (-100000) 100000 xs)) ∧ Below w.heap.size w w' := by
  have hb : Below w.heap.size w (w.alloc (.cells #[.int .i64 J, .slice B m d] 33)) := (Below.refl _ _).alloc (Nat.le_refl _) _
  have cc := hasList_any J B m d A n c (-100000) 100000 xs _ ((hr.below hb).more hb.size) hn
  clear hb
  go_enter Tryz.func44, Tryz.ntmps44
  go_wp2_with fail; ((with_reducible refine (cc).mono ?_); rintro e w1 ⟨rfl, hb1⟩)
  go_wp2
  go_ret
  exact ⟨rfl, (show Below w.heap.size w _ by (repeat (first | exact Below.refl _ _ | assumption | (refine Below.alloc ?_ (by first | exact Nat.le_refl _ | (simp; done) | (simp; omega)) _) | (refine below_drewN ?_ _) | (refine Below.trans ?_ (Below.mono (by assumption) (by first | exact Nat.le_refl _ | (simp; done) | (simp; omega) | omega)))))).trans (hb1.mono (by simp))⟩
end Go.Proofs.YtjmhhbjbmgpagaaGreat

/- Contracts of the sums of flows at a junction. -/
namespace Go.Proofs.YtjmhhbjbmgpagaaGreat
set_option linter.unusedVariables false
set_option linter.unusedSimpArgs false
open Go.RowKit
def exStep (j : Int) (x : Awy) (f : Int) : Int := if x.b == j then f else if x.a == j then -f else 0
def exTo (xs : List Awy) (fs : List Int) (j : Int) : Nat → Int
  | 0 => 0
  | k + 1 => exTo xs fs j k + exStep j (xs.getD k default) (fs.getD k 0)
theorem exTo_snoc {xs : List Awy} {fs : List Int} {j : Int} {k : Nat} {x : Awy} {f : Int} (hx : xs[k]? = some x) (hf : fs[k]? = some f) : exTo xs fs j (k + 1) = exTo xs fs j k + exStep j x f := by
  show _ + exStep j (xs.getD k default) (fs.getD k 0) = _
  rw [List.getD_eq_getElem?_getD, List.getD_eq_getElem?_getD, hx, hf]; rfl
theorem exTo_bnd {xs : List Awy} {fs : List Int} {j : Int} (h : ∀ f ∈ fs, -100000 ≤ f ∧ f ≤ 100000) : ∀ k : Nat, -(100000 * (k : Int)) ≤ exTo xs fs j k ∧ exTo xs fs j k ≤ 100000 * k
  | 0 => by simp [exTo]
  | k + 1 => by
    have ih := exTo_bnd (xs := xs) (j := j) h k
    have hg : -100000 ≤ fs.getD k 0 ∧ fs.getD k 0 ≤ 100000 := by
      rw [List.getD_eq_getElem?_getD]
      cases e : fs[k]? with
      | none => simp
      | some f => exact h f (List.mem_of_getElem? e)
    simp only [exTo, exStep]
    split
    · omega
    · split <;> omega
def balOk (J : Int) (xs : List Awy) (fs : List Int) : Bool := allUpto J.toNat (fun j => exTo xs fs j xs.length == 0)
def isBal (J : Int) (xs : List Awy) (fs : List Int) : Bool := mineOk J xs && lstOk xs.length (-100000) 100000 fs && balOk J xs fs
def imbR (J : Int) (xs : List Awy) (fs : List Int) (j : Int) : Int × Int :=
  if mineOk J xs = true then (if inB j 0 (J - 1) = true then (if lstOk xs.length (-100000) 100000 fs = true then (exTo xs fs j xs.length, 0) else (0, 7)) else (0, 2)) else (0, 1)
set_option maxHeartbeats 1600000 in
theorem l07Excess_any (J : Int) (M : Option Addr) (m d : Nat) (xs : List Awy) (A : Option Addr) (n c : Nat) (fs : List Int) (j : Int) (p : Addr) (w : World) (hm : Reads w w.heap.size 7 M m (Awy.recs xs)) (hr : Reads w w.heap.size 1 A n (ints fs))
    (hok : mineOk J xs = true) (hl : lstOk xs.length (-100000) 100000 fs = true) (hp1 : w.cell? ⟨p.block, p.off + 1, none⟩ = some (.slice M m d)) :
    Calls Tryz.prog 57 #[.pointer (some p), .slice A n c, .int .i64 j] w fun e w' => e = .returned (.int .i64 (exTo xs fs j xs.length)) ∧ w = w' := by
  have HO := Lib.hid (mineOk_t hok)
  have HF := Lib.hid (lstOk_t hl).2
  have HLL := Lib.hid hl
  have HLm := Lib.hid (recs_rlen Awy.clen (by omega) hm)
  have hm24 : m ≤ 24 := by have := HO.out.2.1; rw [HLm.out] at this; exact this
  clear hok hl
  go_enter Tryz.func57, Tryz.ntmps57
  go_wp2
  go_loop [7, 8] (fun s i => ∃ k : Nat, k ≤ m ∧ i = .int .i64 k ∧ s = .int .i64 (exTo xs fs j k)) (fun _ i => m - (intOf i).toNat)
  case atStart => exact ⟨0, by omega, rfl, rfl⟩
  case round =>
    obtain ⟨k, hk, rfl, rfl⟩ := hrel
    obtain ⟨s1, s2⟩ := exTo_bnd (xs := xs) (j := j) HF.out k
    by_cases hlt : k < m
    · obtain ⟨ad, x, rfl, had, hx, hc⟩ := hm.rec_at Awy.clen (by omega) hlt
      obtain ⟨a0, a1, a2, a3, a4, a5, a6⟩ := Awy.open_ hc
      have HNE := Lib.hid (HO.out.2.2 x (List.mem_of_getElem? hx))
      obtain ⟨f, hf, f1, f2⟩ := lst_at HLL.out (k := k) (by rw [HLm.out]; omega)
      obtain ⟨af, rfl, haf, hkn, hcf⟩ := hr.int_at hf
      have HS := Lib.hid (exTo_snoc (j := j) hx hf)
      have hltI : (k : Int) < (n : Int) := by omega
      clear hx hf hc
      rcases Bool.eq_false_or_eq_true (x.b == j) with hb | hb <;> rcases Bool.eq_false_or_eq_true (x.a == j) with ha | ha
      · exfalso
        have e1 := eq_of_beq hb
        have e2 := eq_of_beq ha
        exact (awyOk_t HNE.out.1).2.2.1 (e2.trans e1.symm)
      all_goals
        have HE : Hid (exTo xs fs j (k + 1) = exTo xs fs j k + exStep j x f) := HS.out
        have HB := Lib.hid hb
        have HA := Lib.hid ha
        go_wp2
        go_round
        case rel => exact ⟨k + 1, by omega, by go_num, by rw [HE.out]; unfold exStep; rw [HB.out, HA.out]; first | rfl | simp [Int.sub_eq_add_neg] | simp⟩
        case measure => simp [intOf]; omega
    · have e : k = m := by omega
      go_wp2
      go_ret
      exact ⟨ret_int (by first | rw [HLm.out] | rw [e, HLm.out]), rfl⟩
set_option maxHeartbeats 1600000 in
theorem l07Balanced_any (J : Int) (M : Option Addr) (m d : Nat) (xs : List Awy) (A : Option Addr) (n c : Nat) (fs : List Int) (p : Addr) (w : World) (hm : Reads w w.heap.size 7 M m (Awy.recs xs)) (hr : Reads w w.heap.size 1 A n (ints fs))
    (hok : mineOk J xs = true) (hl : lstOk xs.length (-100000) 100000 fs = true) (hp0 : w.cell? p = some (.int .i64 J)) (hp1 : w.cell? ⟨p.block, p.off + 1, none⟩ = some (.slice M m d)) :
    Calls Tryz.prog 27 #[.pointer (some p), .slice A n c] w fun e w' => e = .returned (.bool (balOk J xs fs)) ∧ w = w' := by
  have hJ := (mineOk_t hok).1
  obtain ⟨N, rfl⟩ : ∃ N : Nat, J = N := ⟨J.toNat, by omega⟩
  have HC : Hid (∀ j : Int, Calls Tryz.prog 57 #[.pointer (some p), .slice A n c, .int .i64 j] w fun e w' => e = .returned (.int .i64 (exTo xs fs j xs.length)) ∧ w = w') := fun j => l07Excess_any N M m d xs A n c fs j p w hm hr hok hl hp1
  have hN : N ≤ 16 := by omega
  clear hok hl hm hr hJ
  go_enter Tryz.func27, Tryz.ntmps27
  go_wp2
  go_loop [5] (fun i => ∃ k : Nat, k ≤ N ∧ i = .int .i64 k ∧ Hid (∀ j, j < k → (exTo xs fs (j : Nat) xs.length == 0) = true)) (fun i => N - (intOf i).toNat)
  case atStart => exact ⟨0, by omega, rfl, fun j hj => absurd hj (Nat.not_lt_zero _)⟩
  case round =>
    obtain ⟨k, hk, rfl, HK⟩ := hrel
    by_cases hlt : k < N
    · cases hz : (exTo xs fs (k : Int) xs.length == 0)
      · have HZ := Lib.hid hz
        have hz' : (exTo xs fs (k : Int) xs.length != 0) = true := by rw [bne, hz]; rfl
        go_wp2_with (go_at_call 57; refine (HC.out _).mono ?_; rintro e w' ⟨rfl, rfl⟩)
        go_ret
        exact ⟨ret_bool (by unfold balOk; rw [allUpto_f (k := k) (by omega) HZ.out]), rfl⟩
      · have HZ := Lib.hid hz
        have hz' : (exTo xs fs (k : Int) xs.length != 0) = false := by rw [bne, hz]; rfl
        go_wp2_with (go_at_call 57; refine (HC.out _).mono ?_; rintro e w' ⟨rfl, rfl⟩)
        go_round
        case rel => exact ⟨k + 1, by omega, by go_num, upto_succ1 (f := fun j => exTo xs fs (j : Nat) xs.length == 0) HK.out HZ.out⟩
        case measure => simp [intOf]; omega
    · have e : k = N := by omega
      have HV : Hid (balOk N xs fs = true) := allUpto_t (by intro j hj; exact HK.out j (by omega))
      clear e
      go_wp2
      go_ret
      exact ⟨ret_bool HV.out.symm, rfl⟩
end Go.Proofs.YtjmhhbjbmgpagaaGreat

/- Contracts of the sums of flows at a junction, the program's. -/
namespace Go.Proofs.YtjmhhbjbmgpagaaGreat
set_option linter.unusedVariables false
set_option linter.unusedSimpArgs false
open Go.RowKit
set_option maxHeartbeats 1600000 in
set_option maxRecDepth 100000 in
theorem imbalance_any (J : Int) (M : Option Addr) (m d : Nat) (xs : List Awy) (A : Option Addr) (n c : Nat) (fs : List Int) (j : Int) (w : World) (hm1 : Reads w w.heap.size 7 M m (Awy.recs xs)) (hr1 : Reads w w.heap.size 1 A n (ints fs))
    (hok : mineOk J xs = true) (hl : lstOk xs.length (-100000) 100000 fs = true) :
    Calls Tryz.prog 74 #[.agg #[.int .i64 J, .slice M m d], .slice A n c, .int .i64 j] w fun e w' => e = .returned (.int .i64 (exTo xs fs j xs.length)) ∧ Below w.heap.size w w' := by
  have HO := Lib.hid (mineOk_t hok)
  have HF := Lib.hid (lstOk_t hl).2
  have HLL := Lib.hid hl
  have HLm := Lib.hid (recs_rlen Awy.clen (by omega) hm1)
  have hm24 : m ≤ 24 := by have := HO.out.2.1; rw [HLm.out] at this; exact this
  have hb0 : Below w.heap.size w (w.alloc (.cells #[.int .i64 J, .slice M m d] 33)) := (Below.refl _ _).alloc (Nat.le_refl _) _
  have hm : Reads (w.alloc (.cells #[.int .i64 J, .slice M m d] 33)) (w.heap.size + 1) 7 M m (Awy.recs xs) := (hm1.below hb0).more (by omega)
  have hr : Reads (w.alloc (.cells #[.int .i64 J, .slice M m d] 33)) (w.heap.size + 1) 1 A n (ints fs) := (hr1.below hb0).more (by omega)
  clear hok hl hb0
  go_enter Tryz.func74, Tryz.ntmps74
  go_wp2
  go_loopw [7, 13] (fun s i wr => ∃ k : Nat, k ≤ m ∧ i = .int .i64 k ∧ s = .int .i64 (exTo xs fs j k) ∧ Below (w.heap.size + 1) (w.alloc (.cells #[.int .i64 J, .slice M m d] 33)) wr) (fun _ i _ => m - (intOf i).toNat)
  case atStart => exact ⟨0, by omega, rfl, rfl, Below.refl _ _⟩
  case round =>
    obtain ⟨k, hk, rfl, rfl, hbw⟩ := hrel
    obtain ⟨wo, rfl⟩ : ∃ wo : World, wo = wr := ⟨_, rfl⟩
    have zo : w.heap.size < wo.heap.size := by have h := hbw.size; simp at h; omega
    have Bw : Below w.heap.size w wo := ((Below.refl _ _).alloc (Nat.le_refl _) _).trans (hbw.mono (by omega))
    obtain ⟨s1, s2⟩ := exTo_bnd (xs := xs) (j := j) HF.out k
    by_cases hlt : k < m
    · obtain ⟨ad, x, rfl, had, hx, hc⟩ := (hm.below hbw).rec_at Awy.clen (by omega) hlt
      obtain ⟨a0, a1, a2, a3, a4, a5, a6⟩ := Awy.open_ hc
      have HNE := Lib.hid (HO.out.2.2 x (List.mem_of_getElem? hx))
      obtain ⟨f, hf, f1, f2⟩ := lst_at HLL.out (k := k) (by rw [HLm.out]; omega)
      obtain ⟨af, rfl, haf, hkn, hcf⟩ := (hr.below hbw).int_at hf
      have gf : (wo.alloc (.cells #[.string x.s, .int .i64 x.a, .int .i64 x.b, .int .i64 x.l, .int .i64 x.c, .int .i64 x.f, .int .i64 x.h] 78)).cell? (af.add k) = some (.int .i64 f) := (World.cell?_alloc_lt _ _ _ (block_lt_of_cell hcf)).trans hcf
      have HS := Lib.hid (exTo_snoc (j := j) hx hf)
      have hltI : (k : Int) < (n : Int) := by omega
      have Bn : Below (w.heap.size + 1) (w.alloc (.cells #[.int .i64 J, .slice (some ad) m d] 33)) (wo.alloc (.cells #[.string x.s, .int .i64 x.a, .int .i64 x.b, .int .i64 x.l, .int .i64 x.c, .int .i64 x.f, .int .i64 x.h] 78)) := hbw.alloc (by omega) _
      clear hx hf hc
      rcases Bool.eq_false_or_eq_true (j == x.b) with hb | hb <;> rcases Bool.eq_false_or_eq_true (j == x.a) with ha | ha
      · exfalso
        have e1 := eq_of_beq hb
        have e2 := eq_of_beq ha
        exact (awyOk_t HNE.out.1).2.2.1 (e2.symm.trans e1)
      all_goals
        have HE : Hid (exTo xs fs j (k + 1) = exTo xs fs j k + exStep j x f) := HS.out
        have HB : Hid ((x.b == j) = _) := BEq.comm.trans hb
        have HA : Hid ((x.a == j) = _) := BEq.comm.trans ha
        go_wp2
        go_roundw
        case rel => exact ⟨k + 1, by omega, by go_num, by rw [HE.out]; unfold exStep; rw [HB.out, HA.out]; first | rfl | simp [Int.sub_eq_add_neg] | simp, Bn⟩
        case measure => simp [intOf]; omega
    · have e : k = m := by omega
      go_wp2
      go_ret
      exact ⟨ret_int (by first | (rw [HLm.out]; done) | (rw [e, HLm.out]; done)), Bw⟩
set_option maxHeartbeats 1600000 in
set_option maxRecDepth 100000 in
theorem balanced_any (J : Int) (M : Option Addr) (m d : Nat) (xs : List Awy) (A : Option Addr) (n c : Nat) (fs : List Int) (w : World) (hm1 : Reads w w.heap.size 7 M m (Awy.recs xs)) (hr1 : Reads w w.heap.size 1 A n (ints fs))
    (hok : mineOk J xs = true) (hl : lstOk xs.length (-100000) 100000 fs = true) :
    Calls Tryz.prog 36 #[.agg #[.int .i64 J, .slice M m d], .slice A n c] w fun e w' => e = .returned (.bool (balOk J xs fs)) ∧ Below w.heap.size w w' := by
  have hJ := (mineOk_t hok).1
  obtain ⟨N, rfl⟩ : ∃ N : Nat, J = N := ⟨J.toNat, by omega⟩
  have HC : Hid (∀ (j : Int) (W : World), Below (w.heap.size + 1) (w.alloc (.cells #[.int .i64 N, .slice M m d] 33)) W → Calls Tryz.prog 74 #[.agg #[.int .i64 N, .slice M m d], .slice A n c, .int .i64 j] W fun e w' => e = .returned (.int .i64 (exTo xs fs j xs.length)) ∧ Below W.heap.size W w') := fun j W hW => by
    have B : Below w.heap.size w W := ((Below.refl _ _).alloc (Nat.le_refl _) _).trans (hW.mono (by omega))
    exact imbalance_any N M m d xs A n c fs j W ((hm1.below B).more B.size) ((hr1.below B).more B.size) hok hl
  have hN : N ≤ 16 := by omega
  clear hok hl hm1 hr1 hJ
  go_enter Tryz.func36, Tryz.ntmps36
  go_wp2
  go_loopw [8] (fun i wr => ∃ k : Nat, k ≤ N ∧ i = .int .i64 k ∧ Hid (∀ j, j < k → (exTo xs fs (j : Nat) xs.length == 0) = true) ∧ Below (w.heap.size + 1) (w.alloc (.cells #[.int .i64 N, .slice M m d] 33)) wr) (fun i _ => N - (intOf i).toNat)
  case atStart => exact ⟨0, by omega, rfl, fun j hj => absurd hj (Nat.not_lt_zero _), Below.refl _ _⟩
  case round =>
    obtain ⟨k, hk, rfl, HK, hbw⟩ := hrel
    obtain ⟨wo, rfl⟩ : ∃ wo : World, wo = wr := ⟨_, rfl⟩
    have zo : w.heap.size < wo.heap.size := by have h := hbw.size; simp at h; omega
    have Bw : Below w.heap.size w wo := ((Below.refl _ _).alloc (Nat.le_refl _) _).trans (hbw.mono (by omega))
    have g0 : wo.cell? ⟨w.heap.size, 0, none⟩ = some (.int .i64 N) := (hbw.cell (p := ⟨w.heap.size, 0, none⟩) (by show w.heap.size < _; omega)).trans (by go_simp)
    have g1 : wo.cell? ⟨w.heap.size, 1, none⟩ = some (.slice M m d) := (hbw.cell (p := ⟨w.heap.size, 1, none⟩) (by show w.heap.size < _; omega)).trans (by go_simp)
    by_cases hlt : k < N
    · have cc := HC.out k wo hbw
      cases hz : (exTo xs fs (k : Int) xs.length == 0)
      · have HZ := Lib.hid hz
        have hz' : (exTo xs fs (k : Int) xs.length != 0) = true := by rw [bne, hz]; rfl
        clear hz
        go_wp2_with fail; ((with_reducible refine (cc).mono ?_); rintro e w1 ⟨rfl, hb1⟩)
        go_wp2
        go_ret
        exact ⟨ret_bool (by unfold balOk; rw [allUpto_f (k := k) (by omega) HZ.out]), Bw.trans (hb1.mono (by omega))⟩
      · have HZ := Lib.hid hz
        have hz' : (exTo xs fs (k : Int) xs.length != 0) = false := by rw [bne, hz]; rfl
        clear hz
        go_wp2_with fail; ((with_reducible refine (cc).mono ?_); rintro e w1 ⟨rfl, hb1⟩)
        have Bn := hbw.trans (hb1.mono (by omega))
        go_wp2
        go_roundw
        case rel => exact ⟨k + 1, by omega, by go_num, upto_succ1 (f := fun j => exTo xs fs (j : Nat) xs.length == 0) HK.out HZ.out, Bn⟩
        case measure => simp [intOf]; omega
    · have e : k = N := by omega
      have HV : Hid (balOk N xs fs = true) := allUpto_t (by intro j hj; exact HK.out j (by omega))
      clear e
      go_wp2
      go_ret
      exact ⟨ret_bool HV.out.symm, Bw⟩
end Go.Proofs.YtjmhhbjbmgpagaaGreat

/- Contracts of StillAirways and of DepthsOf. -/
namespace Go.Proofs.YtjmhhbjbmgpagaaGreat
set_option linter.unusedVariables false
set_option linter.unusedSimpArgs false
open Go.RowKit
def stlTo (fs : List Int) (q : Int) : Nat → List Int
  | 0 => []
  | k + 1 => if absI (fs.getD k 0) < q then stlTo fs q k ++ [(k : Int)] else stlTo fs q k
theorem stlTo_y {fs : List Int} {q f : Int} {k : Nat} (h : fs[k]? = some f) (hp : absI f < q) : stlTo fs q (k + 1) = stlTo fs q k ++ [(k : Int)] := by
  have e : fs.getD k 0 = f := by rw [List.getD_eq_getElem?_getD, h]; rfl
  simp only [stlTo]; rw [e, if_pos hp]
theorem stlTo_n {fs : List Int} {q f : Int} {k : Nat} (h : fs[k]? = some f) (hp : ¬ absI f < q) : stlTo fs q (k + 1) = stlTo fs q k := by
  have e : fs.getD k 0 = f := by rw [List.getD_eq_getElem?_getD, h]; rfl
  simp only [stlTo]; rw [e, if_neg hp]
def stlR (J : Int) (xs : List Awy) (fs : List Int) (q : Int) : List Int × Int :=
  if mineOk J xs = true then (if inB q 0 100000 = true then (if lstOk xs.length (-100000) 100000 fs = true then (stlTo fs q fs.length, 0) else ([], 7)) else ([], 2)) else ([], 1)
theorem stlR_1 {J : Int} {xs : List Awy} {fs : List Int} {q : Int} (h : mineOk J xs = false) : stlR J xs fs q = ([], 1) := by unfold stlR; rw [h]; rfl
theorem stlR_2 {J : Int} {xs : List Awy} {fs : List Int} {q : Int} (h : mineOk J xs = true) (h1 : inB q 0 100000 = false) : stlR J xs fs q = ([], 2) := by unfold stlR; rw [h, h1]; rfl
theorem stlR_3 {J : Int} {xs : List Awy} {fs : List Int} {q : Int} (h : mineOk J xs = true) (h1 : inB q 0 100000 = true) (h2 : lstOk xs.length (-100000) 100000 fs = false) : stlR J xs fs q = ([], 7) := by unfold stlR; rw [h, h1, h2]; rfl
theorem stlR_4 {J : Int} {xs : List Awy} {fs : List Int} {q : Int} (h : mineOk J xs = true) (h1 : inB q 0 100000 = true) (h2 : lstOk xs.length (-100000) 100000 fs = true) : stlR J xs fs q = (stlTo fs q fs.length, 0) := by unfold stlR; rw [h, h1, h2]; rfl
def dpR (J : Int) (xs : List Awy) (ls : List Int) : List Int × Int :=
  if mineOk J xs = true then (if lstOk J (-3000) 3000 ls = true then (ls.map (fun l => maxL ls - l), 0) else ([], 7)) else ([], 1)
theorem dpR_1 {J : Int} {xs : List Awy} {ls : List Int} (h : mineOk J xs = false) : dpR J xs ls = ([], 1) := by unfold dpR; rw [h]; rfl
theorem dpR_2 {J : Int} {xs : List Awy} {ls : List Int} (h : mineOk J xs = true) (h1 : lstOk J (-3000) 3000 ls = false) : dpR J xs ls = ([], 7) := by unfold dpR; rw [h, h1]; rfl
theorem dpR_3 {J : Int} {xs : List Awy} {ls : List Int} (h : mineOk J xs = true) (h1 : lstOk J (-3000) 3000 ls = true) : dpR J xs ls = (ls.map (fun l => maxL ls - l), 0) := by unfold dpR; rw [h, h1]; rfl
theorem dp_snoc {ls : List Int} {t l : Int} {k : Nat} (h : ls[k]? = some l) : (ls.take (k + 1)).map (fun l => t - l) = (ls.take k).map (fun l => t - l) ++ [t - l] := by rw [take_snoc h]; simp
end Go.Proofs.YtjmhhbjbmgpagaaGreat

/- Contracts of LossPower. -/
namespace Go.Proofs.YtjmhhbjbmgpagaaGreat
set_option linter.unusedVariables false
set_option linter.unusedSimpArgs false
open Go.RowKit
theorem qS {P : Program} {f : FuncId} {args : Array Value} {v : Value} {w : World} {q : Nat} (h : ∀ W : World, Calls P f args W fun e w' => e = .returned v ∧ W = w') :
    ∀ nn, Calls P f args (w.drewN (q + nn)) fun e w'' => e = .returned v ∧ ∃ mm, w'' = w.drewN (q + mm) := fun nn => (h _).mono fun _ _ ⟨he, hw⟩ => ⟨he, nn, hw.symm⟩
def pw (r q : Int) : Int := dr (drop r (absI q) * absI q) 100
theorem pw_in {r q : Int} (hr : isRes r = true) (hq : isFlow q = true) : isFlow (absI q) = true ∧ (0 ≤ absI q ∧ absI q ≤ 100000) ∧ (-100000000000 ≤ drop r (absI q) * absI q ∧ drop r (absI q) * absI q ≤ 100000000000) ∧ -1000000000 ≤ pw r q ∧ pw r q ≤ 1000000000 := by
  obtain ⟨h1, h2⟩ := isFlow_t hq
  have h3 : 0 ≤ absI q ∧ absI q ≤ 100000 := by unfold absI; omega
  have h4 : isFlow (absI q) = true := by unfold isFlow inB; exact decide_eq_true (by omega)
  obtain ⟨h5, h6⟩ := drop_bnd hr h4
  have h7 : drop r (absI q) * absI q ≤ 1000000 * 100000 := Int.le_trans (Int.mul_le_mul_of_nonneg_right h6 h3.1) (Int.mul_le_mul_of_nonneg_left h3.2 (by omega))
  have h8 : -(1000000 * 100000) ≤ drop r (absI q) * absI q := by
    have := Int.mul_le_mul_of_nonneg_right h5 h3.1
    have h9 : -1000000 * absI q = -(1000000 * absI q) := by omega
    omega
  refine ⟨h4, h3, by omega, ?_⟩
  have := dr_scale (a := drop r (absI q) * absI q) (b := 100) (m := 1000000000) (by omega) (by omega) (by omega)
  exact this
def pwTo (rs fs : List Int) : Nat → Int
  | 0 => 0
  | k + 1 => pwTo rs fs k + pw (rs.getD k 0) (fs.getD k 0)
theorem pwTo_snoc {rs fs : List Int} {k : Nat} {r f : Int} (hr : rs[k]? = some r) (hf : fs[k]? = some f) : pwTo rs fs (k + 1) = pwTo rs fs k + pw r f := by
  simp only [pwTo]; rw [List.getD_eq_getElem?_getD, List.getD_eq_getElem?_getD, hr, hf]; rfl
theorem pwTo_bnd {rs fs : List Int} {N : Int} (h1 : lstOk N 1 1000000 rs = true) (h2 : lstOk N (-100000) 100000 fs = true) : ∀ k : Nat, (k : Int) ≤ N → -(1000000000 * (k : Int)) ≤ pwTo rs fs k ∧ pwTo rs fs k ≤ 1000000000 * k
  | 0, _ => by simp [pwTo]
  | k + 1, hk => by
    have ih := pwTo_bnd h1 h2 k (by omega)
    obtain ⟨r, hr, r1, r2⟩ := lst_at h1 (k := k) (by omega)
    obtain ⟨f, hf, f1, f2⟩ := lst_at h2 (k := k) (by omega)
    have h3 := (pw_in (r := r) (q := f) (by unfold isRes inB; exact decide_eq_true (by omega)) (by unfold isFlow inB; exact decide_eq_true (by omega))).2.2.2
    rw [pwTo_snoc hr hf]
    omega
def lossR (J : Int) (xs : List Awy) (rs fs : List Int) : Int × Int :=
  if mineOk J xs = true then (if (lstOk xs.length 1 1000000 rs && lstOk xs.length (-100000) 100000 fs) = true then (pwTo rs fs xs.length, 0) else (0, 7)) else (0, 1)
theorem lossR_1 {J : Int} {xs : List Awy} {rs fs : List Int} (h : mineOk J xs = false) : lossR J xs rs fs = (0, 1) := by unfold lossR; rw [h]; rfl
theorem lossR_2 {J : Int} {xs : List Awy} {rs fs : List Int} (h : mineOk J xs = true) (h1 : (lstOk xs.length 1 1000000 rs && lstOk xs.length (-100000) 100000 fs) = false) : lossR J xs rs fs = (0, 7) := by unfold lossR; rw [h, h1]; rfl
theorem lossR_3 {J : Int} {xs : List Awy} {rs fs : List Int} (h : mineOk J xs = true) (h1 : (lstOk xs.length 1 1000000 rs && lstOk xs.length (-100000) 100000 fs) = true) : lossR J xs rs fs = (pwTo rs fs xs.length, 0) := by unfold lossR; rw [h, h1]; rfl
set_option maxHeartbeats 800000 in
theorem l07Res_any (m : Nat) (M : Option Addr) (d : Nat) (p : Addr) (A : Option Addr) (n c : Nat) (xs : List Int) (w : World) (hr : Reads w w.heap.size 1 A n (ints xs)) (hn : n ≤ 1048576) (h0 : w.cell? ⟨p.block, p.off + 1, none⟩ = some (.slice M m d)) :
    Calls Tryz.prog 23 #[.pointer (some p), .slice A n c] w fun e w' => e = .returned (.bool (lstOk (m : Int) (1) 1000000 xs)) ∧ w = w' := by
  have HL := Lib.hid (ints_len hr)
  rcases Bool.eq_false_or_eq_true ((n : Int) == (m : Int)) with hnj | hnj
  all_goals
    have HN := Lib.hid hnj
    go_enter Tryz.func23, Tryz.ntmps23
    go_wp2
    go_loop [5] (fun i => ∃ k : Nat, k ≤ n ∧ i = .int .i64 k ∧ Hid ((xs.take k).all (fun x => inB x (1) 1000000) = true)) (fun i => n - (intOf i).toNat)
    case atStart => exact ⟨0, by omega, rfl, rfl⟩
    case round =>
      obtain ⟨k, hk, rfl, HK⟩ := hrel
      by_cases hlt : k < n
      · obtain ⟨ad, u, rfl, had, hx, hc⟩ := hr.at_ hlt
        obtain ⟨b, hb, rfl⟩ := ints_at hx
        have HX := Lib.hid hb
        clear hb hx
        cases hp : inB b (1) 1000000
        · have HP : Hid (inB b (1) 1000000 = false) := hp
          go_wp2_with (go_at_call 55; refine ((show Calls Tryz.prog _ _ _ (fun e w' => e = .returned (.bool (inB _ (1) 1000000)) ∧ _ = w') from l03Res_any _ _)).mono ?_; rintro e w' ⟨rfl, rfl⟩)
          go_ret
          exact ⟨ret_bool (by unfold lstOk allIn; rw [all_false (p := fun x => inB x (1) 1000000) HX.out HP.out, Bool.false_and]), rfl⟩
        · have HP : Hid (inB b (1) 1000000 = true) := hp
          go_wp2_with (go_at_call 55; refine ((show Calls Tryz.prog _ _ _ (fun e w' => e = .returned (.bool (inB _ (1) 1000000)) ∧ _ = w') from l03Res_any _ _)).mono ?_; rintro e w' ⟨rfl, rfl⟩)
          go_round
          case rel => exact ⟨k + 1, by omega, by go_num, all_take HX.out HK.out HP.out⟩
          case measure => simp [intOf]; omega
      · have e : k = n := by omega
        subst e
        have HA : Hid (allIn (1) 1000000 xs = true) := all_whole HL.out HK.out
        go_wp2
        go_ret
        exact ⟨ret_bool (by unfold lstOk; rw [HA.out, HL.out, HN.out]; first | rfl | simp_all), rfl⟩
end Go.Proofs.YtjmhhbjbmgpagaaGreat

/- Contracts of the draughts of all airways, and of the test of levels and temperatures. -/
namespace Go.Proofs.YtjmhhbjbmgpagaaGreat
set_option linter.unusedVariables false
set_option linter.unusedSimpArgs false
open Go.RowKit
def askR (J : Int) (xs : List Awy) (ls ts : List Int) : Int :=
  if mineOk J xs = true then (if (lstOk J (-3000) 3000 ls && lstOk xs.length (-300) 600 ts) = true then 0 else 7) else 1
theorem askR_0 {J : Int} {xs : List Awy} {ls ts : List Int} (h : mineOk J xs = true) (h1 : lstOk J (-3000) 3000 ls = true) (h2 : lstOk xs.length (-300) 600 ts = true) : askR J xs ls ts = 0 := by unfold askR; rw [h, h1, h2]; rfl
theorem askR_7 {J : Int} {xs : List Awy} {ls ts : List Int} (h : mineOk J xs = true) (h1 : (lstOk J (-3000) 3000 ls && lstOk xs.length (-300) 600 ts) = false) : askR J xs ls ts = 7 := by unfold askR; rw [h, h1]; rfl
theorem askR_1 {J : Int} {xs : List Awy} {ls ts : List Int} (h : mineOk J xs = false) : askR J xs ls ts = 1 := by unfold askR; rw [h]; rfl
theorem askR_cases (J : Int) (xs : List Awy) (ls ts : List Int) : (askR J xs ls ts = 0 ∧ mineOk J xs = true ∧ lstOk J (-3000) 3000 ls = true ∧ lstOk xs.length (-300) 600 ts = true) ∨ askR J xs ls ts = 7 ∨ askR J xs ls ts = 1 := by
  rcases Bool.eq_false_or_eq_true (mineOk J xs) with h | h
  · rcases Bool.eq_false_or_eq_true (lstOk J (-3000) 3000 ls && lstOk xs.length (-300) 600 ts) with h1 | h1
    · have h2 := h1
      rw [Bool.and_eq_true] at h2
      exact .inl ⟨askR_0 h h2.1 h2.2, h, h2.1, h2.2⟩
    · exact .inr (.inl (askR_7 h h1))
  · exact .inr (.inr (askR_1 h))
def drAt (xs : List Awy) (ls ts : List Int) (k : Nat) : Int :=
  match xs[k]? with
  | some x => columnT (ls.getD x.b.toNat 0 - ls.getD x.a.toNat 0) (ts.getD k 0)
  | none => 0
def drTo (xs : List Awy) (ls ts : List Int) (k : Nat) : List Int := (List.range k).map (drAt xs ls ts)
theorem drTo_snoc {xs : List Awy} {ls ts : List Int} {k ta tb : Nat} {x : Awy} {la lb t : Int} (h : xs[k]? = some x) (hb : x.b = (tb : Int)) (ha : x.a = (ta : Int)) (eb : ls[tb]? = some lb) (ea : ls[ta]? = some la) (et : ts[k]? = some t) : drTo xs ls ts (k + 1) = drTo xs ls ts k ++ [columnT (lb - la) t] := by
  have e : drAt xs ls ts k = columnT (lb - la) t := by
    unfold drAt
    rw [h]
    show columnT (ls.getD x.b.toNat 0 - ls.getD x.a.toNat 0) (ts.getD k 0) = _
    rw [hb, ha, Int.toNat_natCast, Int.toNat_natCast, List.getD_eq_getElem?_getD, List.getD_eq_getElem?_getD, List.getD_eq_getElem?_getD, eb, ea, et]; rfl
  unfold drTo
  rw [List.range_succ, List.map_append, List.map_singleton, e]
theorem drTo_len (xs : List Awy) (ls ts : List Int) (k : Nat) : (drTo xs ls ts k).length = k := by unfold drTo; simp
def drsR (J : Int) (xs : List Awy) (ls ts : List Int) : List Int × Int := if askR J xs ls ts = 0 then (drTo xs ls ts xs.length, 0) else ([], askR J xs ls ts)
end Go.Proofs.YtjmhhbjbmgpagaaGreat

/- Contracts of WarmAirways. -/
namespace Go.Proofs.YtjmhhbjbmgpagaaGreat
set_option linter.unusedVariables false
set_option linter.unusedSimpArgs false
open Go.RowKit
def incAt (as_ : List Int) (k : Nat) : Bool := decide (k = 0) || decide (as_.getD (k - 1) 0 < as_.getD k 0)
def incOk (as_ : List Int) : Bool := allUpto as_.length (incAt as_)
def riAt (as_ : List Int) (l h : Int) (k : Nat) : Bool := inB (as_.getD k 0) l h && incAt as_ k
def risesOk (as_ : List Int) (l h : Int) : Bool := allUpto as_.length (riAt as_ l h)
theorem getD_of {as_ : List Int} {k : Nat} {a : Int} (h : as_[k]? = some a) : as_.getD k 0 = a := by rw [List.getD_eq_getElem?_getD, h]; rfl
theorem incAt_z (as_ : List Int) : incAt as_ 0 = true := rfl
theorem incAt_s {as_ : List Int} {k j : Nat} {a b : Int} (hk : k = j + 1) (ha : as_[k]? = some a) (hb : as_[j]? = some b) : incAt as_ k = decide (b < a) := by
  unfold incAt
  rw [decide_eq_false (show ¬ k = 0 by omega), Bool.false_or, getD_of ha, show k - 1 = j by omega, getD_of hb]
theorem riAt_eq {as_ : List Int} {k : Nat} {a l h : Int} (ha : as_[k]? = some a) : riAt as_ l h k = (inB a l h && incAt as_ k) := by unfold riAt; rw [getD_of ha]
theorem rises_eq (as_ : List Int) (l h : Int) : risesOk as_ l h = (incOk as_ && allIn l h as_) := by
  rw [Bool.eq_iff_iff, Bool.and_eq_true]
  constructor
  · intro e
    refine ⟨allUpto_t fun k hk => ?_, ?_⟩
    · have := allUpto_get e hk
      unfold riAt at this
      rw [Bool.and_eq_true] at this
      exact this.2
    · unfold allIn
      rw [List.all_eq_true]
      intro x hx
      obtain ⟨k, hk⟩ := List.getElem?_of_mem hx
      have hkl : k < as_.length := by
        rcases Nat.lt_or_ge k as_.length with h1 | h1
        · exact h1
        · rw [List.getElem?_eq_none h1] at hk; cases hk
      have := allUpto_get e hkl
      rw [riAt_eq hk, Bool.and_eq_true] at this
      exact this.1
  · rintro ⟨h1, h2⟩
    refine allUpto_t fun k hk => ?_
    have hx : as_[k]? = some as_[k] := List.getElem?_eq_getElem hk
    rw [riAt_eq hx, Bool.and_eq_true]
    exact ⟨all_mem (p := fun x => inB x l h) h2 (List.getElem_mem hk), allUpto_get h1 hk⟩
theorem rises_mem {as_ : List Int} {l h : Int} (e : risesOk as_ l h = true) {k : Nat} {a : Int} (ha : as_[k]? = some a) : l ≤ a ∧ a ≤ h := by
  rw [rises_eq, Bool.and_eq_true] at e
  exact allIn_mem e.2 (List.mem_of_getElem? ha)
def wmTo (ts as_ : List Int) (q : Int) : Nat → List Int
  | 0 => ts
  | k + 1 => (wmTo ts as_ q k).set (as_.getD k 0).toNat ((wmTo ts as_ q k).getD (as_.getD k 0).toNat 0 + q)
theorem wmTo_len (ts as_ : List Int) (q : Int) : ∀ k, (wmTo ts as_ q k).length = ts.length
  | 0 => rfl
  | k + 1 => by simp only [wmTo]; rw [List.length_set]; exact wmTo_len ts as_ q k
theorem wmTo_snoc {ts as_ : List Int} {q a : Int} {k i : Nat} (h : as_[k]? = some a) (ha : a = (i : Int)) : wmTo ts as_ q (k + 1) = (wmTo ts as_ q k).set i ((wmTo ts as_ q k).getD i 0 + q) := by
  simp only [wmTo]; rw [getD_of h, ha, Int.toNat_natCast]
theorem wmTo_bnd {ts as_ : List Int} {q : Int} (hts : ∀ t ∈ ts, -300 ≤ t ∧ t ≤ 600) (q1 : -900 ≤ q) (q2 : q ≤ 900) : ∀ k i : Nat, -(600 + 900 * (k : Int)) ≤ (wmTo ts as_ q k).getD i 0 ∧ (wmTo ts as_ q k).getD i 0 ≤ 600 + 900 * k
  | 0, i => by
    simp only [wmTo, List.getD_eq_getElem?_getD]
    cases e : ts[i]? with
    | none => simp
    | some t => have := hts t (List.mem_of_getElem? e); simp; omega
  | k + 1, i => by
    have ih := wmTo_bnd (as_ := as_) hts q1 q2 k
    simp only [wmTo]
    have h1 := ih i
    have h2 := ih (as_.getD k 0).toNat
    rw [List.getD_eq_getElem?_getD (l := List.set _ _ _), List.getElem?_set]
    split
    · split
      · simp only [Option.getD_some]; omega
      · simp; omega
    · rw [← List.getD_eq_getElem?_getD]; omega
def wmR (J : Int) (xs : List Awy) (ts as_ : List Int) (q : Int) : List Int × Int :=
  if mineOk J xs = true then (if inB q (-900) 900 = true then (if (lstOk xs.length (-300) 600 ts && risesOk as_ 0 ((xs.length : Int) - 1)) = true then
    (if lstOk xs.length (-300) 600 (wmTo ts as_ q as_.length) = true then (wmTo ts as_ q as_.length, 0) else ([], 6)) else ([], 7)) else ([], 2)) else ([], 1)
section
variable {J : Int} {xs : List Awy} {ts as_ : List Int} {q : Int}
theorem wmR_1 (h : mineOk J xs = false) : wmR J xs ts as_ q = ([], 1) := by unfold wmR; rw [h]; rfl
theorem wmR_2 (h : mineOk J xs = true) (h1 : inB q (-900) 900 = false) : wmR J xs ts as_ q = ([], 2) := by unfold wmR; rw [h, h1]; rfl
theorem wmR_3 (h : mineOk J xs = true) (h1 : inB q (-900) 900 = true) (h2 : (lstOk xs.length (-300) 600 ts && risesOk as_ 0 ((xs.length : Int) - 1)) = false) : wmR J xs ts as_ q = ([], 7) := by unfold wmR; rw [h, h1, h2]; rfl
theorem wmR_4 (h : mineOk J xs = true) (h1 : inB q (-900) 900 = true) (h2 : (lstOk xs.length (-300) 600 ts && risesOk as_ 0 ((xs.length : Int) - 1)) = true) (h3 : lstOk xs.length (-300) 600 (wmTo ts as_ q as_.length) = false) : wmR J xs ts as_ q = ([], 6) := by unfold wmR; rw [h, h1, h2, h3]; rfl
theorem wmR_5 (h : mineOk J xs = true) (h1 : inB q (-900) 900 = true) (h2 : (lstOk xs.length (-300) 600 ts && risesOk as_ 0 ((xs.length : Int) - 1)) = true) (h3 : lstOk xs.length (-300) 600 (wmTo ts as_ q as_.length) = true) : wmR J xs ts as_ q = (wmTo ts as_ q as_.length, 0) := by unfold wmR; rw [h, h1, h2, h3]; rfl
end
/-- An owned row of numbers is a block. -/
theorem own_blk {w : World} {base e n c : Nat} {A : Option Addr} {xs : List Int} (h : w.ownsRow base e 1 (.slice A n c) n (ints xs)) (hn : 0 < n) :
    ∃ g cur, A = some ⟨g, 0, none⟩ ∧ base ≤ g ∧ Blk w g e cur ∧ n ≤ c ∧ c ≤ maxLen ∧ cur.size = c ∧ cur.toList.take n = ints xs := by
  rcases h.2 with ⟨_, h0⟩ | ⟨g, cap, cur, hv, hbg, hgb, hnc, hcm, hcs, htake⟩
  · omega
  · injection hv with hA _ hc
    subst hA
    subst hc
    exact ⟨g, cur, rfl, hbg, hgb, hnc, hcm, by omega, by simpa using htake⟩
theorem blk_own {w : World} {base g e n c : Nat} {cur : Array Value} {xs : List Int} (hb : Blk w g e cur) (hbg : base ≤ g) (hnc : n ≤ c) (hcm : c ≤ maxLen) (hcs : cur.size = c) (hl : xs.length = n) (ht : cur.toList.take n = ints xs) :
    w.ownsRow base e 1 (.slice (some ⟨g, 0, none⟩) n c) n (ints xs) := ⟨by simp [ints, hl], .inr ⟨g, c, cur, rfl, hbg, hb, hnc, hcm, by omega, by simpa using ht⟩⟩
theorem take_set_ints {cur : Array Value} {n j : Nat} {xs : List Int} {v : Int} (ht : cur.toList.take n = ints xs) : (cur.setIfInBounds j (.int .i64 v)).toList.take n = ints (xs.set j v) := by
  rw [Array.toList_setIfInBounds, List.take_set, ht]
  unfold ints
  rw [List.map_set]
theorem blk_int {w : World} {g e n j : Nat} {cur : Array Value} {xs : List Int} {v : Int} (hb : Blk w g e cur) (ht : cur.toList.take n = ints xs) (hl : xs.length = n) (hj : xs[j]? = some v) : w.cell? ⟨g, j, none⟩ = some (.int .i64 v) := by
  have hjl : j < n := by
    rcases Nat.lt_or_ge j n with h1 | h1
    · exact h1
    · rw [List.getElem?_eq_none (by omega)] at hj; cases hj
  have h1 : (cur.toList.take n)[j]? = (ints xs)[j]? := by rw [ht]
  rw [List.getElem?_take, if_pos hjl, Array.getElem?_toList] at h1
  rw [hb.cell j, h1]
  unfold ints
  rw [List.getElem?_map, hj]; rfl
set_option maxHeartbeats 400000 in
theorem l00Own_any (A : Option Addr) (n c : Nat) (xs : List Int) (w : World) (hr : Reads w w.heap.size 1 A n (ints xs)) (hn : n ≤ 1048576) :
    Calls Tryz.prog 59 #[.slice A n c] w fun e w' => ∃ A' c', e = .returned (.slice A' n c') ∧ w'.ownsRow w.heap.size 2 1 (.slice A' n c') n (ints xs) ∧ Below w.heap.size w w' := by
  obtain ⟨i0, hi0, hz0, hz1, hz2⟩ := info_parts info_Int64S
  have HL := Lib.hid (ints_len hr)
  have hrb := fun (o : Obj) => (hr.alloc (Nat.le_refl _) o)
  go_enter Tryz.func59, Tryz.ntmps59
  go_wp2_with (at_builtin; refine wpList_append_any _ rfl _ _ 25 rfl w.heap.size 2 i0 _ 1 8 Tryz.underlying25 hi0 hz0 hz1 hz2 rfl (by omega) _ 0 [] rfl (own_empty _ _ _) w.heap.size A n c (ints xs) rfl (hrb _) (ints_one xs) (by unfold maxLen; omega) (by omega) (by simp) ?_; intro v' w1 ho1 hg1 ha1)
  obtain ⟨A', c', rfl⟩ := own_shape ho1
  have hb1 : Below w.heap.size w w1 := ((Below.refl _ _).alloc (Nat.le_refl _) _).grown hg1 (by simp) fun k hk => ((own_empty w 2 1).lt k hk).1
  go_ret
  simp only [Nat.zero_add, List.nil_append] at ho1
  exact ⟨A', c', by simp, ho1, hb1⟩
end Go.Proofs.YtjmhhbjbmgpagaaGreat

/- The pressure of a fan: plain laws. -/
namespace Go.Proofs.YtjmhhbjbmgpagaaGreat
set_option linter.unusedVariables false
set_option linter.unusedSimpArgs false
/-- A number on a line through two points, or that of the nearer end. -/
def lineT (x0 y0 x1 y1 x : Int) : Int := if x ≤ x0 ∨ x1 ≤ x0 then y0 else if x1 ≤ x then y1 else y0 + dr ((y1 - y0) * (x - x0)) (x1 - x0)
theorem lineT_0 {x0 y0 x1 y1 x : Int} (h : x ≤ x0) : lineT x0 y0 x1 y1 x = y0 := by unfold lineT; rw [if_pos (.inl h)]
theorem lineT_1 {x0 y0 x1 y1 x : Int} (h0 : x0 < x1) (h : x1 ≤ x) : lineT x0 y0 x1 y1 x = y1 := by unfold lineT; rw [if_neg (by omega), if_pos h]
theorem lineT_m {x0 y0 x1 y1 x : Int} (h0 : x0 < x) (h : x < x1) : lineT x0 y0 x1 y1 x = y0 + dr ((y1 - y0) * (x - x0)) (x1 - x0) := by unfold lineT; rw [if_neg (by omega), if_neg (by omega)]
theorem dr_mul {a c : Int} (hc : 0 < c) : dr (a * c) c = a := by
  have h1 := dr_scale (a := a * c) (b := c) (m := a) hc
  unfold dr
  by_cases ha : a * c < 0
  · rw [if_pos ha]
    have e : c - 2 * (a * c) = c + (-a) * (2 * c) := by
      rw [Int.neg_mul, Int.mul_left_comm]; omega
    rw [e, Int.add_mul_ediv_right _ _ (by omega), Int.ediv_eq_zero_of_lt (by omega) (by omega)]
    omega
  · rw [if_neg ha]
    have e : 2 * (a * c) + c = c + a * (2 * c) := by rw [Int.mul_left_comm]; omega
    rw [e, Int.add_mul_ediv_right _ _ (by omega), Int.ediv_eq_zero_of_lt (by omega) (by omega)]
    omega
theorem dr_zero {c : Int} (hc : 0 < c) : dr 0 c = 0 := by have := dr_mul (a := 0) hc; rwa [Int.zero_mul] at this
theorem lineT_bnd {x0 y0 x1 y1 x : Int} (h0 : x0 < x1) (hy : y1 ≤ y0) : y1 ≤ lineT x0 y0 x1 y1 x ∧ lineT x0 y0 x1 y1 x ≤ y0 := by
  rcases Int.lt_or_le x0 x with h1 | h1
  · rcases Int.lt_or_le x x1 with h2 | h2
    · rw [lineT_m h1 h2]
      have e1 : (y1 - y0) * (x1 - x0) ≤ (y1 - y0) * (x - x0) := Int.mul_le_mul_of_nonpos_left (by omega) (by omega)
      have e2 : (y1 - y0) * (x - x0) ≤ 0 := Int.mul_nonpos_of_nonpos_of_nonneg (by omega) (by omega)
      have e3 := dr_mono (c := x1 - x0) (by omega) e1
      have e4 := dr_mono (c := x1 - x0) (by omega) e2
      rw [dr_mul (by omega)] at e3
      rw [dr_zero (by omega)] at e4
      omega
    · rw [lineT_1 h0 h2]; omega
  · rw [lineT_0 h1]; omega
theorem lineT_mono {x0 y0 x1 y1 x x' : Int} (h0 : x0 < x1) (hy : y1 ≤ y0) (h : x ≤ x') : lineT x0 y0 x1 y1 x' ≤ lineT x0 y0 x1 y1 x := by
  rcases Int.lt_or_le x0 x with h1 | h1
  · rcases Int.lt_or_le x' x1 with h2 | h2
    · rw [lineT_m h1 (by omega), lineT_m (by omega) h2]
      have e1 : (y1 - y0) * (x' - x0) ≤ (y1 - y0) * (x - x0) := Int.mul_le_mul_of_nonpos_left (by omega) (by omega)
      have e3 := dr_mono (c := x1 - x0) (by omega) e1
      omega
    · rw [lineT_1 h0 h2]; exact (lineT_bnd h0 hy).1
  · rw [lineT_0 h1]; exact (lineT_bnd h0 hy).2
end Go.Proofs.YtjmhhbjbmgpagaaGreat

/- The pressure of a fan at a flow: plain laws. -/
namespace Go.Proofs.YtjmhhbjbmgpagaaGreat
set_option linter.unusedVariables false
set_option linter.unusedSimpArgs false
/-- The index of the point behind a flow, from k on. -/
def segOf (cs : List (List Int)) (q : Int) : Nat → Nat → Nat
  | 0, k => k
  | f + 1, k => if k + 1 < cs.length ∧ lockA cs k < q then segOf cs q f (k + 1) else k
def linAt (cs : List (List Int)) (k : Nat) (q : Int) : Int := lineT (lockA cs (k - 1)) (lockB cs (k - 1)) (lockA cs k) (lockB cs k) q
def prT (cs : List (List Int)) (q : Int) : Int := linAt cs (segOf cs q cs.length 1) q
theorem seg_skip {cs : List (List Int)} {q : Int} : ∀ (f k j : Nat), j ≤ f → (∀ i, k ≤ i → i < k + j → i + 1 < cs.length ∧ lockA cs i < q) → segOf cs q f k = segOf cs q (f - j) (k + j)
  | f, k, 0, _, _ => by simp
  | 0, k, j + 1, h, _ => by omega
  | f + 1, k, j + 1, h, hp => by
    have h1 := hp k (Nat.le_refl _) (by omega)
    simp only [segOf]
    rw [if_pos h1, seg_skip f (k + 1) j (by omega) (fun i hi hj => hp i (by omega) (by omega)), show f + 1 - (j + 1) = f - j by omega, show k + 1 + j = k + (j + 1) by omega]
theorem seg_stop {cs : List (List Int)} {q : Int} {f k : Nat} (h : ¬ (k + 1 < cs.length ∧ lockA cs k < q)) : segOf cs q f k = k := by
  cases f with
  | zero => rfl
  | succ f => simp only [segOf]; rw [if_neg h]
theorem prT_at {cs : List (List Int)} {q : Int} {k : Nat} (h1 : 1 ≤ k) (hk : k + 1 ≤ cs.length) (hb : ∀ j, 1 ≤ j → j < k → lockA cs j < q) (he : k + 1 = cs.length ∨ q ≤ lockA cs k) : prT cs q = linAt cs k q := by
  unfold prT
  rw [seg_skip cs.length 1 (k - 1) (by omega) (fun i hi hj => ⟨by omega, hb i hi (by omega)⟩), show 1 + (k - 1) = k by omega, seg_stop (by omega)]
theorem seg_ex (cs : List (List Int)) (q : Int) (h2 : 2 ≤ cs.length) : ∃ k, 1 ≤ k ∧ k + 1 ≤ cs.length ∧ (∀ j, 1 ≤ j → j < k → lockA cs j < q) ∧ (k + 1 = cs.length ∨ q ≤ lockA cs k) := by
  have key : ∀ d k : Nat, k + d + 1 = cs.length → 1 ≤ k → (∀ j, 1 ≤ j → j < k → lockA cs j < q) → ∃ k, 1 ≤ k ∧ k + 1 ≤ cs.length ∧ (∀ j, 1 ≤ j → j < k → lockA cs j < q) ∧ (k + 1 = cs.length ∨ q ≤ lockA cs k) := by
    intro d
    induction d with
    | zero => intro k hk h1 hb; exact ⟨k, h1, by omega, hb, .inl (by omega)⟩
    | succ d ih =>
      intro k hk h1 hb
      rcases Int.lt_or_le (lockA cs k) q with h | h
      · refine ih (k + 1) (by omega) (by omega) fun j hj1 hj => ?_
        rcases Nat.lt_succ_iff_lt_or_eq.1 hj with h3 | rfl
        · exact hb j hj1 h3
        · exact h
      · exact ⟨k, h1, by omega, hb, .inr h⟩
  exact key (cs.length - 2) 1 (by omega) (by omega) fun j h1 h2 => by omega
section
variable {cs : List (List Int)}
theorem crv_step (h : crvOk cs = true) {k : Nat} (h1 : 1 ≤ k) (hk : k < cs.length) : lockA cs (k - 1) < lockA cs k ∧ lockB cs k ≤ lockB cs (k - 1) := by
  obtain ⟨_, _, hc⟩ := crvOk_t h
  rcases (crv_t (hc k hk)).2.2.2.2.2 with h0 | h0
  · omega
  · exact h0
theorem crv_num (h : crvOk cs = true) {k : Nat} (hk : k < cs.length) : (0 ≤ lockA cs k ∧ lockA cs k ≤ 100000) ∧ 0 ≤ lockB cs k ∧ lockB cs k ≤ 10000 := by
  obtain ⟨_, _, hc⟩ := crvOk_t h
  obtain ⟨_, a, b, c, d, _⟩ := crv_t (hc k hk)
  exact ⟨⟨a, b⟩, c, d⟩
theorem lockB_mono (h : crvOk cs = true) : ∀ (d k : Nat), k + d < cs.length → lockB cs (k + d) ≤ lockB cs k
  | 0, k, _ => Int.le_refl _
  | d + 1, k, hk => by
    have h1 := lockB_mono h d k (by omega)
    have h2 := (crv_step h (k := k + d + 1) (by omega) (by omega)).2
    rw [show k + d + 1 - 1 = k + d by omega] at h2
    exact Int.le_trans h2 h1
theorem linAt_bnd (h : crvOk cs = true) {k : Nat} {q : Int} (h1 : 1 ≤ k) (hk : k < cs.length) : lockB cs k ≤ linAt cs k q ∧ linAt cs k q ≤ lockB cs (k - 1) :=
  lineT_bnd (crv_step h h1 hk).1 (crv_step h h1 hk).2
theorem prT_bnd (h : crvOk cs = true) (q : Int) : 0 ≤ prT cs q ∧ prT cs q ≤ 10000 := by
  obtain ⟨k, h1, h2, h3, h4⟩ := seg_ex cs q (crvOk_t h).1
  rw [prT_at h1 h2 h3 h4]
  have h5 := linAt_bnd (q := q) h h1 (by omega)
  have h6 := crv_num h (k := k) (by omega)
  have h7 := crv_num h (k := k - 1) (by omega)
  omega
theorem prT_mono (h : crvOk cs = true) {q q' : Int} (hq : q ≤ q') : prT cs q' ≤ prT cs q := by
  obtain ⟨k, h1, h2, h3, h4⟩ := seg_ex cs q (crvOk_t h).1
  obtain ⟨k', h1', h2', h3', h4'⟩ := seg_ex cs q' (crvOk_t h).1
  rw [prT_at h1 h2 h3 h4, prT_at h1' h2' h3' h4']
  rcases Nat.lt_trichotomy k k' with hk | rfl | hk
  · have h5 := linAt_bnd (q := q) h h1 (by omega)
    have h6 := linAt_bnd (q := q') h h1' (by omega)
    have h7 := lockB_mono h (k' - 1 - k) k (by omega)
    rw [show k + (k' - 1 - k) = k' - 1 by omega] at h7
    omega
  · exact lineT_mono (crv_step h h1 (by omega)).1 (crv_step h h1 (by omega)).2 hq
  · exfalso
    have h5 := h3 k' h1' hk
    rcases h4' with h6 | h6
    · omega
    · omega
theorem prT_low (h : crvOk cs = true) {q : Int} (hq : q ≤ lockA cs 0) : prT cs q = lockB cs 0 := by
  have h2 := (crvOk_t h).1
  have h5 := (crv_step h (k := 1) (by omega) (by omega)).1
  rw [prT_at (k := 1) (by omega) (by omega) (fun j h1 h2 => by omega) (.inr (by rw [show (1 : Nat) - 1 = 0 from rfl] at h5; omega))]
  exact lineT_0 hq
theorem prT_high (h : crvOk cs = true) {q : Int} (hq : ∀ j, 1 ≤ j → j < cs.length → lockA cs j < q) : prT cs q = lockB cs (cs.length - 1) := by
  have h2 := (crvOk_t h).1
  rw [prT_at (k := cs.length - 1) (by omega) (by omega) (fun j h1 h2 => hq j h1 (by omega)) (.inl (by omega))]
  exact lineT_1 (crv_step h (by omega) (by omega)).1 (Int.le_of_lt (hq _ (by omega) (by omega)))
end
end Go.Proofs.YtjmhhbjbmgpagaaGreat

/- Contracts of the pressure of a fan. -/
namespace Go.Proofs.YtjmhhbjbmgpagaaGreat
set_option linter.unusedVariables false
set_option linter.unusedSimpArgs false
open Go.RowKit
/-- A point of a curve, opened. -/
theorem pt_at {w : World} {B n k : Nat} {A : Option Addr} {rs : List Row} (hr : RSS w B A n rs) (hok : crvOk (dat rs) = true) (hk : k < n) :
    ∃ ad ra cc, A = some ad ∧ w.cell? (ad.add k) = some (.slice (some ra) 2 cc) ∧ w.cell? ra = some (.int .i64 (lockA (dat rs) k)) ∧ w.cell? (ra.add 0) = some (.int .i64 (lockA (dat rs) k)) ∧ w.cell? ⟨ra.block, ra.off + 1, none⟩ = some (.int .i64 (lockB (dat rs) k)) := by
  obtain ⟨ad, r, e, hx, hc, hrr⟩ := hr.at_ hk
  obtain ⟨x1, x2, x3⟩ := lock_row (dat_at hx)
  have hl : (dat rs).length = n := by rw [dat_len]; exact hr.len
  have h2 := crv_two ((crvOk_t hok).2.2 k (by omega))
  obtain ⟨ra, hA, hn2, c0, c0', c1⟩ := open_two hrr (by omega)
  rw [← x2] at c0 c0'
  rw [← x3] at c1
  rw [hA, hn2] at hc
  exact ⟨ad, ra, _, e, hc, c0, c0', c1⟩
theorem line_in {x0 y0 x1 y1 x : Int} (hx0 : 0 ≤ x0 ∧ x0 ≤ 100000) (hy0 : 0 ≤ y0 ∧ y0 ≤ 10000) (hx1 : 0 ≤ x1 ∧ x1 ≤ 100000) (hy1 : 0 ≤ y1 ∧ y1 ≤ 10000) (hx : -100000 ≤ x ∧ x ≤ 100000) :
    -2000000000 ≤ (y1 - y0) * (x - x0) ∧ (y1 - y0) * (x - x0) ≤ 2000000000 := mul_bnd (X := 10000) (Y := 200000) (by omega) (by omega) (by omega) (by omega) (by omega)
set_option maxHeartbeats 800000 in
theorem l01Line_any (x0 y0 x1 y1 x : Int) (w : World) (hx0 : 0 ≤ x0 ∧ x0 ≤ 100000) (hy0 : 0 ≤ y0 ∧ y0 ≤ 10000) (hx1 : 0 ≤ x1 ∧ x1 ≤ 100000) (hy1 : 0 ≤ y1 ∧ y1 ≤ 10000) (hx : -100000 ≤ x ∧ x ≤ 100000) :
    Calls Tryz.prog 115 #[.int .i64 x0, .int .i64 y0, .int .i64 x1, .int .i64 y1, .int .i64 x] w fun e w' => e = .returned (.int .i64 (lineT x0 y0 x1 y1 x)) ∧ w = w' := by
  obtain ⟨h1, h2⟩ := line_in hx0 hy0 hx1 hy1 hx
  by_cases c1 : x ≤ x0
  · have HV := Lib.hid (lineT_0 (y0 := y0) (x1 := x1) (y1 := y1) c1)
    go_enter Tryz.func115, Tryz.ntmps115
    go_wp2
    go_ret
    exact ⟨ret_int HV.out.symm, rfl⟩
  · by_cases c2 : x1 ≤ x0
    · have HV : Hid (lineT x0 y0 x1 y1 x = y0) := show _ = _ by unfold lineT; rw [if_pos (.inr c2)]
      go_enter Tryz.func115, Tryz.ntmps115
      go_wp2
      go_ret
      exact ⟨ret_int HV.out.symm, rfl⟩
    · by_cases c3 : x1 ≤ x
      · have HV := Lib.hid (lineT_1 (x0 := x0) (y0 := y0) (y1 := y1) (by omega) c3)
        go_enter Tryz.func115, Tryz.ntmps115
        go_wp2
        go_ret
        exact ⟨ret_int HV.out.symm, rfl⟩
      · have HV := Lib.hid (lineT_m (x0 := x0) (y0 := y0) (x1 := x1) (y1 := y1) (x := x) (by omega) (by omega))
        obtain ⟨d1, d2⟩ := dr_bnd (a := (y1 - y0) * (x - x0)) (b := x1 - x0) (m := 2000000000) (by omega) (by omega) h2
        have cd := l01Div_any ((y1 - y0) * (x - x0)) (x1 - x0) w (by omega) (by omega) (by omega) (by omega)
        go_enter Tryz.func115, Tryz.ntmps115
        go_wp2_with fail; ((with_reducible refine (cd).mono ?_); rintro e w' ⟨rfl, rfl⟩)
        go_wp2
        go_ret
        exact ⟨ret_int HV.out.symm, rfl⟩
set_option maxHeartbeats 800000 in
theorem blend_any (x0 y0 x1 y1 x : Int) (w : World) (hx0 : 0 ≤ x0 ∧ x0 ≤ 100000) (hy0 : 0 ≤ y0 ∧ y0 ≤ 10000) (hx1 : 0 ≤ x1 ∧ x1 ≤ 100000) (hy1 : 0 ≤ y1 ∧ y1 ≤ 10000) (hx : -100000 ≤ x ∧ x ≤ 100000) :
    Calls Tryz.prog 108 #[.int .i64 x0, .int .i64 y0, .int .i64 x1, .int .i64 y1, .int .i64 x] w fun e w' => e = .returned (.int .i64 (lineT x0 y0 x1 y1 x)) ∧ ∃ n, w' = w.drewN n := by
  obtain ⟨h1, h2⟩ := line_in hx0 hy0 hx1 hy1 hx
  by_cases c1 : x ≤ x0
  · have HV := Lib.hid (lineT_0 (y0 := y0) (x1 := x1) (y1 := y1) c1)
    go_enter Tryz.func108, Tryz.ntmps108
    go_wp2
    go_ret
    exact ⟨ret_int HV.out.symm, 0, rfl⟩
  · by_cases c2 : x1 ≤ x0
    · have HV : Hid (lineT x0 y0 x1 y1 x = y0) := show _ = _ by unfold lineT; rw [if_pos (.inr c2)]
      go_enter Tryz.func108, Tryz.ntmps108
      go_wp2
      go_ret
      exact ⟨ret_int HV.out.symm, 0, rfl⟩
    · by_cases c3 : x1 ≤ x
      · have HV := Lib.hid (lineT_1 (x0 := x0) (y0 := y0) (y1 := y1) (by omega) c3)
        go_enter Tryz.func108, Tryz.ntmps108
        go_wp2
        go_ret
        exact ⟨ret_int HV.out.symm, 0, rfl⟩
      · have HV := Lib.hid (lineT_m (x0 := x0) (y0 := y0) (x1 := x1) (y1 := y1) (x := x) (by omega) (by omega))
        obtain ⟨d1, d2⟩ := dr_bnd (a := (y1 - y0) * (x - x0)) (b := x1 - x0) (m := 2000000000) (by omega) (by omega) h2
        have cd := divRound_any ((y1 - y0) * (x - x0)) (x1 - x0) w (by omega) (by omega) (by omega) (by omega)
        go_enter Tryz.func108, Tryz.ntmps108
        go_wp2_with fail; ((with_reducible refine (cd).mono ?_); rintro e w' ⟨rfl, n1, rfl⟩)
        go_wp2
        go_ret
        exact ⟨ret_int HV.out.symm, _, rfl⟩
set_option maxHeartbeats 1600000 in
set_option maxRecDepth 100000 in
theorem l06Pressure_any (A : Option Addr) (n c : Nat) (rs : List Row) (q : Int) (p : Addr) (w : World) (hr : RSS w w.heap.size A n rs) (hok : crvOk (dat rs) = true) (hq : -100000 ≤ q ∧ q ≤ 100000) (hp2 : w.cell? ⟨p.block, p.off + 2, none⟩ = some (.slice A n c)) :
    Calls Tryz.prog 94 #[.pointer (some p), .int .i64 q] w fun e w' => e = .returned (.int .i64 (prT (dat rs) q)) ∧ Below w.heap.size w w' := by
  have HLn : Hid ((dat rs).length = n) := show (dat rs).length = n by rw [dat_len]; exact hr.len
  have HOK := Lib.hid hok
  have hn2 : 2 ≤ n ∧ n ≤ 8 := by have h := crvOk_t hok; have h2 := HLn.out; omega
  obtain ⟨n2, n8⟩ := hn2
  have hpl : p.block < w.heap.size := block_lt_of_cell (a := ⟨p.block, p.off + 2, none⟩) hp2
  obtain ⟨a0, r0, k0, rfl, f0, f1, f2, f3⟩ := pt_at hr hok (k := 0) (by omega)
  have f0' : w.cell? a0 = some (.slice (some r0) 2 k0) := f0
  have hn0 : (0 : Int) < (n : Int) := by omega
  clear hok
  by_cases hl : q ≤ lockA (dat rs) 0
  · have HV := Lib.hid (prT_low HOK.out hl)
    go_enter Tryz.func94, Tryz.ntmps94
    go_wp2
    go_ret
    exact ⟨ret_int HV.out.symm, Below.refl _ _⟩
  · go_enter Tryz.func94, Tryz.ntmps94
    go_wp2
    go_loop [6] (fun i => ∃ k : Nat, 1 ≤ k ∧ k ≤ n ∧ i = .int .i64 k ∧ Hid (∀ j, 1 ≤ j → j < k → lockA (dat rs) j < q)) (fun i => n - (intOf i).toNat)
    case atStart => exact ⟨1, by omega, by omega, rfl, fun j h1 h2 => by omega⟩
    case round =>
      obtain ⟨k, hk1, hk, rfl, HK⟩ := hrel
      by_cases hlt : k < n
      · obtain ⟨j, hj⟩ : ∃ j, Hid (k = j + 1) := ⟨k - 1, show k = k - 1 + 1 by omega⟩
        have hjn : j < n := by have := hj.out; omega
        have hwj : IntKind.i64.wrap ((k : Int) - 1) = (j : Int) := by have := hj.out; rw [IntWalk.i64_in _ (by omega)]; omega
        have hjI : (j : Int) < (n : Int) := by omega
        have hltI : (k : Int) < (n : Int) := by omega
        obtain ⟨a1, r1, k1, e1, g0, g1, g2, g3⟩ := pt_at hr HOK.out hlt
        obtain ⟨a2, r2, k2, e2, h0, h1, h2, h3⟩ := pt_at hr HOK.out hjn
        injection e1 with e1
        subst e1
        injection e2 with e2
        subst e2
        have b1 := crv_num HOK.out (k := k) (by rw [HLn.out]; exact hlt)
        have b2 := crv_num HOK.out (k := j) (by rw [HLn.out]; exact hjn)
        by_cases hg : q ≤ lockA (dat rs) k
        · have HV : Hid (prT (dat rs) q = lineT (lockA (dat rs) j) (lockB (dat rs) j) (lockA (dat rs) k) (lockB (dat rs) k) q) := show _ = _ by
            rw [prT_at hk1 (by rw [HLn.out]; omega) HK.out (.inr hg)]; unfold linAt; rw [show k - 1 = j by have := hj.out; omega]
          have HC : Hid (∀ m, Calls Tryz.prog 115 #[.int .i64 (lockA (dat rs) j), .int .i64 (lockB (dat rs) j), .int .i64 (lockA (dat rs) k), .int .i64 (lockB (dat rs) k), .int .i64 q] (w.drewN m) fun e w'' => e = .returned (.int .i64 (prT (dat rs) q)) ∧ ∃ u, w'' = w.drewN u) := fun m => (l01Line_any _ _ _ _ _ (w.drewN m) b2.1 b2.2 b1.1 b1.2 hq).mono fun _ _ ⟨he, hw⟩ => ⟨by rw [he, HV.out], m, hw.symm⟩
          clear b1 b2
          go_wp2
          go_quiet ((go_at_call 115; exact HC.out _))
          go_wp2
          go_ret
          exact ⟨rfl, below_drewN (Below.refl _ _) _⟩
        · have HG : Hid (∀ i, 1 ≤ i → i < k + 1 → lockA (dat rs) i < q) := fun i h1 h2 => by
            rcases Nat.lt_succ_iff_lt_or_eq.1 h2 with h3 | rfl
            · exact HK.out i h1 h3
            · omega
          clear b1 b2
          go_wp2
          go_round
          case rel => exact ⟨k + 1, by omega, by omega, by go_num, HG.out⟩
          case measure => simp [intOf]; omega
      · obtain ⟨j, hj⟩ : ∃ j, Hid (n = j + 1) := ⟨n - 1, show n = n - 1 + 1 by omega⟩
        have hjn : j < n := by have := hj.out; omega
        have hwj : IntKind.i64.wrap ((n : Int) - 1) = (j : Int) := by have := hj.out; rw [IntWalk.i64_in _ (by omega)]; omega
        have hjI : (j : Int) < (n : Int) := by omega
        obtain ⟨a2, r2, k2, e2, h0, h1, h2, h3⟩ := pt_at hr HOK.out hjn
        injection e2 with e2
        subst e2
        have HV : Hid (prT (dat rs) q = lockB (dat rs) j) := show _ = _ by
          rw [prT_high HOK.out (fun i h1 h2 => HK.out i h1 (by rw [HLn.out] at h2; omega)), HLn.out, show n - 1 = j by have := hj.out; omega]
        go_wp2
        go_ret
        exact ⟨ret_int HV.out.symm, Below.refl _ _⟩
set_option maxHeartbeats 1600000 in
set_option maxRecDepth 100000 in
theorem pressure_any (s : ByteArray) (a : Int) (A : Option Addr) (n c : Nat) (rs : List Row) (q : Int) (w : World) (hr0 : RSS w w.heap.size A n rs) (hok : crvOk (dat rs) = true) (hq : -100000 ≤ q ∧ q ≤ 100000) :
    Calls Tryz.prog 79 #[.agg #[.string s, .int .i64 a, .slice A n c], .int .i64 q] w fun e w' => e = .returned (.int .i64 (prT (dat rs) q)) ∧ Below w.heap.size w w' := by
  have HLn : Hid ((dat rs).length = n) := show (dat rs).length = n by rw [dat_len]; exact hr0.len
  have HOK := Lib.hid hok
  have hn2 : 2 ≤ n ∧ n ≤ 8 := by have h := crvOk_t hok; have h2 := HLn.out; omega
  obtain ⟨n2, n8⟩ := hn2
  have hb0 : Below w.heap.size w (w.alloc (.cells #[.string s, .int .i64 a, .slice A n c] 58)) := (Below.refl _ _).alloc (Nat.le_refl _) _
  have hr := hr0.below hb0
  have p2 : (w.alloc (.cells #[.string s, .int .i64 a, .slice A n c] 58)).cell? ⟨w.heap.size, 2, none⟩ = some (.slice A n c) := ((Blk.new w _ _).cell 2).trans rfl
  have hwn : IntKind.i64.wrap ((n : Int) - 1) = (n : Int) - 1 := IntWalk.i64_in _ (by omega)
  clear hok
  go_enter Tryz.func79, Tryz.ntmps79
  go_wp2
  generalize w.alloc (.cells #[.string s, .int .i64 a, .slice A n c] 58) = wb at *
  go_loop [5] (fun i => ∃ k : Nat, 1 ≤ k ∧ k + 1 ≤ n ∧ i = .int .i64 k ∧ Hid (∀ j, 1 ≤ j → j < k → lockA (dat rs) j < q)) (fun i => n - (intOf i).toNat)
  case atStart => exact ⟨1, by omega, by omega, rfl, fun j h1 h2 => by omega⟩
  case round =>
    obtain ⟨k, hk1, hk, rfl, HK⟩ := hrel
    have hlt : k < n := by omega
    obtain ⟨j, hj⟩ : ∃ j, Hid (k = j + 1) := ⟨k - 1, show k = k - 1 + 1 by omega⟩
    have hjn : j < n := by have := hj.out; omega
    have hwj : IntKind.i64.wrap ((k : Int) - 1) = (j : Int) := by have := hj.out; rw [IntWalk.i64_in _ (by omega)]; omega
    have hjI : (j : Int) < (n : Int) := by omega
    have hltI : (k : Int) < (n : Int) := by omega
    obtain ⟨a1, r1, k1, rfl, g0, g1, g2, g3⟩ := pt_at hr HOK.out hlt
    obtain ⟨a2, r2, k2, e2, h0, h1, h2, h3⟩ := pt_at hr HOK.out hjn
    injection e2 with e2
    subst e2
    have b1 := crv_num HOK.out (k := k) (by rw [HLn.out]; exact hlt)
    have b2 := crv_num HOK.out (k := j) (by rw [HLn.out]; exact hjn)
    have HL := Lib.hid (fun (he : k + 1 = (dat rs).length ∨ q ≤ lockA (dat rs) k) => show prT (dat rs) q = lineT (lockA (dat rs) j) (lockB (dat rs) j) (lockA (dat rs) k) (lockB (dat rs) k) q by
      rw [prT_at hk1 (by rw [HLn.out]; omega) HK.out he]; unfold linAt; rw [show k - 1 = j by have := hj.out; omega])
    have HC0 := Lib.hid (fun (W : World) (v : Int) (hv : v = lineT (lockA (dat rs) j) (lockB (dat rs) j) (lockA (dat rs) k) (lockB (dat rs) k) q) (m : Nat) => show Calls Tryz.prog 108 #[.int .i64 (lockA (dat rs) j), .int .i64 (lockB (dat rs) j), .int .i64 (lockA (dat rs) k), .int .i64 (lockB (dat rs) k), .int .i64 q] (W.drewN m) (fun e w'' => e = .returned (.int .i64 v) ∧ ∃ u, w'' = W.drewN u) from Calls.quiet_of ((blend_any _ _ _ _ _ (W.drewN m) b2.1 b2.2 b1.1 b1.2 hq).mono fun _ _ ⟨he, hw⟩ => ⟨by rw [he, hv], hw⟩))
    clear b1 b2
    by_cases hz : (k : Int) < (n : Int) - 1
    · by_cases hg : lockA (dat rs) k < q
      · have HG : Hid (∀ i, 1 ≤ i → i < k + 1 → lockA (dat rs) i < q) := fun i h1 h2 => by
          rcases Nat.lt_succ_iff_lt_or_eq.1 h2 with h3 | rfl
          · exact HK.out i h1 h3
          · exact hg
        go_wp2
        go_round
        case rel => exact ⟨k + 1, by omega, by omega, by go_num, HG.out⟩
        case measure => simp [intOf]; omega
      · have HV := Lib.hid (HL.out (.inr (by omega)))
        go_wp2
        go_quiet (fail)
        have HC := Lib.hid (HC0.out (wb.drewN nq) _ HV.out)
        have g1q : (wb.drewN nq).cell? r1 = _ := g1
        have g2q : (wb.drewN nq).cell? (r1.add 0) = _ := g2
        have g3q : (wb.drewN nq).cell? ⟨r1.block, r1.off + 1, none⟩ = _ := g3
        have h1q : (wb.drewN nq).cell? r2 = _ := h1
        have h2q : (wb.drewN nq).cell? (r2.add 0) = _ := h2
        have h3q : (wb.drewN nq).cell? ⟨r2.block, r2.off + 1, none⟩ = _ := h3
        have hbq := below_drewN hb0 nq
        generalize wb.drewN nq = wq at HC g1q g2q g3q h1q h2q h3q hbq ⊢
        go_wp2
        go_quiet ((go_at_call 108; exact HC.out _))
        go_wp2
        go_ret
        exact ⟨rfl, below_drewN hbq _⟩
    · have HV := Lib.hid (HL.out (.inl (by rw [HLn.out]; omega)))
      go_wp2
      go_quiet (fail)
      have HC := Lib.hid (HC0.out (wb.drewN nq) _ HV.out)
      have g1q : (wb.drewN nq).cell? r1 = _ := g1
      have g2q : (wb.drewN nq).cell? (r1.add 0) = _ := g2
      have g3q : (wb.drewN nq).cell? ⟨r1.block, r1.off + 1, none⟩ = _ := g3
      have h1q : (wb.drewN nq).cell? r2 = _ := h1
      have h2q : (wb.drewN nq).cell? (r2.add 0) = _ := h2
      have h3q : (wb.drewN nq).cell? ⟨r2.block, r2.off + 1, none⟩ = _ := h3
      have hbq := below_drewN hb0 nq
      generalize wb.drewN nq = wq at HC g1q g2q g3q h1q h2q h3q hbq ⊢
      go_wp2
      go_quiet ((go_at_call 108; exact HC.out _))
      go_wp2
      go_ret
      exact ⟨rfl, below_drewN hbq _⟩
end Go.Proofs.YtjmhhbjbmgpagaaGreat
