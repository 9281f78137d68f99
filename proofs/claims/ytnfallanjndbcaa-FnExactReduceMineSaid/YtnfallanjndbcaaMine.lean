/- Contracts of the test of a mine. -/
import Derived.Test.YtnfallanjndbcaaAwy
import Derived.Test.YtnfallanjndbcaaOwn
import Derived.Test.YtnfallanjndbcaaNb
namespace Go.Proofs.Ytnfallanjndbcaa
set_option linter.unusedVariables false
set_option linter.unusedSimpArgs false
open Go.RowKit
def sLt (a b : ByteArray) : Bool := Op.bytesLess a.toList b.toList
theorem leq_lt : ∀ a b : List UInt8, (Op.bytesLess b a || b == a) = !Op.bytesLess a b
  | [], [] => by simp [Op.bytesLess]
  | [], _ :: _ => by simp [Op.bytesLess]
  | _ :: _, [] => by simp [Op.bytesLess]
  | x :: a, y :: b => by
    have ih := leq_lt a b
    simp only [Op.bytesLess, List.cons_beq_cons]
    rcases Nat.lt_trichotomy x.toNat y.toNat with h | h | h
    · have h1 : x < y := h
      have h2 : ¬ y < x := fun h3 => by have : y.toNat < x.toNat := h3; omega
      have h3 : (y == x) = false := beq_eq_false_iff_ne.2 (fun e => by rw [e] at h; omega)
      simp [h1, h2, h3]
    · obtain rfl : x = y := UInt8.toNat_inj.1 h
      have h2 : ¬ x < x := fun h3 => by have : x.toNat < x.toNat := h3; omega
      simp only [h2, decide_false, BEq.rfl, Bool.true_and, Bool.false_or]
      exact ih
    · have h1 : y < x := h
      have h2 : ¬ x < y := fun h3 => by have : x.toNat < y.toNat := h3; omega
      have h3 : (x == y) = false := beq_eq_false_iff_ne.2 (fun e => by rw [e] at h; omega)
      simp [h1, h2, h3]
def idAt (xs : List Awy) (k : Nat) : ByteArray := (xs.getD k default).s
theorem idAt_eq {xs : List Awy} {k : Nat} {x : Awy} (h : xs[k]? = some x) : idAt xs k = x.s := by unfold idAt; rw [List.getD_eq_getElem?_getD, h]; rfl
def mnAt (J : Int) (xs : List Awy) (k : Nat) : Bool :=
  match xs[k]? with
  | some x => awyOk x && (inB x.a 0 (J - 1) && inB x.b 0 (J - 1)) && (decide (k = 0) || sLt (idAt xs (k - 1)) x.s)
  | none => false
theorem mn_eq {J : Int} {xs : List Awy} {k : Nat} {x : Awy} (h : xs[k]? = some x) : mnAt J xs k = (awyOk x && (inB x.a 0 (J - 1) && inB x.b 0 (J - 1)) && (decide (k = 0) || sLt (idAt xs (k - 1)) x.s)) := by unfold mnAt; rw [h]
theorem mn_o {J : Int} {xs : List Awy} {k : Nat} {x : Awy} (h : xs[k]? = some x) (h0 : awyOk x = false) : mnAt J xs k = false := by rw [mn_eq h, h0]; simp
theorem mn_a {J : Int} {xs : List Awy} {k : Nat} {x : Awy} (h : xs[k]? = some x) (h0 : (inB x.a 0 (J - 1) && inB x.b 0 (J - 1)) = false) : mnAt J xs k = false := by rw [mn_eq h, h0]; simp
theorem mn_p {J : Int} {xs : List Awy} {k j : Nat} {x y : Awy} (h : xs[k]? = some x) (hk : k = j + 1) (hy : xs[j]? = some y) (h0 : sLt y.s x.s = false) : mnAt J xs k = false := by
  rw [mn_eq h, show k - 1 = j by omega, idAt_eq hy, h0, decide_eq_false (show ¬ k = 0 by omega)]; simp
theorem mn_z {J : Int} {xs : List Awy} {k : Nat} {x : Awy} (h : xs[k]? = some x) (h0 : awyOk x = true) (h1 : (inB x.a 0 (J - 1) && inB x.b 0 (J - 1)) = true) (hk : k = 0) : mnAt J xs k = true := by rw [mn_eq h, h0, h1, decide_eq_true hk]; rfl
theorem mn_y {J : Int} {xs : List Awy} {k j : Nat} {x y : Awy} (h : xs[k]? = some x) (h0 : awyOk x = true) (h1 : (inB x.a 0 (J - 1) && inB x.b 0 (J - 1)) = true) (hk : k = j + 1) (hy : xs[j]? = some y) (h2 : sLt y.s x.s = true) : mnAt J xs k = true := by
  rw [mn_eq h, h0, h1, show k - 1 = j by omega, idAt_eq hy, h2]; simp
def mineOk (J : Int) (xs : List Awy) : Bool := inB J 1 16 && decide (xs.length ≤ 24) && allUpto xs.length (mnAt J xs)
theorem mineOk_j {J : Int} {xs : List Awy} (h : inB J 1 16 = false) : mineOk J xs = false := by unfold mineOk; rw [h]; rfl
theorem mineOk_l {J : Int} {xs : List Awy} (h : 24 < xs.length) : mineOk J xs = false := by unfold mineOk; rw [decide_eq_false (show ¬ xs.length ≤ 24 by omega)]; simp
theorem mineOk_k {J : Int} {xs : List Awy} {k : Nat} (hk : k < xs.length) (h : mnAt J xs k = false) : mineOk J xs = false := by unfold mineOk; rw [allUpto_f hk h, Bool.and_false]
theorem mineOk_y {J : Int} {xs : List Awy} (h : inB J 1 16 = true) (h1 : ∀ k, k < xs.length → mnAt J xs k = true) : mineOk J xs = decide (xs.length ≤ 24) := by unfold mineOk; rw [h, allUpto_t h1]; simp
theorem mineOk_t {J : Int} {xs : List Awy} (h : mineOk J xs = true) : (1 ≤ J ∧ J ≤ 16) ∧ xs.length ≤ 24 ∧ ∀ x ∈ xs, awyOk x = true ∧ (0 ≤ x.a ∧ x.a < J) ∧ (0 ≤ x.b ∧ x.b < J) := by
  unfold mineOk at h
  simp only [Bool.and_eq_true, decide_eq_true_eq] at h
  refine ⟨inB_t h.1.1, h.1.2, fun x hx => ?_⟩
  obtain ⟨k, hk⟩ := List.getElem?_of_mem hx
  have hkl : k < xs.length := by
    rcases Nat.lt_or_ge k xs.length with h1 | h1
    · exact h1
    · rw [List.getElem?_eq_none h1] at hk; cases hk
  have hm := allUpto_get h.2 hkl
  rw [mn_eq hk] at hm
  simp only [Bool.and_eq_true] at hm
  have h1 := inB_t hm.1.2.1
  have h2 := inB_t hm.1.2.2
  exact ⟨hm.1.1, by omega, by omega⟩
theorem upto_succ1 {f : Nat → Bool} {k : Nat} (h : ∀ j, j < k → f j = true) (h1 : f k = true) : ∀ j, j < k + 1 → f j = true := by
  intro j hj
  rcases Nat.lt_succ_iff_lt_or_eq.1 hj with h2 | rfl
  · exact h j h2
  · exact h1
theorem jun_q {J j : Int} {b : Bool} {p : Addr} {w : World} (k : inB j 0 (J - 1) = b) (hJ : -9223372036854775808 < J) (hJ2 : J ≤ 9223372036854775807) (h0 : w.cell? p = some (.int .i64 J)) :
    ∀ m, Calls Try.prog 14 #[.pointer (some p), .int .i64 j] (w.drewN m) fun e w'' => e = .returned (.bool b) ∧ ∃ q, w'' = w.drewN q :=
  fun m => (l04Junction_any J j p (w.drewN m) hJ hJ2 h0).mono fun _ _ ⟨he, hw⟩ => ⟨by rw [he, k], m, hw.symm⟩
theorem awy_q {x : Awy} {b : Bool} {p : Addr} {w : World} (k : awyOk x = b) (hs : x.s.size ≤ maxLen) (hc : Cells w p x.cells) :
    ∀ m, Calls Try.prog 27 #[.pointer (some p)] (w.drewN m) fun e w'' => e = .returned (.bool b) ∧ ∃ q, w'' = w.drewN q :=
  fun m => Calls.quiet_of ((l03Ok_any x p (w.drewN m) hs (hc.drewN m)).mono fun _ _ ⟨he, hw⟩ => ⟨by rw [he, k], hw⟩)
set_option maxHeartbeats 1600000 in
set_option maxRecDepth 100000 in
theorem l04Ok_any (J : Int) (A : Option Addr) (n c : Nat) (xs : List Awy) (p : Addr) (w : World) (hr : Reads w w.heap.size 7 A n (Awy.recs xs)) (hn : n ≤ 1048576) (hxs : ∀ x ∈ xs, x.s.size ≤ maxLen) (hcp : Cells w p [.int .i64 J, .slice A n c]) :
    Calls Try.prog 12 #[.pointer (some p)] w fun e w' => e = .returned (.bool (mineOk J xs)) ∧ Below w.heap.size w w' := by
  have HM := Lib.hid hxs
  have HLn := Lib.hid (recs_rlen Awy.clen (by omega) hr)
  have hp0 := hcp.z rfl
  have hp1 := hcp.at_ 0 rfl
  have hpl := block_lt_of_cell hp0
  clear hxs
  rcases Bool.eq_false_or_eq_true (inB J 1 16) with hJ | hJ
  · have HJ := Lib.hid hJ
    obtain ⟨j1, j2⟩ := inB_t hJ
    clear hcp
    go_enter Try.func12, Try.ntmps12
    go_wp2_with fail; ((with_reducible refine (l00In_any _ _ _ _).mono ?_); rintro e w' ⟨rfl, rfl⟩)
    rw [hJ]
    clear hJ
    go_wp2
    go_loopw [3] (fun i wr => ∃ (k : Nat), k ≤ n ∧ i = .int .i64 k ∧ Hid (∀ j, j < k → mnAt J xs j = true) ∧ Below w.heap.size w wr) (fun i _ => n - (intOf i).toNat)
    case atStart => exact ⟨0, by omega, rfl, fun j hj => absurd hj (Nat.not_lt_zero _), Below.refl _ _⟩
    case round =>
      obtain ⟨k, hk, rfl, HK, hbw⟩ := hrel
      have g0 : wr.cell? p = some (.int .i64 J) := (hbw.cell hpl).trans hp0
      have g1 : wr.cell? ⟨p.block, p.off + 1, none⟩ = some (.slice A n c) := (hbw.cell (p := ⟨p.block, p.off + 1, none⟩) hpl).trans hp1
      by_cases hlt : k < n
      · obtain ⟨ad, x, rfl, had, hx, hc⟩ := (hr.below hbw).rec_at Awy.clen (by omega) hlt
        have HX := Lib.hid hx
        have HCx := Lib.hid hc
        have hm := HM.out x (List.mem_of_getElem? hx)
        have hlx : Hid (k < xs.length) := show k < xs.length by rw [HLn.out]; exact hlt
        have hltI : (k : Int) < (n : Int) := by omega
        obtain ⟨a0, a1, a2, a3, a4, a5, a6⟩ := Awy.open_ hc
        clear hx hc
        rcases Bool.eq_false_or_eq_true (awyOk x) with k0 | k0
        · have HO := Lib.hid (awy_q k0 hm HCx.out)
          rcases Bool.eq_false_or_eq_true (inB x.a 0 (J - 1)) with k1 | k1
          · have H1 := Lib.hid (jun_q k1 (by omega) (by omega) g0)
            rcases Bool.eq_false_or_eq_true (inB x.b 0 (J - 1)) with k2 | k2
            · have H2 := Lib.hid (jun_q k2 (by omega) (by omega) g0)
              rcases Nat.eq_zero_or_pos k with h0 | hpos
              · have HY := Lib.hid (mn_z HX.out k0 (by rw [k1, k2]; rfl) h0)
                subst h0
                have hcz : Cells wr ad x.cells := HCx.out
                have HO := Lib.hid (awy_q k0 hm hcz)
                obtain ⟨b0, b1, b2, b3, b4, b5, b6⟩ := Awy.open_ hcz
                clear hcz
                go_wp2
                go_quiet ((first | (go_at_call 27; exact HO.out _) | (go_at_call_of 14 (Value.int .i64 x.a); exact H1.out _) | (go_at_call_of 14 (Value.int .i64 x.b); exact H2.out _)))
                go_wp2
                go_roundw
                case rel => exact ⟨1, by omega, by go_num, upto_succ1 HK.out HY.out, below_drewN hbw _⟩
                case measure => simp [intOf]; omega
              · obtain ⟨j, hj⟩ : ∃ j, Hid (k = j + 1) := ⟨k - 1, show k = k - 1 + 1 by omega⟩
                have hjn : j < n := by have := hj.out; omega
                have hwj : IntKind.i64.wrap ((k : Int) - 1) = (j : Int) := by have := hj.out; rw [IntWalk.i64_in _ (by omega)]; omega
                have hk0 : decide ((0 : Int) < (k : Int)) = true := decide_eq_true (by omega)
                have hjI : (j : Int) < (n : Int) := by omega
                obtain ⟨ad', y, e1, had', hy, hcy⟩ := (hr.below hbw).rec_at Awy.clen (by omega) hjn
                injection e1 with e1
                subst e1
                have HYy := Lib.hid hy
                have b0 := hcy.z rfl
                clear hy hcy
                cases hl : Op.bytesLess y.s.toList x.s.toList
                · have HY := Lib.hid (mn_p (J := J) HX.out hj.out HYy.out hl)
                  go_wp2
                  go_quiet ((first | (go_at_call 27; exact HO.out _) | (go_at_call_of 14 (Value.int .i64 x.a); exact H1.out _) | (go_at_call_of 14 (Value.int .i64 x.b); exact H2.out _)))
                  go_wp2
                  go_ret
                  exact ⟨ret_bool (mineOk_k hlx.out HY.out).symm, below_drewN hbw _⟩
                · have HY := Lib.hid (mn_y (J := J) HX.out k0 (by rw [k1, k2]; rfl) hj.out HYy.out hl)
                  go_wp2
                  go_quiet ((first | (go_at_call 27; exact HO.out _) | (go_at_call_of 14 (Value.int .i64 x.a); exact H1.out _) | (go_at_call_of 14 (Value.int .i64 x.b); exact H2.out _)))
                  go_wp2
                  go_roundw
                  case rel => exact ⟨k + 1, by omega, by go_num, upto_succ1 HK.out HY.out, below_drewN hbw _⟩
                  case measure => simp [intOf]; omega
            · have H2 := Lib.hid (jun_q k2 (by omega) (by omega) g0)
              have HY := Lib.hid (mn_a (J := J) HX.out (by rw [k1, k2]; rfl))
              go_wp2
              go_quiet ((first | (go_at_call 27; exact HO.out _) | (go_at_call_of 14 (Value.int .i64 x.a); exact H1.out _) | (go_at_call_of 14 (Value.int .i64 x.b); exact H2.out _)))
              go_wp2
              go_ret
              exact ⟨ret_bool (mineOk_k hlx.out HY.out).symm, below_drewN hbw _⟩
          · have H1 := Lib.hid (jun_q k1 (by omega) (by omega) g0)
            have HY := Lib.hid (mn_a (J := J) HX.out (by rw [k1]; rfl))
            go_wp2
            go_quiet ((first | (go_at_call 27; exact HO.out _) | (go_at_call_of 14 (Value.int .i64 x.a); exact H1.out _)))
            go_wp2
            go_ret
            exact ⟨ret_bool (mineOk_k hlx.out HY.out).symm, below_drewN hbw _⟩
        · have HO := Lib.hid (awy_q k0 hm HCx.out)
          have HY := Lib.hid (mn_o (J := J) HX.out k0)
          go_wp2
          go_quiet ((go_at_call 27; exact HO.out _))
          go_wp2
          go_ret
          exact ⟨ret_bool (mineOk_k hlx.out HY.out).symm, below_drewN hbw _⟩
      · have e : k = n := by omega
        have HV := Lib.hid (mineOk_y HJ.out (by rw [HLn.out, ← e]; exact HK.out))
        clear e
        go_wp2
        go_ret
        exact ⟨ret_bool (by rw [HV.out, HLn.out]; exact Bool.eq_iff_iff.2 (by simp only [decide_eq_true_eq]; omega)), hbw⟩
  · have HV := Lib.hid (mineOk_j (xs := xs) hJ)
    go_enter Try.func12, Try.ntmps12
    go_wp2_with fail; ((with_reducible refine (l00In_any _ _ _ _).mono ?_); rintro e w' ⟨rfl, rfl⟩)
    rw [hJ]
    go_wp2
    go_ret
    exact ⟨ret_bool HV.out.symm, Below.refl _ _⟩
theorem va_q {x : Awy} {b : Bool} (k : awyOk x = b) (hs : x.s.size ≤ maxLen) : ∀ W : World, Calls Try.prog 34 #[.agg #[.string x.s, .int .i64 x.a, .int .i64 x.b, .int .i64 x.l, .int .i64 x.c, .int .i64 x.f, .int .i64 x.h]] W fun e w' => e = .returned (.bool b) ∧ Below W.heap.size W w' :=
  fun W => k ▸ ValidAirway_any x W hs
theorem he_q {x : Awy} {J : Int} {A : Option Addr} {n c : Nat} {b : Bool} (k : (inB x.a 0 (J - 1) && inB x.b 0 (J - 1)) = b) (hJ : -9223372036854775808 < J) (hJ2 : J ≤ 9223372036854775807) : ∀ W : World, Calls Try.prog 35 #[.agg #[.int .i64 J, .slice A n c], .agg #[.string x.s, .int .i64 x.a, .int .i64 x.b, .int .i64 x.l, .int .i64 x.c, .int .i64 x.f, .int .i64 x.h]] W fun e w' => e = .returned (.bool b) ∧ Below W.heap.size W w' :=
  fun W => k ▸ hasEnds_any J A n c x W hJ hJ2
set_option maxHeartbeats 1600000 in
set_option maxRecDepth 100000 in
theorem implValidMine_any (J : Int) (A : Option Addr) (n c : Nat) (xs : List Awy) (w : World) (hr1 : Reads w w.heap.size 7 A n (Awy.recs xs)) (hn : n ≤ 1048576) (hxs : ∀ x ∈ xs, x.s.size ≤ maxLen) :
    Calls Try.prog 17 #[.agg #[.int .i64 J, .slice A n c]] w fun e w' => e = .returned (.bool (mineOk J xs)) ∧ Below w.heap.size w w' := by
  have HM := Lib.hid hxs
  have HLn := Lib.hid (recs_rlen Awy.clen (by omega) hr1)
  have hr : Reads (w.alloc (.cells #[.int .i64 J, .slice A n c] 31)) (w.heap.size + 1) 7 A n (Awy.recs xs) := (hr1.below ((Below.refl _ _).alloc (Nat.le_refl _) _)).more (by omega)
  clear hxs
  rcases Bool.eq_false_or_eq_true (inB J 1 16) with hJ | hJ
  · have HJ := Lib.hid hJ
    obtain ⟨j1, j2⟩ := inB_t hJ
    by_cases h24 : n ≤ 24
    · go_enter Try.func17, Try.ntmps17
      go_wp2_with fail; ((with_reducible refine (within_any _ _ _ _).mono ?_); rintro e w' ⟨rfl, rfl⟩)
      rw [hJ]
      clear hJ
      go_wp2
      go_loopw [18] (fun i wr => ∃ (k : Nat), k ≤ n ∧ i = .int .i64 k ∧ Hid (∀ j, j < k → mnAt J xs j = true) ∧ Below (w.heap.size + 1) (w.alloc (.cells #[.int .i64 J, .slice A n c] 31)) wr) (fun i _ => n - (intOf i).toNat)
      case atStart => exact ⟨0, by omega, rfl, fun j hj => absurd hj (Nat.not_lt_zero _), Below.refl _ _⟩
      case round =>
        obtain ⟨k, hk, rfl, HK, hbw⟩ := hrel
        obtain ⟨wo, rfl⟩ : ∃ wo : World, wo = wr := ⟨_, rfl⟩
        have zo : w.heap.size < wo.heap.size := by have h := hbw.size; simp at h; omega
        have Bw : Below w.heap.size w wo := ((Below.refl _ _).alloc (Nat.le_refl _) _).trans (hbw.mono (by omega))
        have g0 : wo.cell? ⟨w.heap.size, 0, none⟩ = some (.int .i64 J) := (hbw.cell (p := ⟨w.heap.size, 0, none⟩) (by show w.heap.size < _; omega)).trans (by go_simp)
        have g1 : wo.cell? ⟨w.heap.size, 1, none⟩ = some (.slice A n c) := (hbw.cell (p := ⟨w.heap.size, 1, none⟩) (by show w.heap.size < _; omega)).trans (by go_simp)
        by_cases hlt : k < n
        · obtain ⟨ad, x, rfl, had, hx, hc⟩ := (hr.below hbw).rec_at Awy.clen (by omega) hlt
          have HX := Lib.hid hx
          have hm := HM.out x (List.mem_of_getElem? hx)
          have hlx : Hid (k < xs.length) := show k < xs.length by rw [HLn.out]; exact hlt
          have hltI : (k : Int) < (n : Int) := by omega
          obtain ⟨a0, a1, a2, a3, a4, a5, a6⟩ := Awy.open_ hc
          have HCx := Lib.hid hc
          clear hx hc
          have f0 : (wo.alloc (.cells #[.string x.s, .int .i64 x.a, .int .i64 x.b, .int .i64 x.l, .int .i64 x.c, .int .i64 x.f, .int .i64 x.h] 44)).cell? ⟨wo.heap.size, 0, none⟩ = some (.string x.s) := ((Blk.new wo _ _).cell 0).trans rfl
          have f1 : (wo.alloc (.cells #[.string x.s, .int .i64 x.a, .int .i64 x.b, .int .i64 x.l, .int .i64 x.c, .int .i64 x.f, .int .i64 x.h] 44)).cell? ⟨wo.heap.size, 1, none⟩ = some (.int .i64 x.a) := ((Blk.new wo _ _).cell 1).trans rfl
          have f2 : (wo.alloc (.cells #[.string x.s, .int .i64 x.a, .int .i64 x.b, .int .i64 x.l, .int .i64 x.c, .int .i64 x.f, .int .i64 x.h] 44)).cell? ⟨wo.heap.size, 2, none⟩ = some (.int .i64 x.b) := ((Blk.new wo _ _).cell 2).trans rfl
          have f3 : (wo.alloc (.cells #[.string x.s, .int .i64 x.a, .int .i64 x.b, .int .i64 x.l, .int .i64 x.c, .int .i64 x.f, .int .i64 x.h] 44)).cell? ⟨wo.heap.size, 3, none⟩ = some (.int .i64 x.l) := ((Blk.new wo _ _).cell 3).trans rfl
          have f4 : (wo.alloc (.cells #[.string x.s, .int .i64 x.a, .int .i64 x.b, .int .i64 x.l, .int .i64 x.c, .int .i64 x.f, .int .i64 x.h] 44)).cell? ⟨wo.heap.size, 4, none⟩ = some (.int .i64 x.c) := ((Blk.new wo _ _).cell 4).trans rfl
          have f5 : (wo.alloc (.cells #[.string x.s, .int .i64 x.a, .int .i64 x.b, .int .i64 x.l, .int .i64 x.c, .int .i64 x.f, .int .i64 x.h] 44)).cell? ⟨wo.heap.size, 5, none⟩ = some (.int .i64 x.f) := ((Blk.new wo _ _).cell 5).trans rfl
          have f6 : (wo.alloc (.cells #[.string x.s, .int .i64 x.a, .int .i64 x.b, .int .i64 x.l, .int .i64 x.c, .int .i64 x.f, .int .i64 x.h] 44)).cell? ⟨wo.heap.size, 6, none⟩ = some (.int .i64 x.h) := ((Blk.new wo _ _).cell 6).trans rfl
          have f7 : (wo.alloc (.cells #[.string x.s, .int .i64 x.a, .int .i64 x.b, .int .i64 x.l, .int .i64 x.c, .int .i64 x.f, .int .i64 x.h] 44)).cell? ⟨w.heap.size, 0, none⟩ = some (.int .i64 J) := (World.cell?_alloc_lt _ _ _ (block_lt_of_cell g0)).trans g0
          have f8 : (wo.alloc (.cells #[.string x.s, .int .i64 x.a, .int .i64 x.b, .int .i64 x.l, .int .i64 x.c, .int .i64 x.f, .int .i64 x.h] 44)).cell? ⟨w.heap.size, 1, none⟩ = some (.slice (some ad) n c) := (World.cell?_alloc_lt _ _ _ (block_lt_of_cell g1)).trans g1
          rcases Bool.eq_false_or_eq_true (awyOk x) with k0 | k0
          · have HA := Lib.hid (va_q k0 hm)
            rcases Bool.eq_false_or_eq_true (inB x.a 0 (J - 1) && inB x.b 0 (J - 1)) with k1 | k1
            · have HE := Lib.hid (he_q (A := some ad) (n := n) (c := c) k1 (by omega) (by omega))
              rcases Nat.eq_zero_or_pos k with h0 | hpos
              · have HY := Lib.hid (mn_z HX.out k0 k1 h0)
                subst h0
                have hcz : Cells wo ad x.cells := HCx.out
                obtain ⟨b0, b1, b2, b3, b4, b5, b6⟩ := Awy.open_ hcz
                clear hcz k1
                go_wp2
                have m0 := nb_cell f0 (block_lt_of_cell f0)
                have m1 := nb_cell f1 (block_lt_of_cell f1)
                have m2 := nb_cell f2 (block_lt_of_cell f2)
                have m3 := nb_cell f3 (block_lt_of_cell f3)
                have m4 := nb_cell f4 (block_lt_of_cell f4)
                have m5 := nb_cell f5 (block_lt_of_cell f5)
                have m6 := nb_cell f6 (block_lt_of_cell f6)
                have m7 := nb_cell f7 (block_lt_of_cell f7)
                have m8 := nb_cell f8 (block_lt_of_cell f8)
                refine wp_region_nb (by kernel_rfl) (by kernel_rfl) ?_
                repeat (go_big_quiet_step ((first | (go_at_call 34; exact nb_call (HA.out _)) | (go_at_call 35; exact nb_call (HE.out _)))))
                refine wpQuiet_nil ?_
                intro w3 hw3
                have hb3 := nb_out hw3
                clear hw3
                clear m0 m1 m2 m3 m4 m5 m6 m7 m8
                have B3 : Below (w.heap.size + 1) (w.alloc (.cells #[.int .i64 J, .slice (some ad) n c] 31)) w3 := (hbw.alloc (by omega) (.cells #[.string x.s, .int .i64 x.a, .int .i64 x.b, .int .i64 x.l, .int .i64 x.c, .int .i64 x.f, .int .i64 x.h] 44)).trans (hb3.mono (by simp; omega))
                go_wp2
                go_roundw
                case rel => exact ⟨1, by omega, by go_num, upto_succ1 HK.out HY.out, B3⟩
                case measure => simp [intOf]; omega
              · obtain ⟨j, hj⟩ : ∃ j, Hid (k = j + 1) := ⟨k - 1, show k = k - 1 + 1 by omega⟩
                have hjn : j < n := by have := hj.out; omega
                have hwj : IntKind.i64.wrap ((k : Int) - 1) = (j : Int) := by have := hj.out; rw [IntWalk.i64_in _ (by omega)]; omega
                have hk0 : decide ((0 : Int) < (k : Int)) = true := decide_eq_true (by omega)
                have hjI : (j : Int) < (n : Int) := by omega
                obtain ⟨ad', y, e1, had', hy, hcy⟩ := (hr.below hbw).rec_at Awy.clen (by omega) hjn
                injection e1 with e1
                subst e1
                have HYy := Lib.hid hy
                have b0 := hcy.z rfl
                have f9 : (wo.alloc (.cells #[.string x.s, .int .i64 x.a, .int .i64 x.b, .int .i64 x.l, .int .i64 x.c, .int .i64 x.f, .int .i64 x.h] 44)).cell? (ad.add (j * 7)) = some (.string y.s) := (World.cell?_alloc_lt _ _ _ (block_lt_of_cell b0)).trans b0
                clear hy hcy
                have hle := leq_lt y.s.toList x.s.toList
                cases hl : Op.bytesLess y.s.toList x.s.toList <;> rw [hl] at hle <;> cases q1 : Op.bytesLess x.s.toList y.s.toList <;> cases q2 : (x.s.toList == y.s.toList) <;> rw [q1, q2] at hle <;> first | (exact absurd hle (by decide)) | skip
                · have HY := Lib.hid (mn_p (J := J) HX.out hj.out HYy.out hl)
                  clear hle hl k1
                  go_wp2
                  have m0 := nb_cell f0 (block_lt_of_cell f0)
                  have m1 := nb_cell f1 (block_lt_of_cell f1)
                  have m2 := nb_cell f2 (block_lt_of_cell f2)
                  have m3 := nb_cell f3 (block_lt_of_cell f3)
                  have m4 := nb_cell f4 (block_lt_of_cell f4)
                  have m5 := nb_cell f5 (block_lt_of_cell f5)
                  have m6 := nb_cell f6 (block_lt_of_cell f6)
                  have m7 := nb_cell f7 (block_lt_of_cell f7)
                  have m8 := nb_cell f8 (block_lt_of_cell f8)
                  have m9 := nb_cell f9 (block_lt_of_cell f9)
                  refine wp_region_nb (by kernel_rfl) (by kernel_rfl) ?_
                  repeat (go_big_quiet_step ((first | (go_at_call 34; exact nb_call (HA.out _)) | (go_at_call 35; exact nb_call (HE.out _)))))
                  refine wpQuiet_nil ?_
                  intro w3 hw3
                  have hb3 := nb_out hw3
                  clear hw3
                  clear m0 m1 m2 m3 m4 m5 m6 m7 m8 m9
                  have B3 : Below (w.heap.size + 1) (w.alloc (.cells #[.int .i64 J, .slice (some ad) n c] 31)) w3 := (hbw.alloc (by omega) (.cells #[.string x.s, .int .i64 x.a, .int .i64 x.b, .int .i64 x.l, .int .i64 x.c, .int .i64 x.f, .int .i64 x.h] 44)).trans (hb3.mono (by simp; omega))
                  go_wp2
                  go_ret
                  exact ⟨ret_bool (mineOk_k hlx.out HY.out).symm, ((Below.refl _ _).alloc (Nat.le_refl _) _).trans (B3.mono (by omega))⟩
                · have HY := Lib.hid (mn_p (J := J) HX.out hj.out HYy.out hl)
                  clear hle hl k1
                  go_wp2
                  have m0 := nb_cell f0 (block_lt_of_cell f0)
                  have m1 := nb_cell f1 (block_lt_of_cell f1)
                  have m2 := nb_cell f2 (block_lt_of_cell f2)
                  have m3 := nb_cell f3 (block_lt_of_cell f3)
                  have m4 := nb_cell f4 (block_lt_of_cell f4)
                  have m5 := nb_cell f5 (block_lt_of_cell f5)
                  have m6 := nb_cell f6 (block_lt_of_cell f6)
                  have m7 := nb_cell f7 (block_lt_of_cell f7)
                  have m8 := nb_cell f8 (block_lt_of_cell f8)
                  have m9 := nb_cell f9 (block_lt_of_cell f9)
                  refine wp_region_nb (by kernel_rfl) (by kernel_rfl) ?_
                  repeat (go_big_quiet_step ((first | (go_at_call 34; exact nb_call (HA.out _)) | (go_at_call 35; exact nb_call (HE.out _)))))
                  refine wpQuiet_nil ?_
                  intro w3 hw3
                  have hb3 := nb_out hw3
                  clear hw3
                  clear m0 m1 m2 m3 m4 m5 m6 m7 m8 m9
                  have B3 : Below (w.heap.size + 1) (w.alloc (.cells #[.int .i64 J, .slice (some ad) n c] 31)) w3 := (hbw.alloc (by omega) (.cells #[.string x.s, .int .i64 x.a, .int .i64 x.b, .int .i64 x.l, .int .i64 x.c, .int .i64 x.f, .int .i64 x.h] 44)).trans (hb3.mono (by simp; omega))
                  go_wp2
                  go_ret
                  exact ⟨ret_bool (mineOk_k hlx.out HY.out).symm, ((Below.refl _ _).alloc (Nat.le_refl _) _).trans (B3.mono (by omega))⟩
                · have HY := Lib.hid (mn_p (J := J) HX.out hj.out HYy.out hl)
                  clear hle hl k1
                  go_wp2
                  have m0 := nb_cell f0 (block_lt_of_cell f0)
                  have m1 := nb_cell f1 (block_lt_of_cell f1)
                  have m2 := nb_cell f2 (block_lt_of_cell f2)
                  have m3 := nb_cell f3 (block_lt_of_cell f3)
                  have m4 := nb_cell f4 (block_lt_of_cell f4)
                  have m5 := nb_cell f5 (block_lt_of_cell f5)
                  have m6 := nb_cell f6 (block_lt_of_cell f6)
                  have m7 := nb_cell f7 (block_lt_of_cell f7)
                  have m8 := nb_cell f8 (block_lt_of_cell f8)
                  have m9 := nb_cell f9 (block_lt_of_cell f9)
                  refine wp_region_nb (by kernel_rfl) (by kernel_rfl) ?_
                  repeat (go_big_quiet_step ((first | (go_at_call 34; exact nb_call (HA.out _)) | (go_at_call 35; exact nb_call (HE.out _)))))
                  refine wpQuiet_nil ?_
                  intro w3 hw3
                  have hb3 := nb_out hw3
                  clear hw3
                  clear m0 m1 m2 m3 m4 m5 m6 m7 m8 m9
                  have B3 : Below (w.heap.size + 1) (w.alloc (.cells #[.int .i64 J, .slice (some ad) n c] 31)) w3 := (hbw.alloc (by omega) (.cells #[.string x.s, .int .i64 x.a, .int .i64 x.b, .int .i64 x.l, .int .i64 x.c, .int .i64 x.f, .int .i64 x.h] 44)).trans (hb3.mono (by simp; omega))
                  go_wp2
                  go_ret
                  exact ⟨ret_bool (mineOk_k hlx.out HY.out).symm, ((Below.refl _ _).alloc (Nat.le_refl _) _).trans (B3.mono (by omega))⟩
                · have HY := Lib.hid (mn_y (J := J) HX.out k0 k1 hj.out HYy.out hl)
                  clear hle hl k1
                  go_wp2
                  have m0 := nb_cell f0 (block_lt_of_cell f0)
                  have m1 := nb_cell f1 (block_lt_of_cell f1)
                  have m2 := nb_cell f2 (block_lt_of_cell f2)
                  have m3 := nb_cell f3 (block_lt_of_cell f3)
                  have m4 := nb_cell f4 (block_lt_of_cell f4)
                  have m5 := nb_cell f5 (block_lt_of_cell f5)
                  have m6 := nb_cell f6 (block_lt_of_cell f6)
                  have m7 := nb_cell f7 (block_lt_of_cell f7)
                  have m8 := nb_cell f8 (block_lt_of_cell f8)
                  have m9 := nb_cell f9 (block_lt_of_cell f9)
                  refine wp_region_nb (by kernel_rfl) (by kernel_rfl) ?_
                  repeat (go_big_quiet_step ((first | (go_at_call 34; exact nb_call (HA.out _)) | (go_at_call 35; exact nb_call (HE.out _)))))
                  refine wpQuiet_nil ?_
                  intro w3 hw3
                  have hb3 := nb_out hw3
                  clear hw3
                  clear m0 m1 m2 m3 m4 m5 m6 m7 m8 m9
                  have B3 : Below (w.heap.size + 1) (w.alloc (.cells #[.int .i64 J, .slice (some ad) n c] 31)) w3 := (hbw.alloc (by omega) (.cells #[.string x.s, .int .i64 x.a, .int .i64 x.b, .int .i64 x.l, .int .i64 x.c, .int .i64 x.f, .int .i64 x.h] 44)).trans (hb3.mono (by simp; omega))
                  go_wp2
                  go_roundw
                  case rel => exact ⟨k + 1, by omega, by go_num, upto_succ1 HK.out HY.out, B3⟩
                  case measure => simp [intOf]; omega
            · have HE := Lib.hid (he_q (A := some ad) (n := n) (c := c) k1 (by omega) (by omega))
              have HY := Lib.hid (mn_a (J := J) HX.out k1)
              clear k1
              go_wp2
              have m0 := nb_cell f0 (block_lt_of_cell f0)
              have m1 := nb_cell f1 (block_lt_of_cell f1)
              have m2 := nb_cell f2 (block_lt_of_cell f2)
              have m3 := nb_cell f3 (block_lt_of_cell f3)
              have m4 := nb_cell f4 (block_lt_of_cell f4)
              have m5 := nb_cell f5 (block_lt_of_cell f5)
              have m6 := nb_cell f6 (block_lt_of_cell f6)
              have m7 := nb_cell f7 (block_lt_of_cell f7)
              have m8 := nb_cell f8 (block_lt_of_cell f8)
              refine wp_region_nb (by kernel_rfl) (by kernel_rfl) ?_
              repeat (go_big_quiet_step ((first | (go_at_call 34; exact nb_call (HA.out _)) | (go_at_call 35; exact nb_call (HE.out _)))))
              refine wpQuiet_nil ?_
              intro w3 hw3
              have hb3 := nb_out hw3
              clear hw3
              clear m0 m1 m2 m3 m4 m5 m6 m7 m8
              have B3 : Below (w.heap.size + 1) (w.alloc (.cells #[.int .i64 J, .slice (some ad) n c] 31)) w3 := (hbw.alloc (by omega) (.cells #[.string x.s, .int .i64 x.a, .int .i64 x.b, .int .i64 x.l, .int .i64 x.c, .int .i64 x.f, .int .i64 x.h] 44)).trans (hb3.mono (by simp; omega))
              go_wp2
              go_ret
              exact ⟨ret_bool (mineOk_k hlx.out HY.out).symm, ((Below.refl _ _).alloc (Nat.le_refl _) _).trans (B3.mono (by omega))⟩
          · have HA := Lib.hid (va_q k0 hm)
            have HY := Lib.hid (mn_o (J := J) HX.out k0)
            go_wp2
            have m0 := nb_cell f0 (block_lt_of_cell f0)
            have m1 := nb_cell f1 (block_lt_of_cell f1)
            have m2 := nb_cell f2 (block_lt_of_cell f2)
            have m3 := nb_cell f3 (block_lt_of_cell f3)
            have m4 := nb_cell f4 (block_lt_of_cell f4)
            have m5 := nb_cell f5 (block_lt_of_cell f5)
            have m6 := nb_cell f6 (block_lt_of_cell f6)
            have m7 := nb_cell f7 (block_lt_of_cell f7)
            have m8 := nb_cell f8 (block_lt_of_cell f8)
            refine wp_region_nb (by kernel_rfl) (by kernel_rfl) ?_
            repeat (go_big_quiet_step ((((go_at_call 34; exact nb_call (HA.out _))))))
            refine wpQuiet_nil ?_
            intro w3 hw3
            have hb3 := nb_out hw3
            clear hw3
            clear m0 m1 m2 m3 m4 m5 m6 m7 m8
            have B3 : Below (w.heap.size + 1) (w.alloc (.cells #[.int .i64 J, .slice (some ad) n c] 31)) w3 := (hbw.alloc (by omega) (.cells #[.string x.s, .int .i64 x.a, .int .i64 x.b, .int .i64 x.l, .int .i64 x.c, .int .i64 x.f, .int .i64 x.h] 44)).trans (hb3.mono (by simp; omega))
            go_wp2
            go_ret
            exact ⟨ret_bool (mineOk_k hlx.out HY.out).symm, ((Below.refl _ _).alloc (Nat.le_refl _) _).trans (B3.mono (by omega))⟩
        · have e : k = n := by omega
          have HV : Hid (mineOk J xs = true) := show _ = _ by rw [mineOk_y HJ.out (by rw [HLn.out, ← e]; exact HK.out), HLn.out]; exact decide_eq_true h24
          clear e
          go_wp2
          go_ret
          exact ⟨ret_bool HV.out.symm, Bw⟩
    · have HV := Lib.hid (mineOk_l (J := J) (xs := xs) (by rw [HLn.out]; omega))
      go_enter Try.func17, Try.ntmps17
      go_wp2_with fail; ((with_reducible refine (within_any _ _ _ _).mono ?_); rintro e w' ⟨rfl, rfl⟩)
      rw [hJ]
      go_wp2
      go_ret
      exact ⟨ret_bool HV.out.symm, by (repeat (first | exact Below.refl _ _ | assumption | (refine Below.alloc ?_ (by first | exact Nat.le_refl _ | (simp; done) | (simp; omega)) _) | (refine below_drewN ?_ _) | (refine Below.trans ?_ (Below.mono (by assumption) (by first | exact Nat.le_refl _ | (simp; done) | (simp; omega) | omega)))))⟩
  · have HV := Lib.hid (mineOk_j (xs := xs) hJ)
    go_enter Try.func17, Try.ntmps17
    go_wp2_with fail; ((with_reducible refine (within_any _ _ _ _).mono ?_); rintro e w' ⟨rfl, rfl⟩)
    rw [hJ]
    go_wp2
    go_ret
    exact ⟨ret_bool HV.out.symm, by (repeat (first | exact Below.refl _ _ | assumption | (refine Below.alloc ?_ (by first | exact Nat.le_refl _ | (simp; done) | (simp; omega)) _) | (refine below_drewN ?_ _) | (refine Below.trans ?_ (Below.mono (by assumption) (by first | exact Nat.le_refl _ | (simp; done) | (simp; omega) | omega)))))⟩
end Go.Proofs.Ytnfallanjndbcaa
