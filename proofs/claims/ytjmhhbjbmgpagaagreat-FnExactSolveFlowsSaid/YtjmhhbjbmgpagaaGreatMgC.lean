/- Several texts in one: Fan FanH MkR Fans FrF MkF Awy. -/
import Derived.Test.YtjmhhbjbmgpagaaGreatMgB
/- Contracts of a fan: its curve, its validity; equal fans. -/
namespace Go.Proofs.YtjmhhbjbmgpagaaGreat
set_option linter.unusedVariables false
set_option linter.unusedSimpArgs false
open Go.RowKit
theorem upto_one {f : Nat → Bool} (h : f 0 = true) : ∀ j, j < 1 → f j = true := by
  intro j hj
  obtain rfl : j = 0 := by omega
  exact h
def crvAt (ls : List (List Int)) (k : Nat) : Bool :=
  decide (lockN ls k = 2) && inB (lockA ls k) 0 100000 && inB (lockB ls k) 0 10000 && (decide (k = 0) || decide (lockA ls (k - 1) < lockA ls k ∧ lockB ls k ≤ lockB ls (k - 1)))
def crvOk (ls : List (List Int)) : Bool := decide (2 ≤ ls.length ∧ ls.length ≤ 8) && allUpto ls.length (crvAt ls)
theorem crv_n {ls : List (List Int)} {k : Nat} (h : lockN ls k ≠ 2) : crvAt ls k = false := by unfold crvAt; rw [decide_eq_false h]; rfl
theorem crv_a {ls : List (List Int)} {k : Nat} (h : inB (lockA ls k) 0 100000 = false) : crvAt ls k = false := by unfold crvAt; rw [h]; simp
theorem crv_b {ls : List (List Int)} {k : Nat} (h : inB (lockB ls k) 0 10000 = false) : crvAt ls k = false := by unfold crvAt; rw [h]; simp
theorem crv_x {ls : List (List Int)} {k : Nat} (h0 : k ≠ 0) (h : lockA ls k ≤ lockA ls (k - 1)) : crvAt ls k = false := by
  unfold crvAt; rw [decide_eq_false h0, decide_eq_false (show ¬ (lockA ls (k - 1) < lockA ls k ∧ lockB ls k ≤ lockB ls (k - 1)) by omega)]; simp
theorem crv_y {ls : List (List Int)} {k : Nat} (h0 : k ≠ 0) (h : lockB ls (k - 1) < lockB ls k) : crvAt ls k = false := by
  unfold crvAt; rw [decide_eq_false h0, decide_eq_false (show ¬ (lockA ls (k - 1) < lockA ls k ∧ lockB ls k ≤ lockB ls (k - 1)) by omega)]; simp
theorem crv_ok {ls : List (List Int)} {k : Nat} (h1 : lockN ls k = 2) (h2 : inB (lockA ls k) 0 100000 = true) (h3 : inB (lockB ls k) 0 10000 = true) (h4 : k = 0 ∨ (lockA ls (k - 1) < lockA ls k ∧ lockB ls k ≤ lockB ls (k - 1))) : crvAt ls k = true := by
  unfold crvAt; rw [decide_eq_true h1, h2, h3]
  rcases h4 with h | h
  · rw [decide_eq_true h]; rfl
  · rw [decide_eq_true h]; simp
theorem crv_t {ls : List (List Int)} {k : Nat} (h : crvAt ls k = true) : lockN ls k = 2 ∧ 0 ≤ lockA ls k ∧ lockA ls k ≤ 100000 ∧ 0 ≤ lockB ls k ∧ lockB ls k ≤ 10000 ∧ (k = 0 ∨ (lockA ls (k - 1) < lockA ls k ∧ lockB ls k ≤ lockB ls (k - 1))) := by
  unfold crvAt at h
  simp only [Bool.and_eq_true, Bool.or_eq_true, decide_eq_true_eq] at h
  have h1 := inB_t h.1.1.2
  have h2 := inB_t h.1.2
  exact ⟨h.1.1.1, h1.1, h1.2, h2.1, h2.2, h.2⟩
theorem crv_two {ls : List (List Int)} {k : Nat} (h : crvAt ls k = true) : lockN ls k = 2 := (crv_t h).1
theorem crv_some {ls : List (List Int)} {k : Nat} (hk : k < ls.length) (h : crvAt ls k = false) : crvOk ls = false := by unfold crvOk; rw [allUpto_f hk h, Bool.and_false]
theorem crvOk_t {ls : List (List Int)} (h : crvOk ls = true) : 2 ≤ ls.length ∧ ls.length ≤ 8 ∧ ∀ k, k < ls.length → crvAt ls k = true := by
  unfold crvOk at h
  simp only [Bool.and_eq_true, decide_eq_true_eq] at h
  exact ⟨h.1.1, h.1.2, fun k hk => allUpto_get h.2 hk⟩
def fanOk (s : ByteArray) (a : Int) (ls : List (List Int)) : Bool := isName s && inB a 0 23 && crvOk ls
theorem fanOk_t {s : ByteArray} {a : Int} {ls : List (List Int)} (h : fanOk s a ls = true) : isName s = true ∧ (0 ≤ a ∧ a ≤ 23) ∧ crvOk ls = true := by
  unfold fanOk at h
  simp only [Bool.and_eq_true] at h
  exact ⟨h.1.1, inB_t h.1.2, h.2⟩
set_option maxHeartbeats 6400000 in
set_option maxRecDepth 100000 in
theorem l06Curve_any (A : Option Addr) (n c : Nat) (rs : List Row) (w : World) (hr : RSS w w.heap.size A n rs) (hn : n ≤ 1048576) (hrn : ∀ r ∈ rs, r.n ≤ 1048576) :
    Calls Tryz.prog 87 #[.slice A n c] w fun e w' => e = .returned (.bool (crvOk (dat rs))) ∧ Below w.heap.size w w' := by
  have HM := Lib.hid hrn
  clear hrn
  have HLn : Hid ((dat rs).length = n) := show (dat rs).length = n by rw [dat_len]; exact hr.len
  go_enter Tryz.func87, Tryz.ntmps87
  go_wp2
  go_loopw [3] (fun i wr => ∃ (k : Nat), k ≤ n ∧ i = .int .i64 k ∧ Hid (∀ j, j < k → crvAt (dat rs) j = true) ∧ Below w.heap.size w wr) (fun i _ => n - (intOf i).toNat)
  case atStart => exact ⟨0, by omega, rfl, fun j hj => absurd hj (Nat.not_lt_zero _), Below.refl _ _⟩
  case round =>
    obtain ⟨k, hk, rfl, HK, hbw⟩ := hrel
    by_cases hlt : k < n
    · obtain ⟨ad, r, rfl, hx, hc, hrr⟩ := (hr.below hbw).at_ hlt
      obtain ⟨x1, x2, x3⟩ := lock_row (dat_at hx)
      have hlr := ints_len hrr
      by_cases h2 : r.xs.length = 2
      · obtain ⟨ra, hra, hn2, c0, c0', c1⟩ := open_two hrr h2
        rw [← x2] at c0 c0'
        rw [← x3] at c1
        rw [hra] at hc
        have X1 : Hid (lockN (dat rs) k = 2) := x1.trans h2
        have hrn2 : ((r.n : Int) != 2) = false := by rw [hn2]; rfl
        have hrn0 : (0 : Int) < (r.n : Int) := by omega
        have hrn1 : (1 : Int) < (r.n : Int) := by omega
        clear x1 x2 x3 hra hn2 hlr h2
        rcases Bool.eq_false_or_eq_true (inB (lockA (dat rs) k) 0 100000) with hA | hA
        · rcases Bool.eq_false_or_eq_true (inB (lockB (dat rs) k) 0 10000) with hB | hB
          · rcases Nat.eq_zero_or_pos k with h0 | hpos
            · subst h0
              have hcz : wr.cell? ad = some (.slice (some ra) r.n r.c) := hc
              have HY : Hid (crvAt (dat rs) 0 = true) := crv_ok X1.out hA hB (.inl rfl)
              go_wp2
              go_quiet (((go_at_call 22; first | exact quietB' (l00In_any _ _ _ _) hA | exact quietB' (l00In_any _ _ _ _) hB)))
              go_wp2
              go_roundw
              case rel => exact ⟨1, by omega, by go_num, upto_one HY.out, below_drewN hbw _⟩
              case measure => simp [intOf]; omega
            · obtain ⟨j, hj⟩ : ∃ j, Hid (k = j + 1) := ⟨k - 1, show k = k - 1 + 1 by omega⟩
              have hjn : j < n := by have := hj.out; omega
              have hwj : IntKind.i64.wrap ((k : Int) - 1) = (j : Int) := by have := hj.out; rw [IntWalk.i64_in _ (by omega)]; omega
              have hjk : Hid (k - 1 = j) := show k - 1 = j by have := hj.out; omega
              have hk0 : decide ((0 : Int) < (k : Int)) = true := decide_eq_true (by omega)
              have hjI : (j : Int) < (n : Int) := by omega
              obtain ⟨ad', q, e1, hx', hcq, hqq⟩ := (hr.below hbw).at_ hjn
              injection e1 with e1
              subst e1
              obtain ⟨y1, y2, y3⟩ := lock_row (dat_at hx')
              have z1 := crv_two (HK.out j (by have := hj.out; omega))
              obtain ⟨qa, hQ, qn2, q0, q0', q1⟩ := open_two hqq (by rw [← y1]; exact z1)
              rw [← y2] at q0 q0'
              rw [← y3] at q1
              rw [hQ] at hcq
              have hqn0 : (0 : Int) < (q.n : Int) := by omega
              have hqn1 : (1 : Int) < (q.n : Int) := by omega
              clear y1 y2 y3 z1 hQ qn2 hx'
              by_cases m1 : lockA (dat rs) k ≤ lockA (dat rs) j
              · have d1 : decide (lockA (dat rs) k ≤ lockA (dat rs) j) = true := decide_eq_true m1
                have HY : Hid (crvAt (dat rs) k = false) := crv_x (by have := hj.out; omega) (by rw [hjk.out]; omega)
                go_wp2
                go_quiet (((go_at_call 22; first | exact quietB' (l00In_any _ _ _ _) hA | exact quietB' (l00In_any _ _ _ _) hB)))
                go_wp2
                go_ret
                exact ⟨ret_bool ((crv_some (by rw [HLn.out]; exact hlt) HY.out).symm), below_drewN hbw _⟩
              · have d1 : decide (lockA (dat rs) k ≤ lockA (dat rs) j) = false := decide_eq_false m1
                by_cases m2 : lockB (dat rs) j < lockB (dat rs) k
                · have d2 : decide (lockB (dat rs) j < lockB (dat rs) k) = true := decide_eq_true m2
                  have HY : Hid (crvAt (dat rs) k = false) := crv_y (by have := hj.out; omega) (by rw [hjk.out]; omega)
                  go_wp2
                  go_quiet (((go_at_call 22; first | exact quietB' (l00In_any _ _ _ _) hA | exact quietB' (l00In_any _ _ _ _) hB)))
                  go_wp2
                  go_ret
                  exact ⟨ret_bool ((crv_some (by rw [HLn.out]; exact hlt) HY.out).symm), below_drewN hbw _⟩
                · have d2 : decide (lockB (dat rs) j < lockB (dat rs) k) = false := decide_eq_false m2
                  have HY : Hid (crvAt (dat rs) k = true) := crv_ok X1.out hA hB (.inr (by rw [hjk.out]; omega))
                  go_wp2
                  go_quiet (((go_at_call 22; first | exact quietB' (l00In_any _ _ _ _) hA | exact quietB' (l00In_any _ _ _ _) hB)))
                  go_wp2
                  go_roundw
                  case rel => exact ⟨k + 1, by omega, by go_num, upto_succ HK.out HY.out, below_drewN hbw _⟩
                  case measure => simp [intOf]; omega
          · have HY : Hid (crvAt (dat rs) k = false) := crv_b hB
            go_wp2
            go_quiet (((go_at_call 22; first | exact quietB' (l00In_any _ _ _ _) hA | exact quietB' (l00In_any _ _ _ _) hB)))
            go_wp2
            go_ret
            exact ⟨ret_bool ((crv_some (by rw [HLn.out]; exact hlt) HY.out).symm), below_drewN hbw _⟩
        · have HY : Hid (crvAt (dat rs) k = false) := crv_a hA
          have hB := hA
          go_wp2
          go_quiet (((go_at_call 22; first | exact quietB' (l00In_any _ _ _ _) hA | exact quietB' (l00In_any _ _ _ _) hB)))
          go_wp2
          go_ret
          exact ⟨ret_bool ((crv_some (by rw [HLn.out]; exact hlt) HY.out).symm), below_drewN hbw _⟩
      · have HY : Hid (crvAt (dat rs) k = false) := crv_n (by rw [x1]; exact h2)
        have hrn2 : ((r.n : Int) != 2) = true := by rw [bne_iff_ne]; omega
        clear x1 x2 x3
        go_wp2
        go_quiet (fail)
        go_wp2
        go_ret
        exact ⟨ret_bool ((crv_some (by rw [HLn.out]; exact hlt) HY.out).symm), below_drewN hbw _⟩
    · have e : k = n := by omega
      subst e
      have HV : Hid (crvOk (dat rs) = decide (2 ≤ k ∧ k ≤ 8)) := show crvOk (dat rs) = _ by unfold crvOk; rw [HLn.out, allUpto_t HK.out, Bool.and_true]
      by_cases h2 : 2 ≤ k
      · go_wp2
        go_ret
        exact ⟨ret_bool (by rw [HV.out]; exact Bool.eq_iff_iff.2 (by simp only [decide_eq_true_eq]; omega)), hbw⟩
      · go_wp2
        go_ret
        exact ⟨ret_bool (by rw [HV.out]; exact (decide_eq_false (by omega)).symm), hbw⟩
theorem l06Ok_any (s : ByteArray) (a : Int) (A : Option Addr) (n c : Nat) (rs : List Row) (p : Addr) (w : World) (hs : s.size ≤ maxLen) (hr : RSS w w.heap.size A n rs) (hn : n ≤ 1048576) (hrn : ∀ r ∈ rs, r.n ≤ 1048576) (hc : Cells w p [.string s, .int .i64 a, .slice A n c]) :
    Calls Tryz.prog 54 #[.pointer (some p)] w fun e w' => e = .returned (.bool (fanOk s a (dat rs))) ∧ Below w.heap.size w w' := by
  have h0 := hc.z rfl
  have h1 := hc.at_ 0 rfl
  have h2 := hc.at_ 1 rfl
  have cc := l06Curve_any A n c rs w hr hn hrn
  clear hc hrn
  rcases Bool.eq_false_or_eq_true (isName s) with k0 | k0
  · rcases Bool.eq_false_or_eq_true (inB a 0 23) with k1 | k1
    · have HV : Hid (fanOk s a (dat rs) = crvOk (dat rs)) := show _ = _ by unfold fanOk; rw [k0, k1]; rfl
      go_enter Tryz.func54, Tryz.ntmps54
      go_wp2_with fail; ((with_reducible refine (l01Name_any _ _ hs).mono ?_); rintro e w' ⟨rfl, rfl⟩)
      go_wp2_with fail; ((with_reducible refine (l00In_any _ _ _ _).mono ?_); rintro e w' ⟨rfl, rfl⟩)
      go_wp2_with fail; ((with_reducible refine cc.mono ?_); rintro e w1 ⟨rfl, hb1⟩)
      go_wp2
      go_ret
      exact ⟨ret_bool HV.out.symm, hb1⟩
    · have HV : Hid (fanOk s a (dat rs) = false) := show _ = _ by unfold fanOk; rw [k1]; simp
      go_enter Tryz.func54, Tryz.ntmps54
      go_wp2_with fail; ((with_reducible refine (l01Name_any _ _ hs).mono ?_); rintro e w' ⟨rfl, rfl⟩)
      go_wp2_with fail; ((with_reducible refine (l00In_any _ _ _ _).mono ?_); rintro e w' ⟨rfl, rfl⟩)
      go_wp2
      go_ret
      exact ⟨ret_bool HV.out.symm, Below.refl _ _⟩
  · have HV : Hid (fanOk s a (dat rs) = false) := show _ = _ by unfold fanOk; rw [k0]; simp
    go_enter Tryz.func54, Tryz.ntmps54
    go_wp2_with fail; ((with_reducible refine (l01Name_any _ _ hs).mono ?_); rintro e w' ⟨rfl, rfl⟩)
    go_wp2
    go_ret
    exact ⟨ret_bool HV.out.symm, Below.refl _ _⟩
set_option maxHeartbeats 6400000 in
set_option maxRecDepth 100000 in
theorem implValidFan_any (s : ByteArray) (a : Int) (A : Option Addr) (n c : Nat) (rs : List Row) (w : World) (hs : s.size ≤ maxLen) (hr1 : RSS w w.heap.size A n rs) (hn : n ≤ 1048576) (hrn : ∀ r ∈ rs, r.n ≤ 1048576) :
    Calls Tryz.prog 69 #[.agg #[.string s, .int .i64 a, .slice A n c]] w fun e w' => e = .returned (.bool (fanOk s a (dat rs))) ∧ Below w.heap.size w w' := by
  have HM := Lib.hid hrn
  clear hrn
  have HLn : Hid ((dat rs).length = n) := show (dat rs).length = n by rw [dat_len]; exact hr1.len
  have hr : RSS (w.alloc (.cells #[.string s, .int .i64 a, .slice A n c] 58)) (w.heap.size + 1) A n rs := (hr1.below ((Below.refl _ _).alloc (Nat.le_refl _) _)).more (by omega)
  rcases Bool.eq_false_or_eq_true (isName s) with k0 | k0
  · rcases Bool.eq_false_or_eq_true (inB a 0 23) with k1 | k1
    · by_cases h2 : 2 ≤ n
      · by_cases h8 : n ≤ 8
        · have HE : Hid (fanOk s a (dat rs) = allUpto n (crvAt (dat rs))) := show _ = _ by unfold fanOk crvOk; rw [k0, k1, HLn.out, decide_eq_true (And.intro h2 h8)]; simp
          go_enter Tryz.func69, Tryz.ntmps69
          go_wp2_with fail; ((with_reducible refine (isName_any _ _ hs).mono ?_); rintro e w' ⟨rfl, rfl⟩)
          go_wp2_with fail; ((with_reducible refine (within_any _ _ _ _).mono ?_); rintro e w' ⟨rfl, rfl⟩)
          go_wp2
          go_loopw [30] (fun i wr => ∃ (k : Nat), k ≤ n ∧ i = .int .i64 k ∧ Hid (∀ j, j < k → crvAt (dat rs) j = true) ∧ Below (w.heap.size + 1) (w.alloc (.cells #[.string s, .int .i64 a, .slice A n c] 58)) wr) (fun i _ => n - (intOf i).toNat)
          case atStart => exact ⟨0, by omega, rfl, fun j hj => absurd hj (Nat.not_lt_zero _), Below.refl _ _⟩
          case round =>
            obtain ⟨k, hk, rfl, HK, hbw⟩ := hrel
            have Bw : Below w.heap.size w wr := ((Below.refl _ _).alloc (Nat.le_refl _) _).trans (hbw.mono (by omega))
            by_cases hlt : k < n
            · obtain ⟨ad, r, rfl, hx, hc, hrr⟩ := (hr.below hbw).at_ hlt
              obtain ⟨x1, x2, x3⟩ := lock_row (dat_at hx)
              have hlr := ints_len hrr
              have hbox : wr.cell? ⟨w.heap.size, 2, none⟩ = some (.slice (some ad) n c) := (hbw.cell (p := ⟨w.heap.size, 2, none⟩) (by show w.heap.size < _; omega)).trans (by go_simp)
              by_cases h2 : r.xs.length = 2
              · obtain ⟨ra, hra, hn2, c0, c0', c1⟩ := open_two hrr h2
                rw [← x2] at c0 c0'
                rw [← x3] at c1
                rw [hra] at hc
                have X1 : Hid (lockN (dat rs) k = 2) := x1.trans h2
                have hrn2 : ((r.n : Int) != 2) = false := by rw [hn2]; rfl
                have hrn0 : (0 : Int) < (r.n : Int) := by omega
                have hrn1 : (1 : Int) < (r.n : Int) := by omega
                clear x1 x2 x3 hra hn2 hlr h2
                rcases Bool.eq_false_or_eq_true (inB (lockA (dat rs) k) 0 100000) with hA | hA
                · rcases Bool.eq_false_or_eq_true (inB (lockB (dat rs) k) 0 10000) with hB | hB
                  · rcases Nat.eq_zero_or_pos k with h0 | hpos
                    · subst h0
                      have hcz : wr.cell? ad = some (.slice (some ra) r.n r.c) := hc
                      have HY : Hid (crvAt (dat rs) 0 = true) := crv_ok X1.out hA hB (.inl rfl)
                      go_wp2
                      go_quiet (((go_at_call 33; first | exact quietB' (within_any _ _ _ _) hA | exact quietB' (within_any _ _ _ _) hB)))
                      go_wp2
                      go_roundw
                      case rel => exact ⟨1, by omega, by go_num, upto_one HY.out, below_drewN hbw _⟩
                      case measure => simp [intOf]; omega
                    · obtain ⟨j, hj⟩ : ∃ j, Hid (k = j + 1) := ⟨k - 1, show k = k - 1 + 1 by omega⟩
                      have hjn : j < n := by have := hj.out; omega
                      have hwj : IntKind.i64.wrap ((k : Int) - 1) = (j : Int) := by have := hj.out; rw [IntWalk.i64_in _ (by omega)]; omega
                      have hjk : Hid (k - 1 = j) := show k - 1 = j by have := hj.out; omega
                      have hk0 : decide ((0 : Int) < (k : Int)) = true := decide_eq_true (by omega)
                      have hjI : (j : Int) < (n : Int) := by omega
                      obtain ⟨ad', q, e1, hx', hcq, hqq⟩ := (hr.below hbw).at_ hjn
                      injection e1 with e1
                      subst e1
                      obtain ⟨y1, y2, y3⟩ := lock_row (dat_at hx')
                      have z1 := crv_two (HK.out j (by have := hj.out; omega))
                      obtain ⟨qa, hQ, qn2, q0, q0', q1⟩ := open_two hqq (by rw [← y1]; exact z1)
                      rw [← y2] at q0 q0'
                      rw [← y3] at q1
                      rw [hQ] at hcq
                      have hqn0 : (0 : Int) < (q.n : Int) := by omega
                      have hqn1 : (1 : Int) < (q.n : Int) := by omega
                      clear y1 y2 y3 z1 hQ qn2 hx'
                      by_cases m1 : lockA (dat rs) k ≤ lockA (dat rs) j
                      · have d1 : decide (lockA (dat rs) k ≤ lockA (dat rs) j) = true := decide_eq_true m1
                        have HY : Hid (crvAt (dat rs) k = false) := crv_x (by have := hj.out; omega) (by rw [hjk.out]; omega)
                        go_wp2
                        go_quiet (((go_at_call 33; first | exact quietB' (within_any _ _ _ _) hA | exact quietB' (within_any _ _ _ _) hB)))
                        go_wp2
                        go_ret
                        exact ⟨ret_bool (by rw [HE.out, allUpto_f hlt HY.out]), below_drewN Bw _⟩
                      · have d1 : decide (lockA (dat rs) k ≤ lockA (dat rs) j) = false := decide_eq_false m1
                        by_cases m2 : lockB (dat rs) j < lockB (dat rs) k
                        · have d2 : decide (lockB (dat rs) j < lockB (dat rs) k) = true := decide_eq_true m2
                          have HY : Hid (crvAt (dat rs) k = false) := crv_y (by have := hj.out; omega) (by rw [hjk.out]; omega)
                          go_wp2
                          go_quiet (((go_at_call 33; first | exact quietB' (within_any _ _ _ _) hA | exact quietB' (within_any _ _ _ _) hB)))
                          go_wp2
                          go_ret
                          exact ⟨ret_bool (by rw [HE.out, allUpto_f hlt HY.out]), below_drewN Bw _⟩
                        · have d2 : decide (lockB (dat rs) j < lockB (dat rs) k) = false := decide_eq_false m2
                          have HY : Hid (crvAt (dat rs) k = true) := crv_ok X1.out hA hB (.inr (by rw [hjk.out]; omega))
                          go_wp2
                          go_quiet (((go_at_call 33; first | exact quietB' (within_any _ _ _ _) hA | exact quietB' (within_any _ _ _ _) hB)))
                          go_wp2
                          go_roundw
                          case rel => exact ⟨k + 1, by omega, by go_num, upto_succ HK.out HY.out, below_drewN hbw _⟩
                          case measure => simp [intOf]; omega
                  · have HY : Hid (crvAt (dat rs) k = false) := crv_b hB
                    go_wp2
                    go_quiet (((go_at_call 33; first | exact quietB' (within_any _ _ _ _) hA | exact quietB' (within_any _ _ _ _) hB)))
                    go_wp2
                    go_ret
                    exact ⟨ret_bool (by rw [HE.out, allUpto_f hlt HY.out]), below_drewN Bw _⟩
                · have HY : Hid (crvAt (dat rs) k = false) := crv_a hA
                  have hB := hA
                  go_wp2
                  go_quiet (((go_at_call 33; first | exact quietB' (within_any _ _ _ _) hA | exact quietB' (within_any _ _ _ _) hB)))
                  go_wp2
                  go_ret
                  exact ⟨ret_bool (by rw [HE.out, allUpto_f hlt HY.out]), below_drewN Bw _⟩
              · have HY : Hid (crvAt (dat rs) k = false) := crv_n (by rw [x1]; exact h2)
                have hrn2 : ((r.n : Int) != 2) = true := by rw [bne_iff_ne]; omega
                clear x1 x2 x3
                go_wp2
                go_quiet (fail)
                go_wp2
                go_ret
                exact ⟨ret_bool (by rw [HE.out, allUpto_f hlt HY.out]), below_drewN Bw _⟩
            · have e : k = n := by omega
              subst e
              go_wp2
              go_ret
              exact ⟨ret_bool (by rw [HE.out, allUpto_t HK.out]), Bw⟩
        · have HV : Hid (fanOk s a (dat rs) = false) := show _ = _ by unfold fanOk crvOk; rw [HLn.out, decide_eq_false (show ¬ (2 ≤ n ∧ n ≤ 8) by omega)]; simp
          go_enter Tryz.func69, Tryz.ntmps69
          go_wp2_with fail; ((with_reducible refine (isName_any _ _ hs).mono ?_); rintro e w' ⟨rfl, rfl⟩)
          go_wp2_with fail; ((with_reducible refine (within_any _ _ _ _).mono ?_); rintro e w' ⟨rfl, rfl⟩)
          go_wp2
          go_ret
          exact ⟨ret_bool HV.out.symm, by (repeat (first | exact Below.refl _ _ | assumption | (refine Below.alloc ?_ (by first | exact Nat.le_refl _ | (simp; done) | (simp; omega)) _) | (refine below_drewN ?_ _) | (refine Below.trans ?_ (Below.mono (by assumption) (by first | exact Nat.le_refl _ | (simp; done) | (simp; omega) | omega)))))⟩
      · have HV : Hid (fanOk s a (dat rs) = false) := show _ = _ by unfold fanOk crvOk; rw [HLn.out, decide_eq_false (show ¬ (2 ≤ n ∧ n ≤ 8) by omega)]; simp
        go_enter Tryz.func69, Tryz.ntmps69
        go_wp2_with fail; ((with_reducible refine (isName_any _ _ hs).mono ?_); rintro e w' ⟨rfl, rfl⟩)
        go_wp2_with fail; ((with_reducible refine (within_any _ _ _ _).mono ?_); rintro e w' ⟨rfl, rfl⟩)
        go_wp2
        go_ret
        exact ⟨ret_bool HV.out.symm, by (repeat (first | exact Below.refl _ _ | assumption | (refine Below.alloc ?_ (by first | exact Nat.le_refl _ | (simp; done) | (simp; omega)) _) | (refine below_drewN ?_ _) | (refine Below.trans ?_ (Below.mono (by assumption) (by first | exact Nat.le_refl _ | (simp; done) | (simp; omega) | omega)))))⟩
    · have HV : Hid (fanOk s a (dat rs) = false) := show _ = _ by unfold fanOk; rw [k1]; simp
      go_enter Tryz.func69, Tryz.ntmps69
      go_wp2_with fail; ((with_reducible refine (isName_any _ _ hs).mono ?_); rintro e w' ⟨rfl, rfl⟩)
      go_wp2_with fail; ((with_reducible refine (within_any _ _ _ _).mono ?_); rintro e w' ⟨rfl, rfl⟩)
      go_wp2
      go_ret
      exact ⟨ret_bool HV.out.symm, by (repeat (first | exact Below.refl _ _ | assumption | (refine Below.alloc ?_ (by first | exact Nat.le_refl _ | (simp; done) | (simp; omega)) _) | (refine below_drewN ?_ _) | (refine Below.trans ?_ (Below.mono (by assumption) (by first | exact Nat.le_refl _ | (simp; done) | (simp; omega) | omega)))))⟩
  · have HV : Hid (fanOk s a (dat rs) = false) := show _ = _ by unfold fanOk; rw [k0]; simp
    go_enter Tryz.func69, Tryz.ntmps69
    go_wp2_with fail; ((with_reducible refine (isName_any _ _ hs).mono ?_); rintro e w' ⟨rfl, rfl⟩)
    go_wp2
    go_ret
    exact ⟨ret_bool HV.out.symm, by (repeat (first | exact Below.refl _ _ | assumption | (refine Below.alloc ?_ (by first | exact Nat.le_refl _ | (simp; done) | (simp; omega)) _) | (refine below_drewN ?_ _) | (refine Below.trans ?_ (Below.mono (by assumption) (by first | exact Nat.le_refl _ | (simp; done) | (simp; omega) | omega)))))⟩
end Go.Proofs.YtjmhhbjbmgpagaaGreat

/- The laws' own helpers on fans and mines: size, copy, compare, mark. -/
namespace Go.Proofs.YtjmhhbjbmgpagaaGreat
set_option linter.unusedVariables false
set_option linter.unusedSimpArgs false
open Go.RowKit
theorem szFan_any (s : ByteArray) (a : Int) (A : Option Addr) (n c : Nat) (rs : List Row) (l : Int) (w : World) (hs : s.size ≤ maxLen) (hr : RSS w w.heap.size A n rs) (h1 : 0 ≤ l) (h2 : l ≤ 1048576) (hn : n ≤ maxLen) (hrn : ∀ r ∈ rs, r.n ≤ maxLen) :
    Calls Tryz.prog 19 #[.agg #[.string s, .int .i64 a, .slice A n c], .int .i64 l] w fun e w' => e = .returned (.int .i64 (szI l (s.size + (n + tot rs)))) ∧ Below w.heap.size w w' := by
  have HM := Lib.hid hrn
  have t0 := tot_nonneg rs
  have HR : Hid (∀ W, Below w.heap.size w W → RSS W W.heap.size A n rs) := fun W hb => (hr.below hb).more hb.size
  have hn0 : n ≤ maxLen := hn
  have hs' := hs
  unfold maxLen at hs
  clear hrn
  by_cases hl : l < s.size
  · have HS := Lib.hid (szI_n (l := l) (s := s.size + (n + tot rs)) (by omega))
    go_enter Tryz.func19, Tryz.ntmps19
    go_wp2
    go_ret
    exact ⟨ret_int HS.out.symm, by (repeat (first | exact Below.refl _ _ | assumption | (refine Below.alloc ?_ (by first | exact Nat.le_refl _ | (simp; done) | (simp; omega)) _) | (refine below_drewN ?_ _) | (refine Below.trans ?_ (Below.mono (by assumption) (by first | exact Nat.le_refl _ | (simp; done) | (simp; omega) | omega)))))⟩
  · by_cases hl2 : l - s.size < n + tot rs
    · have HS := Lib.hid (szI_n (l := l) (s := s.size + (n + tot rs)) (by omega))
      have H2 : Hid (szI (l - s.size) (n + tot rs) = -1) := szI_n hl2
      go_enter Tryz.func19, Tryz.ntmps19
      go_wp2_with fail; ((with_reducible refine (szRows_any A n c rs _ _ (HR.out _ (by (repeat (first | exact Below.refl _ _ | assumption | (refine Below.alloc ?_ (by first | exact Nat.le_refl _ | (simp; done) | (simp; omega)) _) | (refine below_drewN ?_ _) | (refine Below.trans ?_ (Below.mono (by assumption) (by first | exact Nat.le_refl _ | (simp; done) | (simp; omega) | omega))))))) (by omega) (by omega) hn0 HM.out).mono ?_); rintro e w1 ⟨rfl, hb1⟩)
      rw [H2.out]
      go_wp2
      go_ret
      exact ⟨ret_int HS.out.symm, ((Below.refl _ _).alloc (Nat.le_refl _) _).trans (hb1.mono (by simp))⟩
    · have HS := Lib.hid (szI_y (l := l) (s := s.size + (n + tot rs)) (by omega))
      have H2 : Hid (szI (l - s.size) (n + tot rs) = l - s.size - (n + tot rs)) := szI_y hl2
      go_enter Tryz.func19, Tryz.ntmps19
      go_wp2_with fail; ((with_reducible refine (szRows_any A n c rs _ _ (HR.out _ (by (repeat (first | exact Below.refl _ _ | assumption | (refine Below.alloc ?_ (by first | exact Nat.le_refl _ | (simp; done) | (simp; omega)) _) | (refine below_drewN ?_ _) | (refine Below.trans ?_ (Below.mono (by assumption) (by first | exact Nat.le_refl _ | (simp; done) | (simp; omega) | omega))))))) (by omega) (by omega) hn0 HM.out).mono ?_); rintro e w1 ⟨rfl, hb1⟩)
      rw [H2.out]
      go_wp2
      go_ret
      exact ⟨ret_int (by rw [HS.out]; omega), ((Below.refl _ _).alloc (Nat.le_refl _) _).trans (hb1.mono (by simp))⟩
theorem OSS.setLow {w : World} {lo n c : Nat} {A : Option Addr} {rs : List Row} (h : OSS w lo A n c rs) {p : Addr} (hp : p.block < lo) (u : Value) : OSS (w.setCell p u) lo A n c rs :=
  ⟨ownsRow_setCell_below h.out hp u, fun r hr => ownsRow_setCell_below (h.row r hr) hp u, h.apart⟩
set_option maxHeartbeats 800000 in
theorem toFan_any (s : ByteArray) (a : Int) (A : Option Addr) (n c : Nat) (rs : List Row) (w : World) (hs : s.size ≤ maxLen) (hr : RSS w w.heap.size A n rs) (hn : n ≤ 1048576) (hrn : ∀ r ∈ rs, r.n ≤ 1048576) :
    Calls Tryz.prog 30 #[.agg #[.string s, .int .i64 a, .slice A n c]] w fun e w' => ∃ A' rs', e = .returned (.agg #[.string s, .int .i64 a, .slice A' n n]) ∧ OSS w' w.heap.size A' n n rs' ∧ dat rs' = dat rs ∧ Below w.heap.size w w' := by
  have HM := Lib.hid hrn
  have HR : Hid (∀ W, Below w.heap.size w W → RSS W W.heap.size A n rs) := fun W hb => (hr.below hb).more hb.size
  clear hrn
  go_enter Tryz.func30, Tryz.ntmps30
  go_wp2_with fail; ((with_reducible refine (toInt64SS_any A n c rs _ (HR.out _ (by (repeat (first | exact Below.refl _ _ | assumption | (refine Below.alloc ?_ (by first | exact Nat.le_refl _ | (simp; done) | (simp; omega)) _) | (refine below_drewN ?_ _) | (refine Below.trans ?_ (Below.mono (by assumption) (by first | exact Nat.le_refl _ | (simp; done) | (simp; omega) | omega))))))) hn HM.out).mono ?_); rintro e w1 ⟨rs1, rfl, o1, D1, hb1⟩)
  obtain ⟨hc1, hf1⟩ := bcell hb1
  have zz : w.heap.size + 3 ≤ w1.heap.size := by have h := hb1.size; simp at h; omega
  have z1 : w.heap.size + 1 < w1.heap.size := by omega
  have z2 : w.heap.size + 2 < w1.heap.size := by omega
  have o2 : OSS w1 (w.heap.size + 3) (some ⟨w.heap.size + 1 + 1 + 1, 0, none⟩) n n rs1 := by simpa using o1
  have B1 : Below w.heap.size w w1 := (show Below w.heap.size w _ by (repeat (first | exact Below.refl _ _ | assumption | (refine Below.alloc ?_ (by first | exact Nat.le_refl _ | (simp; done) | (simp; omega)) _) | (refine below_drewN ?_ _) | (refine Below.trans ?_ (Below.mono (by assumption) (by first | exact Nat.le_refl _ | (simp; done) | (simp; omega) | omega)))))).trans (hb1.mono (by simp; omega))
  have O2 := Lib.hid o2
  clear o1 o2
  go_wp2
  refine bodyPost_ret (v := .agg #[.string s, .int .i64 a, .slice (some ⟨w.heap.size + 1 + 1 + 1, 0, none⟩) n n]) (by simp [results, Tryz.results30, go_sem, hc1, z1, z2]) rfl ⟨_, rs1, rfl, ?_, D1, ?_⟩
  · refine OSS.base (lo := w.heap.size + 3) ?_ (by omega)
    repeat (refine OSS.setLow ?_ (by first | (simp; done) | (simp; omega)) _)
    exact O2.out
  · repeat (first | exact B1 | (refine Below.setCell ?_ (by first | (simp; done) | (simp; omega)) _))
set_option maxHeartbeats 800000 in
theorem eqFan_b (s : ByteArray) (a : Int) (A B : Option Addr) (n c d : Nat) (rs qs : List Row) (w : World) (hr : RSS w w.heap.size A n rs) (hq : RSS w w.heap.size B n qs) (hd : dat rs = dat qs) (hn : n ≤ 1099511627776) (hrn : ∀ r ∈ rs, r.n ≤ 1099511627776) :
    Calls Tryz.prog 46 #[.agg #[.string s, .int .i64 a, .slice A n c], .agg #[.string s, .int .i64 a, .slice B n d]] w fun e w' => e = .returned (.bool true) ∧ Below w.heap.size w w' := by
  have HM := Lib.hid hrn
  have HD := Lib.hid hd
  have HR : Hid (∀ W, Below w.heap.size w W → RSS W W.heap.size A n rs) := fun W hb => (hr.below hb).more hb.size
  have HQ : Hid (∀ W, Below w.heap.size w W → RSS W W.heap.size B n qs) := fun W hb => (hq.below hb).more hb.size
  clear hrn hd
  go_enter Tryz.func46, Tryz.ntmps46
  go_wp2_with fail; ((with_reducible refine (eqInt64SS_b A B n c d rs qs _ (HR.out _ (by (repeat (first | exact Below.refl _ _ | assumption | (refine Below.alloc ?_ (by first | exact Nat.le_refl _ | (simp; done) | (simp; omega)) _) | (refine below_drewN ?_ _) | (refine Below.trans ?_ (Below.mono (by assumption) (by first | exact Nat.le_refl _ | (simp; done) | (simp; omega) | omega))))))) (HQ.out _ (by (repeat (first | exact Below.refl _ _ | assumption | (refine Below.alloc ?_ (by first | exact Nat.le_refl _ | (simp; done) | (simp; omega)) _) | (refine below_drewN ?_ _) | (refine Below.trans ?_ (Below.mono (by assumption) (by first | exact Nat.le_refl _ | (simp; done) | (simp; omega) | omega))))))) HD.out hn HM.out).mono ?_); rintro e w1 ⟨rfl, hb1⟩)
  go_wp2
  go_ret
  exact ⟨rfl, (show Below w.heap.size w _ by (repeat (first | exact Below.refl _ _ | assumption | (refine Below.alloc ?_ (by first | exact Nat.le_refl _ | (simp; done) | (simp; omega)) _) | (refine below_drewN ?_ _) | (refine Below.trans ?_ (Below.mono (by assumption) (by first | exact Nat.le_refl _ | (simp; done) | (simp; omega) | omega)))))).trans (hb1.mono (by simp; omega))⟩
theorem szMine_any (J : Int) (A : Option Addr) (n c : Nat) (xs : List Awy) (l : Int) (w : World) (hr : Reads w w.heap.size 7 A n (Awy.recs xs)) (h1 : 0 ≤ l) (h2 : l ≤ 1048576) (hn : n ≤ maxLen) (hxs : ∀ x ∈ xs, x.s.size ≤ maxLen) :
    Calls Tryz.prog 4 #[.agg #[.int .i64 J, .slice A n c], .int .i64 l] w fun e w' => e = .returned (.int .i64 (szI l (n + sumN Awy.len xs))) ∧ Below w.heap.size w w' := by
  have HM := Lib.hid hxs
  have t0 := sumN_nonneg Awy.len xs
  have HR : Hid (∀ W, Below w.heap.size w W → Reads W W.heap.size 7 A n (Awy.recs xs)) := fun W hb => (hr.below hb).more hb.size
  clear hxs
  by_cases hl : l < n + sumN Awy.len xs
  · have H2 : Hid (szI l (n + sumN Awy.len xs) = -1) := szI_n hl
    go_enter Tryz.func4, Tryz.ntmps4
    go_wp2_with fail; ((with_reducible refine (szAwyS_any A n c xs _ _ (HR.out _ (by (repeat (first | exact Below.refl _ _ | assumption | (refine Below.alloc ?_ (by first | exact Nat.le_refl _ | (simp; done) | (simp; omega)) _) | (refine below_drewN ?_ _) | (refine Below.trans ?_ (Below.mono (by assumption) (by first | exact Nat.le_refl _ | (simp; done) | (simp; omega) | omega))))))) h1 h2 hn HM.out).mono ?_); rintro e w1 ⟨rfl, hb1⟩)
    rw [H2.out]
    go_wp2
    go_ret
    exact ⟨ret_int H2.out.symm, ((Below.refl _ _).alloc (Nat.le_refl _) _).trans (hb1.mono (by simp))⟩
  · have H2 : Hid (szI l (n + sumN Awy.len xs) = l - (n + sumN Awy.len xs)) := szI_y hl
    go_enter Tryz.func4, Tryz.ntmps4
    go_wp2_with fail; ((with_reducible refine (szAwyS_any A n c xs _ _ (HR.out _ (by (repeat (first | exact Below.refl _ _ | assumption | (refine Below.alloc ?_ (by first | exact Nat.le_refl _ | (simp; done) | (simp; omega)) _) | (refine below_drewN ?_ _) | (refine Below.trans ?_ (Below.mono (by assumption) (by first | exact Nat.le_refl _ | (simp; done) | (simp; omega) | omega))))))) h1 h2 hn HM.out).mono ?_); rintro e w1 ⟨rfl, hb1⟩)
    rw [H2.out]
    go_wp2
    go_ret
    exact ⟨ret_int H2.out.symm, ((Below.refl _ _).alloc (Nat.le_refl _) _).trans (hb1.mono (by simp))⟩
set_option maxHeartbeats 800000 in
theorem toMine_any (J : Int) (A : Option Addr) (n c : Nat) (xs : List Awy) (w : World) (hr : Reads w w.heap.size 7 A n (Awy.recs xs)) (hn : n ≤ 1048576) (hxs : ∀ x ∈ xs, x.s.size ≤ maxLen) :
    Calls Tryz.prog 7 #[.agg #[.int .i64 J, .slice A n c]] w fun e w' => ∃ A', e = .returned (.agg #[.int .i64 J, .slice A' n n]) ∧ w'.ownsRow w.heap.size 78 7 (.slice A' n n) n (Awy.recs xs) ∧ Below w.heap.size w w' := by
  have HM := Lib.hid hxs
  have HR : Hid (∀ W, Below w.heap.size w W → Reads W W.heap.size 7 A n (Awy.recs xs)) := fun W hb => (hr.below hb).more hb.size
  clear hxs
  go_enter Tryz.func7, Tryz.ntmps7
  go_wp2_with fail; ((with_reducible refine (toAwyS_any A n c xs _ (HR.out _ (by (repeat (first | exact Below.refl _ _ | assumption | (refine Below.alloc ?_ (by first | exact Nat.le_refl _ | (simp; done) | (simp; omega)) _) | (refine below_drewN ?_ _) | (refine Below.trans ?_ (Below.mono (by assumption) (by first | exact Nat.le_refl _ | (simp; done) | (simp; omega) | omega))))))) hn HM.out).mono ?_); rintro e w1 ⟨rfl, o1, hb1⟩)
  obtain ⟨hc1, hf1⟩ := bcell hb1
  have zz : w.heap.size + 3 ≤ w1.heap.size := by have h := hb1.size; simp at h; omega
  have z1 : w.heap.size + 1 < w1.heap.size := by omega
  have z2 : w.heap.size + 2 < w1.heap.size := by omega
  have o2 : w1.ownsRow (w.heap.size + 3) 78 7 (.slice (some ⟨w.heap.size + 1 + 1 + 1, 0, none⟩) n n) n (Awy.recs xs) := by simpa using o1
  have B1 : Below w.heap.size w w1 := (show Below w.heap.size w _ by (repeat (first | exact Below.refl _ _ | assumption | (refine Below.alloc ?_ (by first | exact Nat.le_refl _ | (simp; done) | (simp; omega)) _) | (refine below_drewN ?_ _) | (refine Below.trans ?_ (Below.mono (by assumption) (by first | exact Nat.le_refl _ | (simp; done) | (simp; omega) | omega)))))).trans (hb1.mono (by simp; omega))
  have O2 := Lib.hid o2
  clear o1 o2
  go_wp2
  refine bodyPost_ret (v := .agg #[.int .i64 J, .slice (some ⟨w.heap.size + 1 + 1 + 1, 0, none⟩) n n]) (by simp [results, Tryz.results7, go_sem, hc1, z1, z2]) rfl ⟨_, rfl, ?_, ?_⟩
  · refine own_base (base := w.heap.size + 3) ?_ (by omega)
    repeat (refine ownsRow_setCell_below ?_ (by first | (simp; done) | (simp; omega)) _)
    exact O2.out
  · repeat (first | exact B1 | (refine Below.setCell ?_ (by first | (simp; done) | (simp; omega)) _))
theorem eqMine_b (J : Int) (A B : Option Addr) (n c d : Nat) (xs : List Awy) (w : World) (hr : Reads w w.heap.size 7 A n (Awy.recs xs)) (hq : Reads w w.heap.size 7 B n (Awy.recs xs)) (hn : n ≤ 1099511627776) :
    Calls Tryz.prog 12 #[.agg #[.int .i64 J, .slice A n c], .agg #[.int .i64 J, .slice B n d]] w fun e w' => e = .returned (.bool true) ∧ Below w.heap.size w w' := by
  have HR : Hid (∀ W, Below w.heap.size w W → Reads W W.heap.size 7 A n (Awy.recs xs)) := fun W hb => (hr.below hb).more hb.size
  have HQ : Hid (∀ W, Below w.heap.size w W → Reads W W.heap.size 7 B n (Awy.recs xs)) := fun W hb => (hq.below hb).more hb.size
  go_enter Tryz.func12, Tryz.ntmps12
  go_wp2_with fail; ((with_reducible refine (eqAwyS_b A B n c d xs _ (HR.out _ (by (repeat (first | exact Below.refl _ _ | assumption | (refine Below.alloc ?_ (by first | exact Nat.le_refl _ | (simp; done) | (simp; omega)) _) | (refine below_drewN ?_ _) | (refine Below.trans ?_ (Below.mono (by assumption) (by first | exact Nat.le_refl _ | (simp; done) | (simp; omega) | omega))))))) (HQ.out _ (by (repeat (first | exact Below.refl _ _ | assumption | (refine Below.alloc ?_ (by first | exact Nat.le_refl _ | (simp; done) | (simp; omega)) _) | (refine below_drewN ?_ _) | (refine Below.trans ?_ (Below.mono (by assumption) (by first | exact Nat.le_refl _ | (simp; done) | (simp; omega) | omega))))))) hn).mono ?_); rintro e w1 ⟨rfl, hb1⟩)
  go_wp2
  go_ret
  exact ⟨rfl, (show Below w.heap.size w _ by (repeat (first | exact Below.refl _ _ | assumption | (refine Below.alloc ?_ (by first | exact Nat.le_refl _ | (simp; done) | (simp; omega)) _) | (refine below_drewN ?_ _) | (refine Below.trans ?_ (Below.mono (by assumption) (by first | exact Nat.le_refl _ | (simp; done) | (simp; omega) | omega)))))).trans (hb1.mono (by simp; omega))⟩
theorem markMine_any (J : Int) (A : Option Addr) (n c : Nat) (xs : List Value) (k : Int) (base : Nat) (w : World) (hown : w.ownsRow base 78 7 (.slice A n c) n xs) (hn : n ≤ 1048576) (hk0 : 0 ≤ k) (hk1 : k ≤ 1073741824) :
    Calls Tryz.prog 14 #[.agg #[.int .i64 J, .slice A n c], .int .i64 k] w fun e w' => e = .returned (.int .i64 (k + 7 * n)) ∧ w.grownBy w' (Value.ownBlock (.slice A n c)) := by
  have HO : Hid (∀ W, Below w.heap.size w W → W.ownsRow base 78 7 (.slice A n c) n xs) := fun W hb => own_below hown hb
  clear hown
  go_enter Tryz.func14, Tryz.ntmps14
  go_wp2_with fail; ((with_reducible refine (markAwyS_any A n c xs k base _ (HO.out _ (by (repeat (first | exact Below.refl _ _ | assumption | (refine Below.alloc ?_ (by first | exact Nat.le_refl _ | (simp; done) | (simp; omega)) _) | (refine below_drewN ?_ _) | (refine Below.trans ?_ (Below.mono (by assumption) (by first | exact Nat.le_refl _ | (simp; done) | (simp; omega) | omega))))))) hn hk0 hk1).mono ?_); rintro e w1 ⟨rfl, hb1⟩)
  go_wp2
  go_ret
  exact ⟨rfl, (only_of_below ((Below.refl _ _).alloc (Nat.le_refl _) _) _).trans hb1⟩
end Go.Proofs.YtjmhhbjbmgpagaaGreat

/- Contracts of the laws' own marks on rows of numbers and on a fan's curve. -/
namespace Go.Proofs.YtjmhhbjbmgpagaaGreat
set_option linter.unusedVariables false
set_option linter.unusedSimpArgs false
open Go.RowKit
/-- Rows that hold running numbers from k on. -/
def numR (rs : List Row) (k : Int) : List Row := rs.mapIdx fun i r => ⟨r.A, r.n, r.c, marksInt64S (k + tot (rs.take i)) r.n⟩
theorem numR_at {rs : List Row} {k : Int} {i : Nat} {q : Row} (h : (numR rs k)[i]? = some q) : ∃ r, rs[i]? = some r ∧ q = ⟨r.A, r.n, r.c, marksInt64S (k + tot (rs.take i)) r.n⟩ := by
  unfold numR at h
  rw [List.getElem?_mapIdx] at h
  cases e : rs[i]? with
  | none => rw [e] at h; simp at h
  | some r => rw [e] at h; simp at h; exact ⟨r, rfl, h.symm⟩
theorem numR_vals (rs : List Row) (k : Int) : rowsV (numR rs k) = rowsV rs := by
  apply List.ext_getElem?
  intro i
  unfold rowsV numR
  rw [List.getElem?_map, List.getElem?_map, List.getElem?_mapIdx]
  cases rs[i]? <;> rfl
theorem own_ne {w : World} {b1 e1 z1 n1 b2 e2 z2 n2 : Nat} {v1 v2 : Value} {xs1 xs2 : List Value} (h1 : w.ownsRow b1 e1 z1 v1 n1 xs1) (h2 : w.ownsRow b2 e2 z2 v2 n2 xs2) (hne : e1 ≠ e2) : ∀ k, v1.ownBlock = some k → v2.ownBlock = some k → False := by
  intro k k1 k2
  rcases h1.2 with ⟨rfl, _⟩ | ⟨g, cap, cur, rfl, _, g1, _⟩
  · simp [Value.ownBlock] at k1
  · rcases h2.2 with ⟨rfl, _⟩ | ⟨g', cap', cur', rfl, _, g2, _⟩
    · simp [Value.ownBlock] at k2
    · simp [Value.ownBlock] at k1 k2
      subst k1 k2
      rw [g1] at g2
      injection g2 with g2
      injection g2 with _ ht
      exact hne ht
def totD : List (List Int) → Int
  | [] => 0
  | x :: t => x.length + totD t
theorem tot_dat {w : World} {B : Nat} : ∀ {rs : List Row}, (∀ r ∈ rs, Reads w B 1 r.A r.n (ints r.xs)) → tot rs = totD (dat rs)
  | [], _ => rfl
  | r :: t, h => by
    have h1 := tot_dat (rs := t) fun q hq => h q (List.mem_cons_of_mem _ hq)
    have h2 := ints_len (h r (List.mem_cons_self ..))
    simp only [tot, dat, List.map_cons, totD]
    rw [h1, h2]; rfl
theorem tot_eq {w w' : World} {B B' n m : Nat} {A A' : Option Addr} {rs rs' : List Row} (h : RSS w B A n rs) (h' : RSS w' B' A' m rs') (hd : dat rs' = dat rs) : tot rs' = tot rs := by
  rw [tot_dat h.row, tot_dat h'.row, hd]
theorem apart_at {rs : List Row} (h : rs.Pairwise fun r s => ∀ k, r.val.ownBlock = some k → s.val.ownBlock = some k → False) {i j : Nat} {r s : Row} (hi : rs[i]? = some r) (hj : rs[j]? = some s) (hne : i ≠ j) : ∀ k, r.val.ownBlock = some k → s.val.ownBlock = some k → False := by
  have li : i < rs.length := by
    rcases Nat.lt_or_ge i rs.length with h1 | h1
    · exact h1
    · rw [List.getElem?_eq_none h1] at hi; cases hi
  have lj : j < rs.length := by
    rcases Nat.lt_or_ge j rs.length with h1 | h1
    · exact h1
    · rw [List.getElem?_eq_none h1] at hj; cases hj
  rw [List.getElem?_eq_getElem li] at hi
  rw [List.getElem?_eq_getElem lj] at hj
  obtain rfl := Option.some.inj hi
  obtain rfl := Option.some.inj hj
  rw [List.pairwise_iff_getElem] at h
  intro k h1 h2
  rcases Nat.lt_or_gt_of_ne hne with g | g
  · exact h i j li lj g k h1 h2
  · exact h j i lj li g k h2 h1
theorem len_of_at {α : Type} {xs : List α} {i : Nat} {x : α} (h : xs[i]? = some x) : i < xs.length := by
  rcases Nat.lt_or_ge i xs.length with h1 | h1
  · exact h1
  · rw [List.getElem?_eq_none h1] at h; cases h
/-- How rows stand while the first j of them are marked. -/
structure Mrk (w : World) (lo hi : Nat) (A : Option Addr) (n c : Nat) (rs : List Row) (k : Int) (j : Nat) : Prop where
  out : w.ownsRow lo 25 1 (.slice A n c) n (rowsV rs)
  did : ∀ i r, i < j → rs[i]? = some r → w.ownsRow lo 2 1 r.val r.n (ints (marksInt64S (k + tot (rs.take i)) r.n))
  due : ∀ i r, j ≤ i → rs[i]? = some r → w.ownsRow lo 2 1 r.val r.n (ints r.xs)
theorem Mrk.start {w : World} {lo hi n c : Nat} {A : Option Addr} {rs : List Row} (k : Int) (h : Oss w lo hi A n c rs) : Mrk w lo hi A n c rs k 0 :=
  ⟨h.oss.out, fun i r hi => absurd hi (Nat.not_lt_zero _), fun i r _ hr => h.oss.row r (List.mem_of_getElem? hr)⟩
theorem Mrk.row {w : World} {lo hi n c j : Nat} {A : Option Addr} {rs : List Row} {k : Int} (h : Mrk w lo hi A n c rs k j) {i : Nat} {r : Row} (hr : rs[i]? = some r) : ∃ ys, w.ownsRow lo 2 1 r.val r.n ys := by
  rcases Nat.lt_or_ge i j with g | g
  · exact ⟨_, h.did i r g hr⟩
  · exact ⟨_, h.due i r g hr⟩
theorem Mrk.step {w w' : World} {lo hi n c j : Nat} {A : Option Addr} {rs : List Row} {k : Int} {r : Row} (h : Mrk w lo hi A n c rs k j) (hp : rs.Pairwise fun r s => ∀ k, r.val.ownBlock = some k → s.val.ownBlock = some k → False)
    (hr : rs[j]? = some r) (ho : w'.ownsRow lo 2 1 r.val r.n (ints (marksInt64S (k + tot (rs.take j)) r.n))) (hg : w.grownBy w' r.val.ownBlock) : Mrk w' lo hi A n c rs k (j + 1) := by
  refine ⟨own_keep h.out hg fun g g1 g2 => own_ne h.out (h.due j r (Nat.le_refl _) hr) (by decide) g g1 g2, fun i q hi hq => ?_, fun i q hi hq => ?_⟩
  · rcases Nat.lt_succ_iff_lt_or_eq.1 hi with g | rfl
    · exact own_keep (h.did i q g hq) hg fun b g1 g2 => apart_at hp hq hr (by omega) b g1 g2
    · rw [hr] at hq; obtain rfl := Option.some.inj hq; exact ho
  · exact own_keep (h.due i q (by omega) hq) hg fun g g1 g2 => apart_at hp hq hr (by omega) g g1 g2
theorem Mrk.done {w w0 : World} {lo hi n c : Nat} {A : Option Addr} {rs : List Row} {k : Int} {j : Nat} (h : Mrk w lo hi A n c rs k j) (hj : rs.length ≤ j) (h0 : Oss w0 lo hi A n c rs) : Oss w lo hi A n c (numR rs k) := by
  refine ⟨⟨by rw [numR_vals]; exact h.out, fun q hq => ?_, ?_⟩, h0.top, fun q hq => ?_⟩
  · obtain ⟨i, hi⟩ := List.getElem?_of_mem hq
    obtain ⟨r, hr, rfl⟩ := numR_at hi
    exact h.did i r (Nat.lt_of_lt_of_le (len_of_at hr) hj) hr
  · rw [List.pairwise_iff_getElem]
    intro i j hi hj hij
    obtain ⟨r, hr, e1⟩ := numR_at (List.getElem?_eq_getElem hi)
    obtain ⟨s, hs, e2⟩ := numR_at (List.getElem?_eq_getElem hj)
    rw [e1, e2]
    have h9 := apart_at h0.oss.apart hr hs (Nat.ne_of_lt hij)
    exact h9
  · obtain ⟨i, hi⟩ := List.getElem?_of_mem hq
    obtain ⟨r, hr, rfl⟩ := numR_at hi
    exact h0.rtop r (List.mem_of_getElem? hr)
set_option maxHeartbeats 800000 in
theorem markInt64SS_any (lo hi : Nat) (A : Option Addr) (n c : Nat) (rs : List Row) (k : Int) (w : World) (h : Oss w lo hi A n c rs) (hn : n ≤ 1048576) (hrn : ∀ r ∈ rs, r.n ≤ 1048576) (ht : tot rs ≤ 1048576) (hk0 : 0 ≤ k) (hk1 : k ≤ 1073741824) :
    Calls Tryz.prog 49 #[.slice A n c, .int .i64 k] w fun e w' => e = .returned (.int .i64 (k + tot rs)) ∧ Oss w' lo hi A n c (numR rs k) ∧ Chg lo hi w w' := by
  have HO := Lib.hid h
  have HM := Lib.hid hrn
  have HL := Lib.hid h.reads.len
  clear h hrn
  go_enter Tryz.func49, Tryz.ntmps49
  go_wp2
  go_loopw [1, 5] (fun kk i wr => ∃ (j : Nat), j ≤ n ∧ kk = .int .i64 (k + tot (rs.take j)) ∧ i = .int .i64 j ∧ Hid (Mrk wr lo hi A n c rs k j) ∧ Hid (Chg lo hi w wr)) (fun _ i _ => n - (intOf i).toNat)
  case atStart => exact ⟨0, by omega, by simp [tot], rfl, Mrk.start k HO.out, Chg.refl _ _ _⟩
  case round =>
    obtain ⟨j, hj, rfl, rfl, HK, HG⟩ := hrel
    have p0 := tot_nonneg (rs.take j)
    have p1 := tot_take rs j
    by_cases hlt : j < n
    · have hrd : Reads wr wr.heap.size 1 A n (rowsV rs) := Reads.of_own HK.out.out
      obtain ⟨ad, u, rfl, had, hx, hc⟩ := hrd.at_ hlt
      obtain ⟨r, hr, rfl⟩ := rowsV_at hx
      have HX := Lib.hid (tot_snoc hr)
      have HR := Lib.hid hr
      have hm := HM.out r (List.mem_of_getElem? hr)
      have ho := HK.out.due j r (Nat.le_refl _) hr
      have cc := markInt64S_any r.A r.n r.c _ (k + tot (rs.take j)) lo wr ho (by omega) (by omega) (by omega)
      have hc' : wr.cell? (ad.add j) = some (.slice r.A r.n r.c) := hc
      clear hx hr hc ho hrd
      go_wp2_with fail; ((with_reducible refine cc.mono ?_); rintro e w1 ⟨rfl, ho1, hg1⟩)
      clear cc
      have HK1 := Lib.hid (HK.out.step (hi := hi) HO.out.oss.apart HR.out ho1 hg1)
      have HG1 := Lib.hid (HG.out.trans (Chg.of_grown (lo := lo) (hi := hi) hg1 fun g e => ⟨((HO.out.oss.row r (List.mem_of_getElem? HR.out)).lt g e).1, HO.out.rtop r (List.mem_of_getElem? HR.out) g e⟩))
      clear ho1 hg1
      go_wp2
      go_roundw
      case rel => exact ⟨j + 1, by omega, by rw [HX.out]; exact congrArg (Value.int .i64) (by omega), by go_num, HK1.out, HG1.out⟩
      case measure => simp [intOf]; omega
    · have e : j = n := by omega
      subst e
      have HT : Hid (rs.take j = rs) := List.take_of_length_le (by rw [HL.out]; omega)
      go_wp2
      go_ret
      exact ⟨ret_int (by rw [HT.out]), HK.out.done (by rw [HL.out]; exact Nat.le_refl _) HO.out, HG.out⟩
end Go.Proofs.YtjmhhbjbmgpagaaGreat

/- Slices of fans: reading, owning, and the laws' own helpers on them. -/
namespace Go.Proofs.YtjmhhbjbmgpagaaGreat
set_option linter.unusedVariables false
set_option linter.unusedSimpArgs false
open Go.RowKit
structure Fan where
  s : ByteArray
  a : Int
  A : Option Addr
  n : Nat
  c : Nat
  rs : List Row
instance : Inhabited Fan := ⟨⟨ByteArray.empty, 0, none, 0, 0, []⟩⟩
def Fan.cells (x : Fan) : List Value := [.string x.s, .int .i64 x.a, .slice x.A x.n x.c]
theorem Fan.clen (x : Fan) : x.cells.length = 3 := rfl
abbrev Fan.recs (xs : List Fan) : List Value := Go.Proofs.YtjmhhbjbmgpagaaGreat.recs Fan.cells xs
def Fan.key (x : Fan) : ByteArray × Int × List (List Int) := (x.s, x.a, dat x.rs)
def fdat (xs : List Fan) : List (ByteArray × Int × List (List Int)) := xs.map Fan.key
theorem fdat_at {xs : List Fan} {k : Nat} {x : Fan} (h : xs[k]? = some x) : (fdat xs)[k]? = some x.key := by unfold fdat; rw [List.getElem?_map, h]; rfl
theorem fdat_len (xs : List Fan) : (fdat xs).length = xs.length := by simp [fdat]
def Fan.len (x : Fan) : Int := x.s.size + (x.n + tot x.rs)
theorem Fan.len_nonneg (x : Fan) : 0 ≤ x.len := by have := tot_nonneg x.rs; unfold Fan.len; omega
def fansLen : List Fan → Int
  | [] => 0
  | x :: t => x.len + fansLen t
theorem fansLen_nonneg : ∀ xs : List Fan, 0 ≤ fansLen xs
  | [] => by simp [fansLen]
  | x :: t => by have := fansLen_nonneg t; have := x.len_nonneg; simp only [fansLen]; omega
theorem fansLen_append (xs ys : List Fan) : fansLen (xs ++ ys) = fansLen xs + fansLen ys := by
  induction xs with
  | nil => simp [fansLen]
  | cons x t ih => simp only [List.cons_append, fansLen, ih]; omega
theorem fansLen_snoc {xs : List Fan} {k : Nat} {x : Fan} (h : xs[k]? = some x) : fansLen (xs.take (k + 1)) = fansLen (xs.take k) + x.len := by
  rw [take_snoc h, fansLen_append]; simp [fansLen]
theorem fansLen_take (xs : List Fan) (k : Nat) : fansLen (xs.take k) ≤ fansLen xs := by
  have h : fansLen xs = fansLen (xs.take k) + fansLen (xs.drop k) := by rw [← fansLen_append, List.take_append_drop]
  have := fansLen_nonneg (xs.drop k)
  omega
theorem fansLen_mem {xs : List Fan} {x : Fan} (h : x ∈ xs) : x.len ≤ fansLen xs := by
  induction xs with
  | nil => simp at h
  | cons y t ih =>
    have h0 := fansLen_nonneg t
    have h1 := y.len_nonneg
    rcases List.mem_cons.1 h with rfl | h
    · simp only [fansLen]; omega
    · have := ih h; simp only [fansLen]; omega
/-- As an argument hands it. -/
structure Fan.ok0 (x : Fan) : Prop where
  s : x.s.size ≤ maxLen
  n : x.n ≤ maxLen
  r : ∀ r ∈ x.rs, r.n ≤ maxLen
/-- As the size allows it. -/
structure Fan.ok (x : Fan) : Prop where
  s : x.s.size ≤ 1048576
  n : x.n ≤ 1048576
  r : ∀ r ∈ x.rs, r.n ≤ 1048576
  t : tot x.rs ≤ 1048576
theorem Fan.ok.sm {x : Fan} (h : x.ok) : x.s.size ≤ maxLen := wfmax h.s
theorem fans_ok {xs : List Fan} (h : fansLen xs ≤ 1048576) : ∀ x ∈ xs, x.ok := by
  intro x hx
  have h1 := fansLen_mem hx
  have h2 := tot_nonneg x.rs
  unfold Fan.len at h1
  exact ⟨by omega, by omega, fun r hr => by have := tot_mem hr; omega, by omega⟩
theorem totD_nonneg : ∀ l : List (List Int), 0 ≤ totD l
  | [] => by simp [totD]
  | x :: t => by have := totD_nonneg t; simp only [totD]; omega
/-- A slice of fans that reads. -/
structure FSS (w : World) (B : Nat) (A : Option Addr) (n : Nat) (xs : List Fan) : Prop where
  out : Reads w B 3 A n (Fan.recs xs)
  row : ∀ x ∈ xs, RSS w B x.A x.n x.rs
theorem FSS.below {w w' : World} {B n : Nat} {A : Option Addr} {xs : List Fan} (h : FSS w B A n xs) (hb : Below B w w') : FSS w' B A n xs := ⟨h.out.below hb, fun x hx => (h.row x hx).below hb⟩
theorem FSS.more {w : World} {B B' n : Nat} {A : Option Addr} {xs : List Fan} (h : FSS w B A n xs) (hB : B ≤ B') : FSS w B' A n xs := ⟨h.out.more hB, fun x hx => (h.row x hx).more hB⟩
theorem FSS.len {w : World} {B n : Nat} {A : Option Addr} {xs : List Fan} (h : FSS w B A n xs) : xs.length = n := recs_rlen Fan.clen (by omega) h.out
theorem FSS.at_ {w : World} {B n k : Nat} {A : Option Addr} {xs : List Fan} (h : FSS w B A n xs) (hk : k < n) :
    ∃ ad x, A = some ad ∧ ad.block < B ∧ xs[k]? = some x ∧ Cells w (ad.add (k * 3)) x.cells ∧ RSS w B x.A x.n x.rs := by
  obtain ⟨ad, x, h1, h2, h3, h4⟩ := h.out.rec_at Fan.clen (by omega) hk
  exact ⟨ad, x, h1, h2, h3, h4, h.row x (List.mem_of_getElem? h3)⟩
theorem Fan.open_ {w : World} {p : Addr} {x : Fan} (h : Cells w p x.cells) : w.cell? p = some (.string x.s) ∧ w.cell? ⟨p.block, p.off + 1, none⟩ = some (.int .i64 x.a) ∧ w.cell? ⟨p.block, p.off + 2, none⟩ = some (.slice x.A x.n x.c) :=
  ⟨h.z rfl, h.at_ 0 rfl, h.at_ 1 rfl⟩
/-- Fans whose curves lie one behind the other in blocks from lo up to hi. -/
def Chain (w : World) : Nat → List Fan → Nat → Prop
  | lo, [], hi => lo ≤ hi
  | lo, x :: t, hi => ∃ m, lo ≤ m ∧ Oss w lo m x.A x.n x.c x.rs ∧ Chain w m t hi
theorem Chain.le {w : World} : ∀ {lo : Nat} {xs : List Fan} {hi : Nat}, Chain w lo xs hi → lo ≤ hi
  | _, [], _, h => h
  | _, _ :: _, _, ⟨m, h1, _, h3⟩ => Nat.le_trans h1 h3.le
theorem same_sub {lo hi l m : Nat} {a b : World} (s : Same lo hi a b) (h1 : lo ≤ l) (h2 : m ≤ hi) : Same l m a b := ⟨fun i g1 g2 => s.blk i (by omega) (by omega), s.size⟩
theorem Chain.same {a b : World} : ∀ {lo : Nat} {xs : List Fan} {hi : Nat}, Chain a lo xs hi → Same lo hi a b → Chain b lo xs hi
  | _, [], _, h, _ => h
  | _, _ :: _, _, ⟨m, h1, h2, h3⟩, s => ⟨m, h1, h2.same (same_sub s (Nat.le_refl _) h3.le), h3.same (same_sub s h1 (Nat.le_refl _))⟩
theorem Oss.lower {w : World} {lo lo' hi n c : Nat} {A : Option Addr} {rs : List Row} (h : Oss w lo hi A n c rs) (hl : lo' ≤ lo) : Oss w lo' hi A n c rs := ⟨h.oss.base hl, h.top, h.rtop⟩
theorem Oss.raise {w : World} {lo hi hi' n c : Nat} {A : Option Addr} {rs : List Row} (h : Oss w lo hi A n c rs) (hl : hi ≤ hi') : Oss w lo hi' A n c rs := ⟨h.oss, fun k hk => Nat.lt_of_lt_of_le (h.top k hk) hl, fun r hr k hk => Nat.lt_of_lt_of_le (h.rtop r hr k hk) hl⟩
theorem Chain.snoc {w : World} : ∀ {lo : Nat} {xs : List Fan} {hi hi' : Nat} {x : Fan}, Chain w lo xs hi → hi ≤ hi' → Oss w hi hi' x.A x.n x.c x.rs → Chain w lo (xs ++ [x]) hi'
  | _, [], _, _, _, h, h2, h3 => ⟨_, Nat.le_trans h h2, h3.lower h, Nat.le_refl _⟩
  | _, _ :: _, _, _, _, ⟨m, g1, g2, g3⟩, h2, h3 => ⟨m, g1, g2, g3.snoc h2 h3⟩
theorem Chain.mem {w : World} : ∀ {lo : Nat} {xs : List Fan} {hi : Nat} {x : Fan}, Chain w lo xs hi → x ∈ xs → ∃ l m, Oss w l m x.A x.n x.c x.rs
  | _, [], _, _, _, h => by simp at h
  | _, y :: t, _, x, ⟨m, _, g2, g3⟩, h => by
    rcases List.mem_cons.1 h with rfl | h
    · exact ⟨_, _, g2⟩
    · exact g3.mem h
theorem oss_setLow {w : World} {lo hi n c : Nat} {A : Option Addr} {rs : List Row} (h : Oss w lo hi A n c rs) {p : Addr} (hp : p.block < lo) (u : Value) : Oss (w.setCell p u) lo hi A n c rs := ⟨h.oss.setLow hp u, h.top, h.rtop⟩
theorem Chain.setLow {w : World} {p : Addr} (u : Value) : ∀ {lo : Nat} {xs : List Fan} {hi : Nat}, Chain w lo xs hi → p.block < lo → Chain (w.setCell p u) lo xs hi
  | _, [], _, h, _ => h
  | _, _ :: _, _, ⟨m, g1, g2, g3⟩, hp => ⟨m, g1, oss_setLow g2 hp u, g3.setLow u (Nat.lt_of_lt_of_le hp g1)⟩
/-- Fans of the call's own: the row at block lo, the curves behind it, up to block hi. -/
structure Ofs (w : World) (lo hi : Nat) (A : Option Addr) (n c : Nat) (xs : List Fan) : Prop where
  own : w.ownsRow lo 58 3 (.slice A n c) n (Fan.recs xs)
  top : ∀ k, Value.ownBlock (.slice A n c) = some k → k < lo + 1
  le : lo + 1 ≤ hi
  chain : Chain w (lo + 1) xs hi
theorem Ofs.same {a b : World} {lo hi n c : Nat} {A : Option Addr} {xs : List Fan} (h : Ofs a lo hi A n c xs) (s : Same lo hi a b) : Ofs b lo hi A n c xs :=
  ⟨owns_same h.own h.top (same_sub s (Nat.le_refl _) h.le), h.top, h.le, h.chain.same (same_sub s (by omega) (Nat.le_refl _))⟩
theorem Ofs.reads {a : World} {lo hi n c : Nat} {A : Option Addr} {xs : List Fan} (h : Ofs a lo hi A n c xs) : FSS a a.heap.size A n xs :=
  ⟨Reads.of_own h.own, fun x hx => by obtain ⟨l, m, g⟩ := h.chain.mem hx; exact g.reads⟩
set_option maxHeartbeats 800000 in
theorem szFanS_any (A : Option Addr) (n c : Nat) (xs : List Fan) (l : Int) (w : World) (hr : FSS w w.heap.size A n xs) (h1 : 0 ≤ l) (h2 : l ≤ 1048576) (hn : n ≤ maxLen) (hxs : ∀ x ∈ xs, x.ok0) :
    Calls Tryz.prog 5 #[.slice A n c, .int .i64 l] w fun e w' => e = .returned (.int .i64 (szI l (n + fansLen xs))) ∧ Below w.heap.size w w' := by
  unfold maxLen at hn
  have HL := Lib.hid hr.len
  have HM := Lib.hid hxs
  have t0 := fansLen_nonneg xs
  clear hxs
  by_cases hb : l < n
  · have HS := Lib.hid (szI_n (l := l) (s := n + fansLen xs) (by omega))
    go_enter Tryz.func5, Tryz.ntmps5
    go_wp2
    go_ret
    exact ⟨ret_int HS.out.symm, Below.refl _ _⟩
  · go_enter Tryz.func5, Tryz.ntmps5
    go_wp2
    go_loopw [1, 5] (fun s i wr => ∃ k : Nat, k ≤ n ∧ i = .int .i64 k ∧ s = .int .i64 (l - n - fansLen (xs.take k)) ∧ n + fansLen (xs.take k) ≤ l ∧ Below w.heap.size w wr) (fun _ i _ => n - (intOf i).toNat)
    case atStart => exact ⟨0, by omega, rfl, by simp [fansLen], by simp [fansLen]; omega, Below.refl _ _⟩
    case round =>
      obtain ⟨k, hk, rfl, rfl, hok, hbr⟩ := hrel
      have p0 := fansLen_nonneg (xs.take k)
      by_cases hlt : k < n
      · obtain ⟨ad, x, rfl, had, hx, hc, hrr⟩ := (hr.below hbr).at_ hlt
        have HX := Lib.hid (fansLen_snoc hx)
        have HT := Lib.hid (fansLen_take xs (k + 1))
        have hm := HM.out x (List.mem_of_getElem? hx)
        have hs := hm.s
        have hn' := hm.n
        have cc := szFan_any x.s x.a x.A x.n x.c x.rs (l - n - fansLen (xs.take k)) wr hs (hrr.more hbr.size) (by omega) (by omega) hn' hm.r
        obtain ⟨h0, h1, h2⟩ := Fan.open_ hc
        clear hx hc hm hs hn'
        by_cases hs : l - n - fansLen (xs.take k) < x.len
        · have HS := Lib.hid (szI_n (l := l) (s := n + fansLen xs) (by have := HX.out; have := HT.out; omega))
          rw [szI_n (by simpa only [Fan.len] using hs)] at cc
          have HC := Lib.hid cc
          clear cc
          go_wp2_with fail; ((with_reducible refine HC.out.mono ?_); rintro e w1 ⟨rfl, hb1⟩)
          go_wp2
          go_ret
          exact ⟨ret_int HS.out.symm, hbr.trans (hb1.mono hbr.size)⟩
        · rw [szI_y (by simpa only [Fan.len] using hs), show l - n - fansLen (xs.take k) - ((x.s.size : Int) + ((x.n : Int) + tot x.rs)) = l - n - fansLen (xs.take k) - x.len from rfl] at cc
          have HC := Lib.hid cc
          clear cc
          go_wp2_with fail; ((with_reducible refine HC.out.mono ?_); rintro e w1 ⟨rfl, hb1⟩)
          go_wp2
          go_roundw
          case rel => exact ⟨k + 1, by omega, by go_num, by rw [HX.out]; exact congrArg (Value.int .i64) (by omega), by rw [HX.out]; omega, hbr.trans (hb1.mono hbr.size)⟩
          case measure => simp [intOf]; omega
      · have e : k = n := by omega
        have HT : Hid (xs.take k = xs) := List.take_of_length_le (by rw [HL.out]; omega)
        rw [HT.out] at hok
        have HS := Lib.hid (szI_y (l := l) (s := n + fansLen xs) (by omega))
        go_wp2
        go_ret
        exact ⟨ret_int (by rw [HS.out, HT.out]; omega), hbr⟩
theorem info_Fan : (Tryz.prog.info? 58).map (fun i => (i.zero, i.size, i.bytes)) = some (some (.agg #[.string ByteArray.empty, .int .i64 0, .slice none 0 0]), 3, 48) := by kernel_rfl
theorem fan_snoc {xs' xs : List Fan} {k : Nat} {x y : Fan} (h : fdat xs' = (fdat xs).take k) (hx : xs[k]? = some x) (hy : y.key = x.key) : fdat (xs' ++ [y]) = (fdat xs).take (k + 1) := by
  rw [take_snoc (fdat_at hx), ← h, ← hy]; simp [fdat]
set_option maxHeartbeats 1600000 in
theorem toFanS_any (A : Option Addr) (n c : Nat) (xs : List Fan) (w : World) (hr : FSS w w.heap.size A n xs) (hn : n ≤ 1048576) (hxs : ∀ x ∈ xs, x.ok) :
    Calls Tryz.prog 9 #[.slice A n c] w fun e w' => ∃ xs', e = .returned (.slice (some ⟨w.heap.size, 0, none⟩) n n) ∧ Ofs w' w.heap.size w'.heap.size (some ⟨w.heap.size, 0, none⟩) n n xs' ∧ fdat xs' = fdat xs ∧ (∀ x ∈ xs', x.ok) ∧ Below w.heap.size w w' := by
  have HL := Lib.hid hr.len
  have HM := Lib.hid hxs
  clear hxs
  obtain ⟨i0, hi0, hz0, hz1, hz2⟩ := info_parts info_Fan
  have hmk := run_make_rowN (P := Tryz.prog) 36 58 i0 _ Tryz.underlying36 hi0 hz0 .i64 .i64 n n (Nat.le_refl _) (by rw [hz2]; omega) (by omega)
  rw [hz1] at hmk
  go_enter Tryz.func9, Tryz.ntmps9
  go_wp2
  go_loopw [4] (fun i wr => ∃ (k : Nat) (cur : Array Value) (xs' : List Fan), k ≤ n ∧ i = .int .i64 k ∧ Blk wr w.heap.size 58 cur ∧
    Hid (cur.size = n * 3 ∧ xs'.length = k ∧ fdat xs' = (fdat xs).take k ∧ (∀ j, j < k * 3 → cur[j]? = (Fan.recs xs')[j]?) ∧ (∀ x ∈ xs', x.ok) ∧ Chain wr (w.heap.size + 1) xs' wr.heap.size) ∧ Below w.heap.size w wr) (fun i _ => n - (intOf i).toNat)
  case atStart => exact ⟨0, _, [], by omega, rfl, Blk.new _ _ _, ⟨size_madeCells _ _, rfl, by simp [fdat], fun j hj => absurd hj (by omega), fun x h => by simp at h, by simp [Chain]⟩, by (repeat (first | exact Below.refl _ _ | assumption | (refine Below.alloc ?_ (by first | exact Nat.le_refl _ | (simp; done) | (simp; omega)) _) | (refine below_drewN ?_ _) | (refine Below.trans ?_ (Below.mono (by assumption) (by first | exact Nat.le_refl _ | (simp; done) | (simp; omega) | omega)))))⟩
  case round =>
    obtain ⟨k, cur, xs', hk, rfl, hbk, HC, hbw⟩ := hrel
    have hz := hbw.size
    have hgl := hbk.lt
    by_cases hlt : k < n
    · obtain ⟨ad, x, rfl, had, hx, hc, hrr⟩ := (hr.below hbw).at_ hlt
      have hm := HM.out x (List.mem_of_getElem? hx)
      have HX := Lib.hid hx
      have HRR := Lib.hid hrr
      obtain ⟨h0, h1, h2⟩ := Fan.open_ hc
      have cc := toFan_any x.s x.a x.A x.n x.c x.rs wr hm.sm (hrr.more hz) hm.n hm.r
      have HMx := Lib.hid hm
      clear hx hc hm
      go_wp2_with fail; ((with_reducible refine cc.mono ?_); rintro e w1 ⟨A', rs', rfl, o1, D1, hb1⟩)
      clear cc
      have HO := Lib.hid (oss_mk o1)
      have HD := Lib.hid D1
      have hz1 := hb1.size
      clear o1 D1
      have hbk1 := hbk.below hb1 hgl
      have hcs : Hid (cur.size = n * 3) := HC.out.1
      have hkz : k * 3 + 2 < cur.size := by rw [hcs.out]; omega
      have o0 : w1.cell? ⟨w.heap.size, k * 3, none⟩ = some (cur[k * 3 + 0]'(by omega)) := by rw [hbk1.cell]; exact Array.getElem?_eq_getElem (by omega)
      have f0 := hbk1.frozen (k * 3)
      have o1 : w1.cell? ⟨w.heap.size, k * 3 + 1, none⟩ = some (cur[k * 3 + 1]'(by omega)) := by rw [hbk1.cell]; exact Array.getElem?_eq_getElem (by omega)
      have f1 := hbk1.frozen (k * 3 + 1)
      have o2 : w1.cell? ⟨w.heap.size, k * 3 + 2, none⟩ = some (cur[k * 3 + 2]'(by omega)) := by rw [hbk1.cell]; exact Array.getElem?_eq_getElem (by omega)
      have f2 := hbk1.frozen (k * 3 + 2)
      have HY : Hid (Chain w1 (w.heap.size + 1) (xs' ++ [Fan.mk x.s x.a A' x.n x.n rs']) w1.heap.size) :=
        (HC.out.2.2.2.2.2.same ((Same.refl _ _ wr).below hb1 (Nat.le_refl _))).snoc hz1 HO.out
      have HW : Hid (∀ y ∈ xs' ++ [Fan.mk x.s x.a A' x.n x.n rs'], Fan.ok y) := by
        intro y hy
        rcases List.mem_append.1 hy with hy | hy
        · exact HC.out.2.2.2.2.1 y hy
        · rw [List.mem_singleton] at hy
          subst hy
          exact ⟨HMx.out.s, HMx.out.n, bound_dat HRR.out HO.out.reads HD.out HMx.out.r, by show tot rs' ≤ _; rw [tot_eq HRR.out HO.out.reads HD.out]; exact HMx.out.t⟩
      go_wp2
      go_roundw
      case rel =>
        obtain ⟨c1, c2, c3, c4, c5, c6⟩ := HC.out
        have HS := rel_set (n := n) (cur := cur) (xs := xs' ++ [Fan.mk x.s x.a A' x.n x.n rs']) (k := k) (x := Fan.mk x.s x.a A' x.n x.n rs') Fan.clen (by rw [List.getElem?_append_right (by omega), c2, Nat.sub_self]; rfl) hlt c1 (fun j hj => by
          rw [c4 j hj]
          unfold Fan.recs
          rw [recs_append, List.getElem?_append_left (by rw [recs_len Fan.clen, c2]; exact hj)])
        refine ⟨k + 1, _, xs' ++ [Fan.mk x.s x.a A' x.n x.n rs'], by omega, by go_num, (((hbk1.set_ (k * 3) _).set_ (k * 3 + 1) _).set_ (k * 3 + 2) _), ⟨HS.1, by simp [c2], fan_snoc (y := Fan.mk x.s x.a A' x.n x.n rs') c3 HX.out (by unfold Fan.key; rw [HD.out]), HS.2, HW.out, ?_⟩, ?_⟩
        · simp only [World.size_setCell]
          exact ((HY.out.setLow _ (by simp)).setLow _ (by simp)).setLow _ (by simp)
        · exact ((((hbw.trans (hb1.mono hz)).setCell (by simp) _).setCell (by simp) _).setCell (by simp) _)
      case measure => simp [intOf]; omega
    · have e : k = n := by omega
      subst e
      go_wp2
      go_ret
      obtain ⟨c1, c2, c3, c4, c5, c6⟩ := HC.out
      refine ⟨xs', rfl, ⟨own_of_blkZ hbk (by unfold Fan.recs; rw [recs_len Fan.clen, c2]) c1 (wfmax hn) c4, fun j hj => ?_, hgl, c6⟩, by rw [c3, List.take_of_length_le (by rw [fdat_len, HL.out]; omega)], c5, hbw⟩
      simp [Value.ownBlock] at hj; omega
set_option maxHeartbeats 1600000 in
set_option maxRecDepth 100000 in
theorem eqFanS_b (A B : Option Addr) (n c d : Nat) (xs ys : List Fan) (w : World) (hr : FSS w w.heap.size A n xs) (hq : FSS w w.heap.size B n ys) (hd : fdat xs = fdat ys) (hn : n ≤ 1099511627776) (hxs : ∀ x ∈ xs, x.ok) :
    Calls Tryz.prog 13 #[.slice A n c, .slice B n d] w fun e w' => e = .returned (.bool true) ∧ Below w.heap.size w w' := by
  have HM := Lib.hid hxs
  have HD := Lib.hid hd
  clear hxs hd
  go_enter Tryz.func13, Tryz.ntmps13
  go_wp2
  go_loopw [5] (fun i wr => ∃ (k : Nat), k ≤ n ∧ i = .int .i64 k ∧ Below w.heap.size w wr) (fun i _ => n - (intOf i).toNat)
  case atStart => exact ⟨0, by omega, rfl, Below.refl _ _⟩
  case round =>
    obtain ⟨k, hk, rfl, hbw⟩ := hrel
    have hz := hbw.size
    by_cases hlt : k < n
    · obtain ⟨ad, x, rfl, had, hx, hc, hrx⟩ := (hr.below hbw).at_ hlt
      obtain ⟨bd, y, rfl, hbd, hy, hc', hry⟩ := (hq.below hbw).at_ hlt
      have hm := HM.out x (List.mem_of_getElem? hx)
      have hkey : x.key = y.key := by
        have h1 := fdat_at hx
        rw [HD.out, fdat_at hy] at h1
        exact (Option.some.inj h1).symm
      obtain ⟨h0, h1, h2⟩ := Fan.open_ hc
      obtain ⟨k0, k1, k2⟩ := Fan.open_ hc'
      obtain ⟨xs, xa, xA, xn, xc, xr⟩ := x
      obtain ⟨ys, ya, yA, yn, yc, yr⟩ := y
      simp only [Fan.key, Prod.mk.injEq] at hkey
      obtain ⟨rfl, rfl, hdd⟩ := hkey
      simp only at h0 h1 h2 k0 k1 k2 hrx hry
      obtain rfl : xn = yn := by
        have g1 := hrx.len
        have g2 := hry.len
        have g3 := congrArg List.length hdd
        rw [dat_len, dat_len] at g3
        omega
      have hlt' : (k : Int) < (n : Int) := by omega
      have HE : Hid (Calls Tryz.prog 46 #[.agg #[.string xs, .int .i64 xa, .slice xA xn xc], .agg #[.string xs, .int .i64 xa, .slice yA xn yc]] wr.drew fun e w' => e = .returned (.bool true) ∧ Below wr.drew.heap.size wr.drew w') :=
        eqFan_b xs xa xA yA xn xc yc xr yr wr.drew ((hrx.below (below_drew (Below.refl _ _))).more hz) ((hry.below (below_drew (Below.refl _ _))).more hz) hdd (by have := hm.n; simp only at this; omega) (fun r hr => Nat.le_trans (hm.r r hr) (by omega))
      clear hx hy hc hc' hdd hm
      go_wp2
      go_still_tail 8, (by kernel_rfl)
      go_wp2_with fail; ((with_reducible refine HE.out.mono ?_); rintro e w1 ⟨rfl, hb1⟩)
      go_wp2
      go_roundw
      case rel => exact ⟨k + 1, by omega, by go_num, (below_drew hbw).trans (hb1.mono hz)⟩
      case measure => simp [intOf]; omega
    · go_wp2
      go_ret
      exact ⟨rfl, hbw⟩
end Go.Proofs.YtjmhhbjbmgpagaaGreat

/- Opening an argument that is a slice of fans. -/
namespace Go.Proofs.YtjmhhbjbmgpagaaGreat
set_option linter.unusedVariables false
set_option linter.unusedSimpArgs false
open Go.ChangeShapes Go.WideShapes Go.ChangeAt Go.RowKit Go.Joins Go.Deep
section
variable {H : Type} {enc : TypeId × Value → H} {P : Program} {W : World} {base : Nat} {t e rt rq : TypeId} {v : Value} {d : DataW H} {p : List MemPlace}
theorem op_fans {fuel : Nat} {f0 f1 f2 : Field} {x : DataW H × List MemPlace} (ht : P.underlying t = some (.slice e)) (he : P.underlying e = some (.struct #[f0, f1, f2])) (hone : oneCellFields P #[f0, f1, f2] = true) (hC : P.cellsOf e = 3)
    (h0 : P.underlying f0.type = some .string) (h1 : P.underlying f1.type = some (.int .i64)) (h2 : P.underlying f2.type = some (.slice rt)) (h3 : P.underlying rt = some (.slice rq)) (h4 : P.underlying rq = some (.int .i64)) (ce : P.cellsOf rt = 1) (cq : P.cellsOf rq = 1)
    {a0 : Option Addr} {n0 c0 : Nat} (h : DataW.trod enc P W 0 (fun _ => true) true fuel t [.slice a0 n0 c0] = some x) :
    ∃ xs, n0 ≤ c0 ∧ c0 ≤ maxLen ∧ FSS W W.heap.size a0 n0 xs ∧ ∀ x ∈ xs, Fan.ok0 x := by
  rcases fields_at ht he hone hC h with hcs | ⟨a, len, cap, hcs, hl, hm, hi⟩
  · simp only [List.cons.injEq, Value.slice.injEq, and_true] at hcs
    obtain ⟨rfl, rfl, rfl⟩ := hcs
    exact ⟨[], by omega, by simp [maxLen], ⟨Reads.none_, fun x hx => by simp at hx⟩, fun x hx => by simp at hx⟩
  · simp only [List.cons.injEq, Value.slice.injEq, and_true] at hcs
    obtain ⟨rfl, rfl, rfl⟩ := hcs
    obtain ⟨xs, hxl, hxs⟩ := exists_list (p := fun i (x : Fan) => (x.ok0 ∧ RSS W W.heap.size x.A x.n x.rs) ∧ ∀ j u, x.cells[j]? = some u → W.cell? (a.add (i * 3 + j)) = some u) n0 (fun i hin => by
      obtain ⟨n, hf⟩ := hi i (by omega)
      obtain ⟨u0, y0, g0, k0⟩ := hf 0 f0 rfl
      obtain ⟨s, q0, _, w0⟩ := DataW.trod_string h0 k0
      obtain ⟨u1, y1, g1, k1⟩ := hf 1 f1 rfl
      obtain ⟨m1, q1, _, w1⟩ := DataW.trod_int h1 k1
      obtain ⟨u2, y2, g2, k2⟩ := hf 2 f2 rfl
      obtain ⟨A, nn, c, rs, rfl, r1, r2, r3, r4⟩ := op_rowsF h2 h3 h4 ce cq k2
      simp only [List.cons.injEq, and_true] at q0 q1
      subst q0 q1
      refine ⟨Fan.mk s m1 A nn c rs, ⟨⟨w0, Nat.le_trans r1 r2, r4⟩, r3⟩, fun j u hu => ?_⟩
      have hj : j < 3 := by
        rcases Nat.lt_or_ge j 3 with h1 | h1
        · exact h1
        · rw [List.getElem?_eq_none (by rw [Fan.clen]; exact h1)] at hu; cases hu
      match j, hj with
      | 0, _ => obtain rfl := Option.some.inj hu; exact g0
      | 1, _ => obtain rfl := Option.some.inj hu; exact g1
      | 2, _ => obtain rfl := Option.some.inj hu; exact g2)
    exact ⟨xs, hl, hm, ⟨reads_recs Fan.clen (by omega) hxl fun i x h => (hxs i x h).2, fun x hx => by
      obtain ⟨i, hi⟩ := List.getElem?_of_mem hx
      exact (hxs i x hi).1.2⟩, fun x hx => by
      obtain ⟨i, hi⟩ := List.getElem?_of_mem hx
      exact (hxs i x hi).1.1⟩
theorem op_fansS {f0 f1 f2 : Field} (ht : P.underlying t = some (.slice e)) (he : P.underlying e = some (.struct #[f0, f1, f2])) (hone : oneCellFields P #[f0, f1, f2] = true) (hC : P.cellsOf e = 3)
    (h0 : P.underlying f0.type = some .string) (h1 : P.underlying f1.type = some (.int .i64)) (h2 : P.underlying f2.type = some (.slice rt)) (h3 : P.underlying rt = some (.slice rq)) (h4 : P.underlying rq = some (.int .i64)) (ce : P.cellsOf rt = 1) (cq : P.cellsOf rq = 1)
    (hv : Value.okWide P W .any base t v) (h : DataW.Trod enc P W 0 (fun _ => true) true t v d p) :
    ∃ A n c xs, v = .slice A n c ∧ n ≤ c ∧ c ≤ maxLen ∧ FSS W W.heap.size A n xs ∧ ∀ x ∈ xs, Fan.ok0 x := by
  obtain ⟨a0, n0, c0, rfl⟩ := okWide_slice ht hv
  obtain ⟨fuel, hf⟩ := h
  obtain ⟨xs, h1, h2, h3, h4⟩ := op_fans ht he hone hC h0 h1 h2 h3 h4 ce cq hf
  exact ⟨a0, n0, c0, xs, rfl, h1, h2, h3, h4⟩
end
end Go.Proofs.YtjmhhbjbmgpagaaGreat

/- Contract of the laws' own marks on fans. -/
namespace Go.Proofs.YtjmhhbjbmgpagaaGreat
set_option linter.unusedVariables false
set_option linter.unusedSimpArgs false
open Go.RowKit
def keyLen (x : ByteArray × Int × List (List Int)) : Int := x.1.size + (x.2.2.length + totD x.2.2)
def keysLen : List (ByteArray × Int × List (List Int)) → Int
  | [] => 0
  | x :: t => keyLen x + keysLen t
theorem fansLen_key {w : World} {B : Nat} : ∀ {xs : List Fan}, (∀ x ∈ xs, RSS w B x.A x.n x.rs) → fansLen xs = keysLen (fdat xs)
  | [], _ => rfl
  | x :: t, h => by
    have h1 := fansLen_key (xs := t) fun q hq => h q (List.mem_cons_of_mem _ hq)
    have h2 := h x (List.mem_cons_self ..)
    have h3 := tot_dat h2.row
    have h4 := h2.len
    have h5 := dat_len x.rs
    simp only [fansLen, fdat, List.map_cons, keysLen, keyLen, Fan.key, Fan.len]
    rw [h1, h3, h5, h4]; rfl
theorem fansLen_eq {w w' : World} {B B' n m : Nat} {A A' : Option Addr} {xs xs' : List Fan} (h : FSS w B A n xs) (h' : FSS w' B' A' m xs') (hd : fdat xs' = fdat xs) : fansLen xs' = fansLen xs := by
  rw [fansLen_key h.row, fansLen_key h'.row, hd]
/-- How many marks the fans take. -/
def mksF : List Fan → Int
  | [] => 0
  | x :: t => 2 + tot x.rs + mksF t
theorem mksF_bnd : ∀ xs : List Fan, 0 ≤ mksF xs ∧ mksF xs ≤ 2 * xs.length + fansLen xs
  | [] => by simp [mksF, fansLen]
  | x :: t => by
    have h := mksF_bnd t
    have h1 := tot_nonneg x.rs
    simp only [mksF, fansLen, List.length_cons, Fan.len]
    omega
theorem mksF_drop {xs : List Fan} {k : Nat} {x : Fan} (h : xs[k]? = some x) : mksF (xs.drop k) = 2 + tot x.rs + mksF (xs.drop (k + 1)) := by
  have hk : k < xs.length := len_of_at h
  rw [List.drop_eq_getElem_cons hk]
  rw [List.getElem?_eq_getElem hk] at h
  rw [Option.some.inj h]; rfl
theorem drop_cons {α : Type} {xs : List α} {k : Nat} {x : α} (h : xs[k]? = some x) : xs.drop k = x :: xs.drop (k + 1) := by
  have hk : k < xs.length := len_of_at h
  rw [List.drop_eq_getElem_cons hk]
  rw [List.getElem?_eq_getElem hk] at h
  rw [Option.some.inj h]
theorem chg_wide {lo hi l h : Nat} {a b : World} (c : Chg l h a b) (h1 : lo ≤ l) (h2 : h ≤ hi) : Chg lo hi a b := ⟨c.os, c.tape, c.output, c.size, fun i g1 g2 => c.blk i g1 (by omega)⟩
theorem Chg.set {lo hi : Nat} {a b : World} (c : Chg lo hi a b) {p : Addr} (h1 : lo ≤ p.block) (h2 : p.block < hi) (u : Value) : Chg lo hi a (b.setCell p u) :=
  ⟨c.os, c.tape, c.output, by simpa [World.setCell] using c.size, fun i g1 g2 => (Below.heap_setCell b p u i (by rintro rfl; omega)).trans (c.blk i g1 g2)⟩
theorem Chg.grow {lo hi : Nat} {a b c : World} (h : Chg lo hi a b) (k : Below b.heap.size b c) : Chg lo hi a c := h.trans (Chg.of_below k)
/-- How fans stand while the first j of them are marked. -/
structure MrkF (w : World) (lo hi n : Nat) (xs : List Fan) (j : Nat) (cu : Array Value) : Prop where
  size : cu.size = n * 3 ∨ n * 3 ≤ cu.size
  due : ∀ l, j * 3 ≤ l → l < n * 3 → cu[l]? = (Fan.recs xs)[l]?
  chain : ∃ b, lo + 1 ≤ b ∧ Chain w b (xs.drop j) hi
set_option maxHeartbeats 3200000 in
set_option maxRecDepth 100000 in
theorem markFanS_any (lo hi : Nat) (A : Option Addr) (n c : Nat) (xs : List Fan) (k : Int) (w : World) (h : Ofs w lo hi A n c xs) (hn : n ≤ 1048576) (hxs : ∀ x ∈ xs, x.ok) (ht : fansLen xs ≤ 1048576) (hi' : hi ≤ w.heap.size) (hk0 : 0 ≤ k) (hk1 : k ≤ 1000000000) :
    Calls Tryz.prog 16 #[.slice A n c, .int .i64 k] w fun e w' => e = .returned (.int .i64 (k + mksF xs)) ∧ Chg lo hi w w' := by
  have HL := Lib.hid h.reads.len
  have hmk := mksF_bnd xs
  rw [HL.out] at hmk
  rcases Nat.eq_zero_or_pos n with h0 | hpos
  · subst h0
    have hx : xs = [] := List.eq_nil_of_length_eq_zero HL.out
    subst hx
    go_enter Tryz.func16, Tryz.ntmps16
    go_wp2
    go_loop [1, 5] (fun kk i => kk = .int .i64 k ∧ i = .int .i64 0) (fun _ _ => 0)
    case atStart => exact ⟨rfl, rfl⟩
    case round =>
      obtain ⟨rfl, rfl⟩ := hrel
      go_wp2
      go_ret
      exact ⟨ret_int (by simp [mksF]), Chg.refl _ _ _⟩
  · have HM := Lib.hid hxs
    have hle := h.le
    have hch := Lib.hid h.chain
    rcases h.own.2 with ⟨_, h0⟩ | ⟨g, cap, cur, hv, hbg, hgb, hnc, hcm, hcs, htake⟩
    · exfalso
      have h1 := h.own.1
      rw [h0] at h1
      simp at h1; omega
    have hglo : g = lo := by
      injection hv with hA _ _
      have := h.top g (by rw [hA]; rfl)
      omega
    subst hglo
    injection hv with hA _ hc
    subst hA
    subst hc
    have hBlk : Blk w g 58 cur := hgb
    have HC0 : Hid (cur.size = c * 3 ∧ n ≤ c ∧ ∀ l, l < n * 3 → cur[l]? = (Fan.recs xs)[l]?) := ⟨hcs, hnc, fun l hl => by
      rw [← htake, List.getElem?_take, if_pos hl, Array.getElem?_toList]⟩
    have hgl := hBlk.lt
    clear hxs h hcs htake
    go_enter Tryz.func16, Tryz.ntmps16
    go_wp2
    go_loopw [1, 5] (fun kk i wr => ∃ (j : Nat) (cu : Array Value) (kv : Int), j ≤ n ∧ kk = .int .i64 kv ∧ kv + mksF (xs.drop j) = k + mksF xs ∧ k ≤ kv ∧ i = .int .i64 j ∧ Blk wr g 58 cu ∧
      Hid (cu.size = c * 3 ∧ (∀ l, j * 3 ≤ l → l < n * 3 → cu[l]? = (Fan.recs xs)[l]?) ∧ ∃ b, g + 1 ≤ b ∧ Chain wr b (xs.drop j) hi) ∧ Hid (Chg g hi w wr)) (fun _ i _ => n - (intOf i).toNat)
    case atStart => exact ⟨0, cur, k, by omega, rfl, rfl, Int.le_refl _, rfl, hBlk, ⟨HC0.out.1, fun l _ hl => HC0.out.2.2 l hl, g + 1, Nat.le_refl _, hch.out⟩, Chg.refl _ _ _⟩
    case round =>
      obtain ⟨j, cu, kv, hj, rfl, hkv, hkv0, rfl, hbk, HC, HG⟩ := hrel
      obtain ⟨wo, rfl⟩ : ∃ wo : World, wo = wr := ⟨_, rfl⟩
      by_cases hlt : j < n
      · obtain ⟨x, hx⟩ : ∃ x, xs[j]? = some x := ⟨_, List.getElem?_eq_getElem (by rw [HL.out]; exact hlt)⟩
        obtain ⟨c1, c2, b, hb, hcn⟩ := HC.out
        rw [drop_cons hx] at hcn
        obtain ⟨m, hm1, hoss, hrest⟩ := hcn
        have hok := HM.out x (List.mem_of_getElem? hx)
        have hdm := mksF_drop hx
        have hrm := mksF_bnd (xs.drop (j + 1))
        have hmle := hrest.le
        have htn := tot_nonneg x.rs
        have htk := hok.t
        have hgw := hbk.lt
        have hgs := HG.out.size
        have hr2 : cu[j * 3 + 2]? = some (.slice x.A x.n x.c) := by
          rw [c2 (j * 3 + 2) (by omega) (by omega)]
          exact recs_at (f := Fan.cells) (z := 3) Fan.clen hx (by omega)
        have hcu : cu.size = c * 3 := c1
        have hjz : j * 3 + 2 < cu.size := by rw [hcu]; have := HC0.out.2.1; omega
        have HOS := Lib.hid hoss
        have HRS := Lib.hid hrest
        have HOK := Lib.hid hok
        have HR2 := Lib.hid hr2
        have HC2 := Lib.hid c2
        have HX := Lib.hid hx
        have HCU := Lib.hid hcu
        have hkv1 : kv + 2 + tot x.rs + mksF (xs.drop (j + 1)) = k + mksF xs := by omega
        have hks : kv ≤ 1099511627776 := by omega
        have hks0 : 0 ≤ kv := by omega
        clear hx c1 c2 hoss hrest hok hr2 hcu HC hdm hkv
        go_wp2_with fail; ((with_reducible refine (markText_any _ _ hks0 hks).mono ?_); rintro e w1 ⟨ms, rfl, hb1⟩)
        have hbk1 := hbk.below hb1 hgw
        have o0 : w1.cell? ⟨g, j * 3, none⟩ = some (cu[j * 3 + 0]'(by omega)) := by rw [hbk1.cell]; exact Array.getElem?_eq_getElem (by omega)
        have f0 := hbk1.frozen (j * 3)
        have o1 : w1.cell? ⟨g, j * 3 + 1, none⟩ = some (cu[j * 3 + 1]'(by omega)) := by rw [hbk1.cell]; exact Array.getElem?_eq_getElem (by omega)
        have f1 := hbk1.frozen (j * 3 + 1)
        have o2 : w1.cell? ⟨g, j * 3 + 2, none⟩ = some (.slice x.A x.n x.c) := (hbk1.cell (j * 3 + 2)).trans HR2.out
        have f2 := hbk1.frozen (j * 3 + 2)
        have hz1 := hb1.size
        have HK2 : Hid (∀ u v, Blk ((w1.setCell ⟨g, j * 3, none⟩ u).setCell ⟨g, j * 3 + 1, none⟩ v) g 58 ((cu.setIfInBounds (j * 3) u).setIfInBounds (j * 3 + 1) v)) := fun u v => (hbk1.set_ _ _).set_ _ _
        have HO2 : Hid (∀ u v, Oss ((w1.setCell ⟨g, j * 3, none⟩ u).setCell ⟨g, j * 3 + 1, none⟩ v) b m x.A x.n x.c x.rs ∧ Chain ((w1.setCell ⟨g, j * 3, none⟩ u).setCell ⟨g, j * 3 + 1, none⟩ v) m (xs.drop (j + 1)) hi) := fun u v =>
          have s1 : Same b hi wo w1 := (Same.refl b hi wo).below hb1 (by omega)
          ⟨oss_setLow (oss_setLow (HOS.out.same (same_sub s1 (Nat.le_refl _) hmle)) (p := ⟨g, j * 3, none⟩) (by show g < b; omega) u) (p := ⟨g, j * 3 + 1, none⟩) (by show g < b; omega) v,
            ((HRS.out.same (same_sub s1 hm1 (Nat.le_refl _))).setLow (p := ⟨g, j * 3, none⟩) u (by show g < m; omega)).setLow (p := ⟨g, j * 3 + 1, none⟩) v (by show g < m; omega)⟩
        have HG2 : Hid (∀ u v, Chg g hi w ((w1.setCell ⟨g, j * 3, none⟩ u).setCell ⟨g, j * 3 + 1, none⟩ v)) := fun u v =>
          ((HG.out.grow hb1).set (p := ⟨g, j * 3, none⟩) (Nat.le_refl _) (by show g < hi; omega) u).set (p := ⟨g, j * 3 + 1, none⟩) (Nat.le_refl _) (by show g < hi; omega) v
        have HMK : Hid (∀ u v, Calls Tryz.prog 49 #[.slice x.A x.n x.c, .int .i64 (kv + 1 + 1)] ((w1.setCell ⟨g, j * 3, none⟩ u).setCell ⟨g, j * 3 + 1, none⟩ v) fun e w' => e = .returned (.int .i64 (kv + 1 + 1 + tot x.rs)) ∧ Oss w' b m x.A x.n x.c (numR x.rs (kv + 1 + 1)) ∧ Chg b m ((w1.setCell ⟨g, j * 3, none⟩ u).setCell ⟨g, j * 3 + 1, none⟩ v) w') :=
          fun u v => markInt64SS_any b m x.A x.n x.c x.rs (kv + 1 + 1) _ (HO2.out u v).1 HOK.out.n HOK.out.r HOK.out.t (by omega) (by omega)
        go_wp2_with fail; ((with_reducible refine (HMK.out _ _).mono ?_); rintro e w2 ⟨rfl, _, hg2⟩)
        have hsz : g < w1.heap.size := Nat.lt_of_lt_of_le hgw hz1
        have K3 : Blk w2 g 58 ((cu.setIfInBounds (j * 3) (.string ms)).setIfInBounds (j * 3 + 1) (.int .i64 (kv + 1))) := (hg2.blk g (by simp only [World.size_setCell]; exact hsz) (Or.inl hb)).trans (HK2.out _ _)
        have HN : Hid (((cu.setIfInBounds (j * 3) (.string ms)).setIfInBounds (j * 3 + 1) (.int .i64 (kv + 1))).size = c * 3 ∧ (∀ l, (j + 1) * 3 ≤ l → l < n * 3 → ((cu.setIfInBounds (j * 3) (.string ms)).setIfInBounds (j * 3 + 1) (.int .i64 (kv + 1)))[l]? = (Fan.recs xs)[l]?) ∧ ∃ b', g + 1 ≤ b' ∧ Chain w2 b' (xs.drop (j + 1)) hi) := by
          refine ⟨by simpa using HCU.out, fun l h1 h2 => ?_, m, by omega, ?_⟩
          · rw [Array.getElem?_setIfInBounds, if_neg (by omega), Array.getElem?_setIfInBounds, if_neg (by omega)]
            exact HC2.out l (by omega) h2
          · exact (HO2.out (.string ms) (.int .i64 (kv + 1))).2.same ((Same.refl m hi _).chg hg2 (by simp only [World.size_setCell]; omega) (Or.inr (Nat.le_refl _)))
        have HG3 := Lib.hid ((HG2.out (.string ms) (.int .i64 (kv + 1))).trans (chg_wide (lo := g) (hi := hi) hg2 (by omega) hmle))
        have HK3 := Lib.hid K3
        clear hg2 K3 hbk1 o0 o1 o2 f0 f1 f2 hb1
        go_wp2
        go_roundw
        case rel => exact ⟨j + 1, _, kv + 1 + 1 + tot x.rs, by omega, rfl, by omega, by omega, by go_num, HK3.out, HN.out, HG3.out⟩
        case measure => simp [intOf]; omega
      · have e : j = n := by omega
        have hz : mksF (xs.drop j) = 0 := by rw [List.drop_eq_nil_of_le (by rw [HL.out]; omega)]; rfl
        clear e HC
        go_wp2
        go_ret
        exact ⟨ret_int (by omega), HG.out⟩
end Go.Proofs.YtjmhhbjbmgpagaaGreat

/- Contracts of the test of an airway, and of its ends. -/
namespace Go.Proofs.YtjmhhbjbmgpagaaGreat
set_option linter.unusedVariables false
set_option linter.unusedSimpArgs false
open Go.RowKit
theorem quietE' {P : Program} {f : FuncId} {args : Array Value} {w : World} {n : Nat} {b c : Bool}
    (h : Calls P f args (w.drewN n) fun e w' => e = .returned (.bool b) ∧ w.drewN n = w') (hb : b = c) : Calls P f args (w.drewN n) fun e w'' => e = .returned (.bool c) ∧ ∃ m, w'' = w.drewN m :=
  h.mono fun _ _ ⟨he, hm⟩ => ⟨by rw [he, hb], n, hm.symm⟩
theorem quietBD {P : Program} {f : FuncId} {args : Array Value} {w : World} {n : Nat} {b c : Bool}
    (h : Calls P f args (w.drewN n) fun e w' => e = .returned (.bool b) ∧ ∃ m, w' = (w.drewN n).drewN m) (hb : b = c) : Calls P f args (w.drewN n) fun e w'' => e = .returned (.bool c) ∧ ∃ m, w'' = w.drewN m :=
  Calls.quiet_of (h.mono fun _ _ ⟨he, hm⟩ => ⟨by rw [he, hb], hm⟩)
def awyOk (x : Awy) : Bool := isName x.s && inB x.a 0 15 && inB x.b 0 15 && !(x.a == x.b) && inB x.l 1 10000 && inB x.c 50 5000 && inB x.f 1 1000 && inB x.h 0 1000
theorem awyOk_t {x : Awy} (h : awyOk x = true) : (0 ≤ x.a ∧ x.a ≤ 15) ∧ (0 ≤ x.b ∧ x.b ≤ 15) ∧ x.a ≠ x.b ∧ (1 ≤ x.l ∧ x.l ≤ 10000) ∧ (50 ≤ x.c ∧ x.c ≤ 5000) ∧ (1 ≤ x.f ∧ x.f ≤ 1000) ∧ (0 ≤ x.h ∧ x.h ≤ 1000) := by
  unfold awyOk at h
  simp only [Bool.and_eq_true, Bool.not_eq_true', beq_eq_false_iff_ne, ne_eq] at h
  have h1 := inB_t h.1.1.1.1.1.1.2
  have h2 := inB_t h.1.1.1.1.1.2
  have h3 := inB_t h.1.1.1.2
  have h4 := inB_t h.1.1.2
  have h5 := inB_t h.1.2
  have h6 := inB_t h.2
  exact ⟨h1, h2, h.1.1.1.1.2, h3, h4, h5, h6⟩
set_option maxHeartbeats 1600000 in
theorem l03Ok_any (x : Awy) (p : Addr) (w : World) (hs : x.s.size ≤ maxLen) (hc : Cells w p x.cells) :
    Calls Tryz.prog 52 #[.pointer (some p)] w fun e w' => e = .returned (.bool (awyOk x)) ∧ ∃ n, w' = w.drewN n := by
  obtain ⟨h0, h1, h2, h3, h4, h5, h6⟩ := Awy.open_ hc
  clear hc
  rcases Bool.eq_false_or_eq_true (isName x.s) with k0 | k0
  · rcases Bool.eq_false_or_eq_true (inB x.a 0 15) with k1 | k1
    · rcases Bool.eq_false_or_eq_true (inB x.b 0 15) with k2 | k2
      · rcases Bool.eq_false_or_eq_true (x.a == x.b) with k3 | k3
        · go_enter Tryz.func52, Tryz.ntmps52
          go_wp2
          go_quiet ((first | (go_at_call 86; exact quietE' (l01Name_any _ _ hs) k0) | (go_at_call 22; first | exact quietE' (l00In_any _ _ _ _) k1 | exact quietE' (l00In_any _ _ _ _) k2)))
          go_wp2_with (go_at_call 22; refine (l00In_any _ _ _ _).mono ?_; rintro e w' ⟨rfl, rfl⟩)
          go_ret
          exact ⟨ret_bool (by simp [awyOk, k0, k1, k2, k3]), _, rfl⟩
        · rcases Bool.eq_false_or_eq_true (inB x.l 1 10000) with k4 | k4
          · rcases Bool.eq_false_or_eq_true (inB x.c 50 5000) with k5 | k5
            · rcases Bool.eq_false_or_eq_true (inB x.f 1 1000) with k6 | k6
              · rcases Bool.eq_false_or_eq_true (inB x.h 0 1000) with k7 | k7
                · go_enter Tryz.func52, Tryz.ntmps52
                  go_wp2
                  go_quiet ((first | (go_at_call 86; exact quietE' (l01Name_any _ _ hs) k0) | (go_at_call 22; first | exact quietE' (l00In_any _ _ _ _) k1 | exact quietE' (l00In_any _ _ _ _) k2)))
                  go_wp2_with (go_at_call 22; refine (l00In_any _ _ _ _).mono ?_; rintro e w' ⟨rfl, rfl⟩)
                  go_ret
                  exact ⟨ret_bool (by simp [awyOk, k0, k1, k2, k3, k4, k5, k6, k7]), _, rfl⟩
                · go_enter Tryz.func52, Tryz.ntmps52
                  go_wp2
                  go_quiet ((first | (go_at_call 86; exact quietE' (l01Name_any _ _ hs) k0) | (go_at_call 22; first | exact quietE' (l00In_any _ _ _ _) k1 | exact quietE' (l00In_any _ _ _ _) k2)))
                  go_wp2_with (go_at_call 22; refine (l00In_any _ _ _ _).mono ?_; rintro e w' ⟨rfl, rfl⟩)
                  go_ret
                  exact ⟨ret_bool (by simp [awyOk, k0, k1, k2, k3, k4, k5, k6, k7]), _, rfl⟩
              · go_enter Tryz.func52, Tryz.ntmps52
                go_wp2
                go_quiet ((first | (go_at_call 86; exact quietE' (l01Name_any _ _ hs) k0) | (go_at_call 22; first | exact quietE' (l00In_any _ _ _ _) k1 | exact quietE' (l00In_any _ _ _ _) k2)))
                go_wp2_with (go_at_call 22; refine (l00In_any _ _ _ _).mono ?_; rintro e w' ⟨rfl, rfl⟩)
                go_ret
                exact ⟨ret_bool (by simp [awyOk, k0, k1, k2, k3, k4, k5, k6]), _, rfl⟩
            · go_enter Tryz.func52, Tryz.ntmps52
              go_wp2
              go_quiet ((first | (go_at_call 86; exact quietE' (l01Name_any _ _ hs) k0) | (go_at_call 22; first | exact quietE' (l00In_any _ _ _ _) k1 | exact quietE' (l00In_any _ _ _ _) k2)))
              go_wp2_with (go_at_call 22; refine (l00In_any _ _ _ _).mono ?_; rintro e w' ⟨rfl, rfl⟩)
              go_ret
              exact ⟨ret_bool (by simp [awyOk, k0, k1, k2, k3, k4, k5]), _, rfl⟩
          · go_enter Tryz.func52, Tryz.ntmps52
            go_wp2
            go_quiet ((first | (go_at_call 86; exact quietE' (l01Name_any _ _ hs) k0) | (go_at_call 22; first | exact quietE' (l00In_any _ _ _ _) k1 | exact quietE' (l00In_any _ _ _ _) k2)))
            go_wp2_with (go_at_call 22; refine (l00In_any _ _ _ _).mono ?_; rintro e w' ⟨rfl, rfl⟩)
            go_ret
            exact ⟨ret_bool (by simp [awyOk, k0, k1, k2, k3, k4]), _, rfl⟩
      · go_enter Tryz.func52, Tryz.ntmps52
        go_wp2
        go_quiet ((first | (go_at_call 86; exact quietE' (l01Name_any _ _ hs) k0) | (go_at_call 22; first | exact quietE' (l00In_any _ _ _ _) k1 | exact quietE' (l00In_any _ _ _ _) k2)))
        go_wp2_with (go_at_call 22; refine (l00In_any _ _ _ _).mono ?_; rintro e w' ⟨rfl, rfl⟩)
        go_ret
        exact ⟨ret_bool (by simp [awyOk, k0, k1, k2]), _, rfl⟩
    · go_enter Tryz.func52, Tryz.ntmps52
      go_wp2
      go_quiet ((first | (go_at_call 86; exact quietE' (l01Name_any _ _ hs) k0) | (go_at_call 22; first | exact quietE' (l00In_any _ _ _ _) k1)))
      go_wp2_with (go_at_call 22; refine (l00In_any _ _ _ _).mono ?_; rintro e w' ⟨rfl, rfl⟩)
      go_ret
      exact ⟨ret_bool (by simp [awyOk, k0, k1]), _, rfl⟩
  · go_enter Tryz.func52, Tryz.ntmps52
    go_wp2
    go_quiet ((first | (go_at_call 86; exact quietE' (l01Name_any _ _ hs) k0) | (go_at_call 22; first | fail)))
    go_wp2_with (go_at_call 22; refine (l00In_any _ _ _ _).mono ?_; rintro e w' ⟨rfl, rfl⟩)
    go_ret
    exact ⟨ret_bool (by simp [awyOk, k0]), _, rfl⟩
theorem junctionOk_any (n : Int) (w : World) :
    Calls Tryz.prog 99 #[.int .i64 n] w fun e w' => e = .returned (.bool (inB n 0 15)) ∧ w = w' := by
  go_enter Tryz.func99, Tryz.ntmps99
  go_wp2_with fail; ((with_reducible refine (within_any _ _ _ _).mono ?_); rintro e w' ⟨rfl, rfl⟩)
  go_wp2
  go_ret
  exact ⟨rfl, rfl⟩
set_option maxHeartbeats 1600000 in
theorem ValidAirway_any (x : Awy) (w : World) (hs : x.s.size ≤ maxLen) :
    Calls Tryz.prog 67 #[.agg #[.string x.s, .int .i64 x.a, .int .i64 x.b, .int .i64 x.l, .int .i64 x.c, .int .i64 x.f, .int .i64 x.h]] w fun e w' => e = .returned (.bool (awyOk x)) ∧ Below w.heap.size w w' := by
  rcases Bool.eq_false_or_eq_true (isName x.s) with k0 | k0
  · rcases Bool.eq_false_or_eq_true (inB x.a 0 15) with k1 | k1
    · rcases Bool.eq_false_or_eq_true (inB x.b 0 15) with k2 | k2
      · rcases Bool.eq_false_or_eq_true (x.a == x.b) with k3 | k3
        · have kn : (x.a != x.b) = false := by simp [bne, k3]
          go_enter Tryz.func67, Tryz.ntmps67
          go_wp2_with (first | (go_at_call 98; refine (isName_any _ _ hs).mono ?_; rintro e w' ⟨rfl, rfl⟩) | (go_at_call 99; refine (junctionOk_any _ _).mono ?_; rintro e w' ⟨rfl, rfl⟩) | (go_at_call 33; refine (within_any _ _ _ _).mono ?_; rintro e w' ⟨rfl, rfl⟩))
          go_ret
          exact ⟨ret_bool (by simp [awyOk, k0, k1, k2, k3]), by (repeat (first | exact Below.refl _ _ | assumption | (refine Below.alloc ?_ (by first | exact Nat.le_refl _ | (simp; done) | (simp; omega)) _) | (refine below_drewN ?_ _) | (refine Below.trans ?_ (Below.mono (by assumption) (by first | exact Nat.le_refl _ | (simp; done) | (simp; omega) | omega)))))⟩
        · rcases Bool.eq_false_or_eq_true (inB x.l 1 10000) with k4 | k4
          · rcases Bool.eq_false_or_eq_true (inB x.c 50 5000) with k5 | k5
            · rcases Bool.eq_false_or_eq_true (inB x.f 1 1000) with k6 | k6
              · rcases Bool.eq_false_or_eq_true (inB x.h 0 1000) with k7 | k7
                · have kn : (x.a != x.b) = true := by simp [bne, k3]
                  go_enter Tryz.func67, Tryz.ntmps67
                  go_wp2_with (first | (go_at_call 98; refine (isName_any _ _ hs).mono ?_; rintro e w' ⟨rfl, rfl⟩) | (go_at_call 99; refine (junctionOk_any _ _).mono ?_; rintro e w' ⟨rfl, rfl⟩) | (go_at_call 33; refine (within_any _ _ _ _).mono ?_; rintro e w' ⟨rfl, rfl⟩))
                  go_ret
                  exact ⟨ret_bool (by simp [awyOk, k0, k1, k2, k3, k4, k5, k6, k7]), by (repeat (first | exact Below.refl _ _ | assumption | (refine Below.alloc ?_ (by first | exact Nat.le_refl _ | (simp; done) | (simp; omega)) _) | (refine below_drewN ?_ _) | (refine Below.trans ?_ (Below.mono (by assumption) (by first | exact Nat.le_refl _ | (simp; done) | (simp; omega) | omega)))))⟩
                · have kn : (x.a != x.b) = true := by simp [bne, k3]
                  go_enter Tryz.func67, Tryz.ntmps67
                  go_wp2_with (first | (go_at_call 98; refine (isName_any _ _ hs).mono ?_; rintro e w' ⟨rfl, rfl⟩) | (go_at_call 99; refine (junctionOk_any _ _).mono ?_; rintro e w' ⟨rfl, rfl⟩) | (go_at_call 33; refine (within_any _ _ _ _).mono ?_; rintro e w' ⟨rfl, rfl⟩))
                  go_ret
                  exact ⟨ret_bool (by simp [awyOk, k0, k1, k2, k3, k4, k5, k6, k7]), by (repeat (first | exact Below.refl _ _ | assumption | (refine Below.alloc ?_ (by first | exact Nat.le_refl _ | (simp; done) | (simp; omega)) _) | (refine below_drewN ?_ _) | (refine Below.trans ?_ (Below.mono (by assumption) (by first | exact Nat.le_refl _ | (simp; done) | (simp; omega) | omega)))))⟩
              · have kn : (x.a != x.b) = true := by simp [bne, k3]
                go_enter Tryz.func67, Tryz.ntmps67
                go_wp2_with (first | (go_at_call 98; refine (isName_any _ _ hs).mono ?_; rintro e w' ⟨rfl, rfl⟩) | (go_at_call 99; refine (junctionOk_any _ _).mono ?_; rintro e w' ⟨rfl, rfl⟩) | (go_at_call 33; refine (within_any _ _ _ _).mono ?_; rintro e w' ⟨rfl, rfl⟩))
                go_ret
                exact ⟨ret_bool (by simp [awyOk, k0, k1, k2, k3, k4, k5, k6]), by (repeat (first | exact Below.refl _ _ | assumption | (refine Below.alloc ?_ (by first | exact Nat.le_refl _ | (simp; done) | (simp; omega)) _) | (refine below_drewN ?_ _) | (refine Below.trans ?_ (Below.mono (by assumption) (by first | exact Nat.le_refl _ | (simp; done) | (simp; omega) | omega)))))⟩
            · have kn : (x.a != x.b) = true := by simp [bne, k3]
              go_enter Tryz.func67, Tryz.ntmps67
              go_wp2_with (first | (go_at_call 98; refine (isName_any _ _ hs).mono ?_; rintro e w' ⟨rfl, rfl⟩) | (go_at_call 99; refine (junctionOk_any _ _).mono ?_; rintro e w' ⟨rfl, rfl⟩) | (go_at_call 33; refine (within_any _ _ _ _).mono ?_; rintro e w' ⟨rfl, rfl⟩))
              go_ret
              exact ⟨ret_bool (by simp [awyOk, k0, k1, k2, k3, k4, k5]), by (repeat (first | exact Below.refl _ _ | assumption | (refine Below.alloc ?_ (by first | exact Nat.le_refl _ | (simp; done) | (simp; omega)) _) | (refine below_drewN ?_ _) | (refine Below.trans ?_ (Below.mono (by assumption) (by first | exact Nat.le_refl _ | (simp; done) | (simp; omega) | omega)))))⟩
          · have kn : (x.a != x.b) = true := by simp [bne, k3]
            go_enter Tryz.func67, Tryz.ntmps67
            go_wp2_with (first | (go_at_call 98; refine (isName_any _ _ hs).mono ?_; rintro e w' ⟨rfl, rfl⟩) | (go_at_call 99; refine (junctionOk_any _ _).mono ?_; rintro e w' ⟨rfl, rfl⟩) | (go_at_call 33; refine (within_any _ _ _ _).mono ?_; rintro e w' ⟨rfl, rfl⟩))
            go_ret
            exact ⟨ret_bool (by simp [awyOk, k0, k1, k2, k3, k4]), by (repeat (first | exact Below.refl _ _ | assumption | (refine Below.alloc ?_ (by first | exact Nat.le_refl _ | (simp; done) | (simp; omega)) _) | (refine below_drewN ?_ _) | (refine Below.trans ?_ (Below.mono (by assumption) (by first | exact Nat.le_refl _ | (simp; done) | (simp; omega) | omega)))))⟩
      · go_enter Tryz.func67, Tryz.ntmps67
        go_wp2_with (first | (go_at_call 98; refine (isName_any _ _ hs).mono ?_; rintro e w' ⟨rfl, rfl⟩) | (go_at_call 99; refine (junctionOk_any _ _).mono ?_; rintro e w' ⟨rfl, rfl⟩) | (go_at_call 33; refine (within_any _ _ _ _).mono ?_; rintro e w' ⟨rfl, rfl⟩))
        go_ret
        exact ⟨ret_bool (by simp [awyOk, k0, k1, k2]), by (repeat (first | exact Below.refl _ _ | assumption | (refine Below.alloc ?_ (by first | exact Nat.le_refl _ | (simp; done) | (simp; omega)) _) | (refine below_drewN ?_ _) | (refine Below.trans ?_ (Below.mono (by assumption) (by first | exact Nat.le_refl _ | (simp; done) | (simp; omega) | omega)))))⟩
    · go_enter Tryz.func67, Tryz.ntmps67
      go_wp2_with (first | (go_at_call 98; refine (isName_any _ _ hs).mono ?_; rintro e w' ⟨rfl, rfl⟩) | (go_at_call 99; refine (junctionOk_any _ _).mono ?_; rintro e w' ⟨rfl, rfl⟩) | (go_at_call 33; refine (within_any _ _ _ _).mono ?_; rintro e w' ⟨rfl, rfl⟩))
      go_ret
      exact ⟨ret_bool (by simp [awyOk, k0, k1]), by (repeat (first | exact Below.refl _ _ | assumption | (refine Below.alloc ?_ (by first | exact Nat.le_refl _ | (simp; done) | (simp; omega)) _) | (refine below_drewN ?_ _) | (refine Below.trans ?_ (Below.mono (by assumption) (by first | exact Nat.le_refl _ | (simp; done) | (simp; omega) | omega)))))⟩
  · go_enter Tryz.func67, Tryz.ntmps67
    go_wp2_with (first | (go_at_call 98; refine (isName_any _ _ hs).mono ?_; rintro e w' ⟨rfl, rfl⟩) | (go_at_call 99; refine (junctionOk_any _ _).mono ?_; rintro e w' ⟨rfl, rfl⟩) | (go_at_call 33; refine (within_any _ _ _ _).mono ?_; rintro e w' ⟨rfl, rfl⟩))
    go_ret
    exact ⟨ret_bool (by simp [awyOk, k0]), by (repeat (first | exact Below.refl _ _ | assumption | (refine Below.alloc ?_ (by first | exact Nat.le_refl _ | (simp; done) | (simp; omega)) _) | (refine below_drewN ?_ _) | (refine Below.trans ?_ (Below.mono (by assumption) (by first | exact Nat.le_refl _ | (simp; done) | (simp; omega) | omega)))))⟩
theorem l04Junction_any (J j : Int) (p : Addr) (w : World) (hJ : -9223372036854775808 < J) (hJ2 : J ≤ 9223372036854775807) (h0 : w.cell? p = some (.int .i64 J)) :
    Calls Tryz.prog 53 #[.pointer (some p), .int .i64 j] w fun e w' => e = .returned (.bool (inB j 0 (J - 1))) ∧ w = w' := by
  go_enter Tryz.func53, Tryz.ntmps53
  go_wp2_with fail; ((with_reducible refine (l00In_any _ _ _ _).mono ?_); rintro e w' ⟨rfl, rfl⟩)
  go_wp2
  go_ret
  exact ⟨rfl, rfl⟩
theorem hasJunction_any (J : Int) (V : Value) (j : Int) (w : World) (hV : ∃ A n c, V = .slice A n c) (hJ : -9223372036854775808 < J) (hJ2 : J ≤ 9223372036854775807) :
    Calls Tryz.prog 100 #[.agg #[.int .i64 J, V], .int .i64 j] w fun e w' => e = .returned (.bool (inB j 0 (J - 1))) ∧ Below w.heap.size w w' := by
  obtain ⟨A, n, c, rfl⟩ := hV
  go_enter Tryz.func100, Tryz.ntmps100
  go_wp2_with fail; ((with_reducible refine (within_any _ _ _ _).mono ?_); rintro e w' ⟨rfl, rfl⟩)
  go_wp2
  go_ret
  exact ⟨rfl, by (repeat (first | exact Below.refl _ _ | assumption | (refine Below.alloc ?_ (by first | exact Nat.le_refl _ | (simp; done) | (simp; omega)) _) | (refine below_drewN ?_ _) | (refine Below.trans ?_ (Below.mono (by assumption) (by first | exact Nat.le_refl _ | (simp; done) | (simp; omega) | omega)))))⟩
theorem hasEnds_any (J : Int) (A : Option Addr) (n c : Nat) (x : Awy) (w : World) (hJ : -9223372036854775808 < J) (hJ2 : J ≤ 9223372036854775807) :
    Calls Tryz.prog 68 #[.agg #[.int .i64 J, .slice A n c], .agg #[.string x.s, .int .i64 x.a, .int .i64 x.b, .int .i64 x.l, .int .i64 x.c, .int .i64 x.f, .int .i64 x.h]] w fun e w' => e = .returned (.bool (inB x.a 0 (J - 1) && inB x.b 0 (J - 1))) ∧ Below w.heap.size w w' := by
  cases k : inB x.a 0 (J - 1)
  · go_enter Tryz.func68, Tryz.ntmps68
    go_wp2_with fail; ((with_reducible refine (hasJunction_any J (.slice A n c) x.a _ ⟨A, n, c, rfl⟩ hJ hJ2).mono ?_); rintro e w1 ⟨rfl, hb1⟩)
    rw [k]
    go_wp2
    go_ret
    exact ⟨rfl, (show Below w.heap.size w _ by (repeat (first | exact Below.refl _ _ | assumption | (refine Below.alloc ?_ (by first | exact Nat.le_refl _ | (simp; done) | (simp; omega)) _) | (refine below_drewN ?_ _) | (refine Below.trans ?_ (Below.mono (by assumption) (by first | exact Nat.le_refl _ | (simp; done) | (simp; omega) | omega)))))).trans (hb1.mono (by simp; omega))⟩
  · go_enter Tryz.func68, Tryz.ntmps68
    go_wp2_with fail; ((with_reducible refine (hasJunction_any J (.slice A n c) x.a _ ⟨A, n, c, rfl⟩ hJ hJ2).mono ?_); rintro e w1 ⟨rfl, hb1⟩)
    rw [k]
    obtain ⟨hc1, hf1⟩ := bcell hb1
    have z1 : w.heap.size < w1.heap.size := by have h := hb1.size; simp at h; omega
    have z2 : w.heap.size + 1 < w1.heap.size := by have h := hb1.size; simp at h; omega
    have B1 : Below w.heap.size w w1 := (show Below w.heap.size w _ by (repeat (first | exact Below.refl _ _ | assumption | (refine Below.alloc ?_ (by first | exact Nat.le_refl _ | (simp; done) | (simp; omega)) _) | (refine below_drewN ?_ _) | (refine Below.trans ?_ (Below.mono (by assumption) (by first | exact Nat.le_refl _ | (simp; done) | (simp; omega) | omega)))))).trans (hb1.mono (by simp; omega))
    go_wp2_with fail; ((with_reducible refine (hasJunction_any J (.slice A n c) x.b _ ⟨A, n, c, rfl⟩ hJ hJ2).mono ?_); rintro e w2 ⟨rfl, hb2⟩)
    go_wp2
    go_ret
    exact ⟨ret_bool (by simp), B1.trans (hb2.mono B1.size)⟩
end Go.Proofs.YtjmhhbjbmgpagaaGreat
