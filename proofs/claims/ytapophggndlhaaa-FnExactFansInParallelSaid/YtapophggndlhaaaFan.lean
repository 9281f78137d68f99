/- Contracts of a fan: its curve, its validity; equal fans. -/
import Derived.Test.YtapophggndlhaaaOwn
import Derived.Test.YtapophggndlhaaaLock
import Derived.Test.YtapophggndlhaaaName
namespace Go.Proofs.Ytapophggndlhaaa
set_option linter.unusedVariables false
set_option linter.unusedSimpArgs false
open Go.RowKit
theorem upto_one {f : Nat → Bool} (h : f 0 = true) : ∀ j, j < 1 → f j = true := by
  intro j hj
  obtain rfl : j = 0 := by omega
  exact h
def crvAt (ls : List (List Int)) (k : Nat) : Bool :=
  decide (lockN ls k = 2) && inB (lockA ls k) 0 100000 && inB (lockB ls k) 0 10000 && (decide (k = 0) || decide (lockA ls (k - 1) < lockA ls k ∧ lockB ls k ≤ lockB ls (k - 1)))
def crvOk (ls : List (List Int)) : Bool := decide (2 ≤ ls.length ∧ ls.length ≤ 8) && allUpto ls.length (crvAt ls)
theorem crv_n {ls : List (List Int)} {k : Nat} (h : lockN ls k ≠ 2) : crvAt ls k = false := by unfold crvAt; rw [decide_eq_false h]; rfl
theorem crv_a {ls : List (List Int)} {k : Nat} (h : inB (lockA ls k) 0 100000 = false) : crvAt ls k = false := by unfold crvAt; rw [h]; simp
theorem crv_b {ls : List (List Int)} {k : Nat} (h : inB (lockB ls k) 0 10000 = false) : crvAt ls k = false := by unfold crvAt; rw [h]; simp
theorem crv_x {ls : List (List Int)} {k : Nat} (h0 : k ≠ 0) (h : lockA ls k ≤ lockA ls (k - 1)) : crvAt ls k = false := by
  unfold crvAt; rw [decide_eq_false h0, decide_eq_false (show ¬ (lockA ls (k - 1) < lockA ls k ∧ lockB ls k ≤ lockB ls (k - 1)) by omega)]; simp
theorem crv_y {ls : List (List Int)} {k : Nat} (h0 : k ≠ 0) (h : lockB ls (k - 1) < lockB ls k) : crvAt ls k = false := by
  unfold crvAt; rw [decide_eq_false h0, decide_eq_false (show ¬ (lockA ls (k - 1) < lockA ls k ∧ lockB ls k ≤ lockB ls (k - 1)) by omega)]; simp
theorem crv_ok {ls : List (List Int)} {k : Nat} (h1 : lockN ls k = 2) (h2 : inB (lockA ls k) 0 100000 = true) (h3 : inB (lockB ls k) 0 10000 = true) (h4 : k = 0 ∨ (lockA ls (k - 1) < lockA ls k ∧ lockB ls k ≤ lockB ls (k - 1))) : crvAt ls k = true := by
  unfold crvAt; rw [decide_eq_true h1, h2, h3]
  rcases h4 with h | h
  · rw [decide_eq_true h]; rfl
  · rw [decide_eq_true h]; simp
theorem crv_t {ls : List (List Int)} {k : Nat} (h : crvAt ls k = true) : lockN ls k = 2 ∧ 0 ≤ lockA ls k ∧ lockA ls k ≤ 100000 ∧ 0 ≤ lockB ls k ∧ lockB ls k ≤ 10000 ∧ (k = 0 ∨ (lockA ls (k - 1) < lockA ls k ∧ lockB ls k ≤ lockB ls (k - 1))) := by
  unfold crvAt at h
  simp only [Bool.and_eq_true, Bool.or_eq_true, decide_eq_true_eq] at h
  have h1 := inB_t h.1.1.2
  have h2 := inB_t h.1.2
  exact ⟨h.1.1.1, h1.1, h1.2, h2.1, h2.2, h.2⟩
theorem crv_two {ls : List (List Int)} {k : Nat} (h : crvAt ls k = true) : lockN ls k = 2 := (crv_t h).1
theorem crv_some {ls : List (List Int)} {k : Nat} (hk : k < ls.length) (h : crvAt ls k = false) : crvOk ls = false := by unfold crvOk; rw [allUpto_f hk h, Bool.and_false]
theorem crvOk_t {ls : List (List Int)} (h : crvOk ls = true) : 2 ≤ ls.length ∧ ls.length ≤ 8 ∧ ∀ k, k < ls.length → crvAt ls k = true := by
  unfold crvOk at h
  simp only [Bool.and_eq_true, decide_eq_true_eq] at h
  exact ⟨h.1.1, h.1.2, fun k hk => allUpto_get h.2 hk⟩
def fanOk (s : ByteArray) (a : Int) (ls : List (List Int)) : Bool := isName s && inB a 0 23 && crvOk ls
theorem fanOk_t {s : ByteArray} {a : Int} {ls : List (List Int)} (h : fanOk s a ls = true) : isName s = true ∧ (0 ≤ a ∧ a ≤ 23) ∧ crvOk ls = true := by
  unfold fanOk at h
  simp only [Bool.and_eq_true] at h
  exact ⟨h.1.1, inB_t h.1.2, h.2⟩
set_option maxHeartbeats 6400000 in
set_option maxRecDepth 100000 in
theorem l06Curve_any (A : Option Addr) (n c : Nat) (rs : List Row) (w : World) (hr : RSS w w.heap.size A n rs) (hn : n ≤ 1048576) (hrn : ∀ r ∈ rs, r.n ≤ 1048576) :
    Calls Try.prog 68 #[.slice A n c] w fun e w' => e = .returned (.bool (crvOk (dat rs))) ∧ Below w.heap.size w w' := by
  have HM := Lib.hid hrn
  clear hrn
  have HLn : Hid ((dat rs).length = n) := show (dat rs).length = n by rw [dat_len]; exact hr.len
  go_enter Try.func68, Try.ntmps68
  go_wp2
  go_loopw [3] (fun i wr => ∃ (k : Nat), k ≤ n ∧ i = .int .i64 k ∧ Hid (∀ j, j < k → crvAt (dat rs) j = true) ∧ Below w.heap.size w wr) (fun i _ => n - (intOf i).toNat)
  case atStart => exact ⟨0, by omega, rfl, fun j hj => absurd hj (Nat.not_lt_zero _), Below.refl _ _⟩
  case round =>
    obtain ⟨k, hk, rfl, HK, hbw⟩ := hrel
    by_cases hlt : k < n
    · obtain ⟨ad, r, rfl, hx, hc, hrr⟩ := (hr.below hbw).at_ hlt
      obtain ⟨x1, x2, x3⟩ := lock_row (dat_at hx)
      have hlr := ints_len hrr
      by_cases h2 : r.xs.length = 2
      · obtain ⟨ra, hra, hn2, c0, c0', c1⟩ := open_two hrr h2
        rw [← x2] at c0 c0'
        rw [← x3] at c1
        rw [hra] at hc
        have X1 : Hid (lockN (dat rs) k = 2) := x1.trans h2
        have hrn2 : ((r.n : Int) != 2) = false := by rw [hn2]; rfl
        have hrn0 : (0 : Int) < (r.n : Int) := by omega
        have hrn1 : (1 : Int) < (r.n : Int) := by omega
        clear x1 x2 x3 hra hn2 hlr h2
        rcases Bool.eq_false_or_eq_true (inB (lockA (dat rs) k) 0 100000) with hA | hA
        · rcases Bool.eq_false_or_eq_true (inB (lockB (dat rs) k) 0 10000) with hB | hB
          · rcases Nat.eq_zero_or_pos k with h0 | hpos
            · subst h0
              have hcz : wr.cell? ad = some (.slice (some ra) r.n r.c) := hc
              have HY : Hid (crvAt (dat rs) 0 = true) := crv_ok X1.out hA hB (.inl rfl)
              go_wp2
              go_quiet (((go_at_call 37; first | exact quietB' (l00In_any _ _ _ _) hA | exact quietB' (l00In_any _ _ _ _) hB)))
              go_wp2
              go_roundw
              case rel => exact ⟨1, by omega, by go_num, upto_one HY.out, below_drewN hbw _⟩
              case measure => simp [intOf]; omega
            · obtain ⟨j, hj⟩ : ∃ j, Hid (k = j + 1) := ⟨k - 1, show k = k - 1 + 1 by omega⟩
              have hjn : j < n := by have := hj.out; omega
              have hwj : IntKind.i64.wrap ((k : Int) - 1) = (j : Int) := by have := hj.out; rw [IntWalk.i64_in _ (by omega)]; omega
              have hjk : Hid (k - 1 = j) := show k - 1 = j by have := hj.out; omega
              have hk0 : decide ((0 : Int) < (k : Int)) = true := decide_eq_true (by omega)
              have hjI : (j : Int) < (n : Int) := by omega
              obtain ⟨ad', q, e1, hx', hcq, hqq⟩ := (hr.below hbw).at_ hjn
              injection e1 with e1
              subst e1
              obtain ⟨y1, y2, y3⟩ := lock_row (dat_at hx')
              have z1 := crv_two (HK.out j (by have := hj.out; omega))
              obtain ⟨qa, hQ, qn2, q0, q0', q1⟩ := open_two hqq (by rw [← y1]; exact z1)
              rw [← y2] at q0 q0'
              rw [← y3] at q1
              rw [hQ] at hcq
              have hqn0 : (0 : Int) < (q.n : Int) := by omega
              have hqn1 : (1 : Int) < (q.n : Int) := by omega
              clear y1 y2 y3 z1 hQ qn2 hx'
              by_cases m1 : lockA (dat rs) k ≤ lockA (dat rs) j
              · have d1 : decide (lockA (dat rs) k ≤ lockA (dat rs) j) = true := decide_eq_true m1
                have HY : Hid (crvAt (dat rs) k = false) := crv_x (by have := hj.out; omega) (by rw [hjk.out]; omega)
                go_wp2
                go_quiet (((go_at_call 37; first | exact quietB' (l00In_any _ _ _ _) hA | exact quietB' (l00In_any _ _ _ _) hB)))
                go_wp2
                go_ret
                exact ⟨ret_bool ((crv_some (by rw [HLn.out]; exact hlt) HY.out).symm), below_drewN hbw _⟩
              · have d1 : decide (lockA (dat rs) k ≤ lockA (dat rs) j) = false := decide_eq_false m1
                by_cases m2 : lockB (dat rs) j < lockB (dat rs) k
                · have d2 : decide (lockB (dat rs) j < lockB (dat rs) k) = true := decide_eq_true m2
                  have HY : Hid (crvAt (dat rs) k = false) := crv_y (by have := hj.out; omega) (by rw [hjk.out]; omega)
                  go_wp2
                  go_quiet (((go_at_call 37; first | exact quietB' (l00In_any _ _ _ _) hA | exact quietB' (l00In_any _ _ _ _) hB)))
                  go_wp2
                  go_ret
                  exact ⟨ret_bool ((crv_some (by rw [HLn.out]; exact hlt) HY.out).symm), below_drewN hbw _⟩
                · have d2 : decide (lockB (dat rs) j < lockB (dat rs) k) = false := decide_eq_false m2
                  have HY : Hid (crvAt (dat rs) k = true) := crv_ok X1.out hA hB (.inr (by rw [hjk.out]; omega))
                  go_wp2
                  go_quiet (((go_at_call 37; first | exact quietB' (l00In_any _ _ _ _) hA | exact quietB' (l00In_any _ _ _ _) hB)))
                  go_wp2
                  go_roundw
                  case rel => exact ⟨k + 1, by omega, by go_num, upto_succ HK.out HY.out, below_drewN hbw _⟩
                  case measure => simp [intOf]; omega
          · have HY : Hid (crvAt (dat rs) k = false) := crv_b hB
            go_wp2
            go_quiet (((go_at_call 37; first | exact quietB' (l00In_any _ _ _ _) hA | exact quietB' (l00In_any _ _ _ _) hB)))
            go_wp2
            go_ret
            exact ⟨ret_bool ((crv_some (by rw [HLn.out]; exact hlt) HY.out).symm), below_drewN hbw _⟩
        · have HY : Hid (crvAt (dat rs) k = false) := crv_a hA
          have hB := hA
          go_wp2
          go_quiet (((go_at_call 37; first | exact quietB' (l00In_any _ _ _ _) hA | exact quietB' (l00In_any _ _ _ _) hB)))
          go_wp2
          go_ret
          exact ⟨ret_bool ((crv_some (by rw [HLn.out]; exact hlt) HY.out).symm), below_drewN hbw _⟩
      · have HY : Hid (crvAt (dat rs) k = false) := crv_n (by rw [x1]; exact h2)
        have hrn2 : ((r.n : Int) != 2) = true := by rw [bne_iff_ne]; omega
        clear x1 x2 x3
        go_wp2
        go_quiet (fail)
        go_wp2
        go_ret
        exact ⟨ret_bool ((crv_some (by rw [HLn.out]; exact hlt) HY.out).symm), below_drewN hbw _⟩
    · have e : k = n := by omega
      subst e
      have HV : Hid (crvOk (dat rs) = decide (2 ≤ k ∧ k ≤ 8)) := show crvOk (dat rs) = _ by unfold crvOk; rw [HLn.out, allUpto_t HK.out, Bool.and_true]
      by_cases h2 : 2 ≤ k
      · go_wp2
        go_ret
        exact ⟨ret_bool (by rw [HV.out]; exact Bool.eq_iff_iff.2 (by simp only [decide_eq_true_eq]; omega)), hbw⟩
      · go_wp2
        go_ret
        exact ⟨ret_bool (by rw [HV.out]; exact (decide_eq_false (by omega)).symm), hbw⟩
theorem l06Ok_any (s : ByteArray) (a : Int) (A : Option Addr) (n c : Nat) (rs : List Row) (p : Addr) (w : World) (hs : s.size ≤ maxLen) (hr : RSS w w.heap.size A n rs) (hn : n ≤ 1048576) (hrn : ∀ r ∈ rs, r.n ≤ 1048576) (hc : Cells w p [.string s, .int .i64 a, .slice A n c]) :
    Calls Try.prog 36 #[.pointer (some p)] w fun e w' => e = .returned (.bool (fanOk s a (dat rs))) ∧ Below w.heap.size w w' := by
  have h0 := hc.z rfl
  have h1 := hc.at_ 0 rfl
  have h2 := hc.at_ 1 rfl
  have cc := l06Curve_any A n c rs w hr hn hrn
  clear hc hrn
  rcases Bool.eq_false_or_eq_true (isName s) with k0 | k0
  · rcases Bool.eq_false_or_eq_true (inB a 0 23) with k1 | k1
    · have HV : Hid (fanOk s a (dat rs) = crvOk (dat rs)) := show _ = _ by unfold fanOk; rw [k0, k1]; rfl
      go_enter Try.func36, Try.ntmps36
      go_wp2_with fail; ((with_reducible refine (l01Name_any _ _ hs).mono ?_); rintro e w' ⟨rfl, rfl⟩)
      go_wp2_with fail; ((with_reducible refine (l00In_any _ _ _ _).mono ?_); rintro e w' ⟨rfl, rfl⟩)
      go_wp2_with fail; ((with_reducible refine cc.mono ?_); rintro e w1 ⟨rfl, hb1⟩)
      go_wp2
      go_ret
      exact ⟨ret_bool HV.out.symm, hb1⟩
    · have HV : Hid (fanOk s a (dat rs) = false) := show _ = _ by unfold fanOk; rw [k1]; simp
      go_enter Try.func36, Try.ntmps36
      go_wp2_with fail; ((with_reducible refine (l01Name_any _ _ hs).mono ?_); rintro e w' ⟨rfl, rfl⟩)
      go_wp2_with fail; ((with_reducible refine (l00In_any _ _ _ _).mono ?_); rintro e w' ⟨rfl, rfl⟩)
      go_wp2
      go_ret
      exact ⟨ret_bool HV.out.symm, Below.refl _ _⟩
  · have HV : Hid (fanOk s a (dat rs) = false) := show _ = _ by unfold fanOk; rw [k0]; simp
    go_enter Try.func36, Try.ntmps36
    go_wp2_with fail; ((with_reducible refine (l01Name_any _ _ hs).mono ?_); rintro e w' ⟨rfl, rfl⟩)
    go_wp2
    go_ret
    exact ⟨ret_bool HV.out.symm, Below.refl _ _⟩
set_option maxHeartbeats 6400000 in
set_option maxRecDepth 100000 in
theorem implValidFan_any (s : ByteArray) (a : Int) (A : Option Addr) (n c : Nat) (rs : List Row) (w : World) (hs : s.size ≤ maxLen) (hr1 : RSS w w.heap.size A n rs) (hn : n ≤ 1048576) (hrn : ∀ r ∈ rs, r.n ≤ 1048576) :
    Calls Try.prog 40 #[.agg #[.string s, .int .i64 a, .slice A n c]] w fun e w' => e = .returned (.bool (fanOk s a (dat rs))) ∧ Below w.heap.size w w' := by
  have HM := Lib.hid hrn
  clear hrn
  have HLn : Hid ((dat rs).length = n) := show (dat rs).length = n by rw [dat_len]; exact hr1.len
  have hr : RSS (w.alloc (.cells #[.string s, .int .i64 a, .slice A n c] 26)) (w.heap.size + 1) A n rs := (hr1.below ((Below.refl _ _).alloc (Nat.le_refl _) _)).more (by omega)
  rcases Bool.eq_false_or_eq_true (isName s) with k0 | k0
  · rcases Bool.eq_false_or_eq_true (inB a 0 23) with k1 | k1
    · by_cases h2 : 2 ≤ n
      · by_cases h8 : n ≤ 8
        · have HE : Hid (fanOk s a (dat rs) = allUpto n (crvAt (dat rs))) := show _ = _ by unfold fanOk crvOk; rw [k0, k1, HLn.out, decide_eq_true (And.intro h2 h8)]; simp
          go_enter Try.func40, Try.ntmps40
          go_wp2_with fail; ((with_reducible refine (isName_any _ _ hs).mono ?_); rintro e w' ⟨rfl, rfl⟩)
          go_wp2_with fail; ((with_reducible refine (within_any _ _ _ _).mono ?_); rintro e w' ⟨rfl, rfl⟩)
          go_wp2
          go_loopw [30] (fun i wr => ∃ (k : Nat), k ≤ n ∧ i = .int .i64 k ∧ Hid (∀ j, j < k → crvAt (dat rs) j = true) ∧ Below (w.heap.size + 1) (w.alloc (.cells #[.string s, .int .i64 a, .slice A n c] 26)) wr) (fun i _ => n - (intOf i).toNat)
          case atStart => exact ⟨0, by omega, rfl, fun j hj => absurd hj (Nat.not_lt_zero _), Below.refl _ _⟩
          case round =>
            obtain ⟨k, hk, rfl, HK, hbw⟩ := hrel
            have Bw : Below w.heap.size w wr := ((Below.refl _ _).alloc (Nat.le_refl _) _).trans (hbw.mono (by omega))
            by_cases hlt : k < n
            · obtain ⟨ad, r, rfl, hx, hc, hrr⟩ := (hr.below hbw).at_ hlt
              obtain ⟨x1, x2, x3⟩ := lock_row (dat_at hx)
              have hlr := ints_len hrr
              have hbox : wr.cell? ⟨w.heap.size, 2, none⟩ = some (.slice (some ad) n c) := (hbw.cell (p := ⟨w.heap.size, 2, none⟩) (by show w.heap.size < _; omega)).trans (by go_simp)
              by_cases h2 : r.xs.length = 2
              · obtain ⟨ra, hra, hn2, c0, c0', c1⟩ := open_two hrr h2
                rw [← x2] at c0 c0'
                rw [← x3] at c1
                rw [hra] at hc
                have X1 : Hid (lockN (dat rs) k = 2) := x1.trans h2
                have hrn2 : ((r.n : Int) != 2) = false := by rw [hn2]; rfl
                have hrn0 : (0 : Int) < (r.n : Int) := by omega
                have hrn1 : (1 : Int) < (r.n : Int) := by omega
                clear x1 x2 x3 hra hn2 hlr h2
                rcases Bool.eq_false_or_eq_true (inB (lockA (dat rs) k) 0 100000) with hA | hA
                · rcases Bool.eq_false_or_eq_true (inB (lockB (dat rs) k) 0 10000) with hB | hB
                  · rcases Nat.eq_zero_or_pos k with h0 | hpos
                    · subst h0
                      have hcz : wr.cell? ad = some (.slice (some ra) r.n r.c) := hc
                      have HY : Hid (crvAt (dat rs) 0 = true) := crv_ok X1.out hA hB (.inl rfl)
                      go_wp2
                      go_quiet (((go_at_call 41; first | exact quietB' (within_any _ _ _ _) hA | exact quietB' (within_any _ _ _ _) hB)))
                      go_wp2
                      go_roundw
                      case rel => exact ⟨1, by omega, by go_num, upto_one HY.out, below_drewN hbw _⟩
                      case measure => simp [intOf]; omega
                    · obtain ⟨j, hj⟩ : ∃ j, Hid (k = j + 1) := ⟨k - 1, show k = k - 1 + 1 by omega⟩
                      have hjn : j < n := by have := hj.out; omega
                      have hwj : IntKind.i64.wrap ((k : Int) - 1) = (j : Int) := by have := hj.out; rw [IntWalk.i64_in _ (by omega)]; omega
                      have hjk : Hid (k - 1 = j) := show k - 1 = j by have := hj.out; omega
                      have hk0 : decide ((0 : Int) < (k : Int)) = true := decide_eq_true (by omega)
                      have hjI : (j : Int) < (n : Int) := by omega
                      obtain ⟨ad', q, e1, hx', hcq, hqq⟩ := (hr.below hbw).at_ hjn
                      injection e1 with e1
                      subst e1
                      obtain ⟨y1, y2, y3⟩ := lock_row (dat_at hx')
                      have z1 := crv_two (HK.out j (by have := hj.out; omega))
                      obtain ⟨qa, hQ, qn2, q0, q0', q1⟩ := open_two hqq (by rw [← y1]; exact z1)
                      rw [← y2] at q0 q0'
                      rw [← y3] at q1
                      rw [hQ] at hcq
                      have hqn0 : (0 : Int) < (q.n : Int) := by omega
                      have hqn1 : (1 : Int) < (q.n : Int) := by omega
                      clear y1 y2 y3 z1 hQ qn2 hx'
                      by_cases m1 : lockA (dat rs) k ≤ lockA (dat rs) j
                      · have d1 : decide (lockA (dat rs) k ≤ lockA (dat rs) j) = true := decide_eq_true m1
                        have HY : Hid (crvAt (dat rs) k = false) := crv_x (by have := hj.out; omega) (by rw [hjk.out]; omega)
                        go_wp2
                        go_quiet (((go_at_call 41; first | exact quietB' (within_any _ _ _ _) hA | exact quietB' (within_any _ _ _ _) hB)))
                        go_wp2
                        go_ret
                        exact ⟨ret_bool (by rw [HE.out, allUpto_f hlt HY.out]), below_drewN Bw _⟩
                      · have d1 : decide (lockA (dat rs) k ≤ lockA (dat rs) j) = false := decide_eq_false m1
                        by_cases m2 : lockB (dat rs) j < lockB (dat rs) k
                        · have d2 : decide (lockB (dat rs) j < lockB (dat rs) k) = true := decide_eq_true m2
                          have HY : Hid (crvAt (dat rs) k = false) := crv_y (by have := hj.out; omega) (by rw [hjk.out]; omega)
                          go_wp2
                          go_quiet (((go_at_call 41; first | exact quietB' (within_any _ _ _ _) hA | exact quietB' (within_any _ _ _ _) hB)))
                          go_wp2
                          go_ret
                          exact ⟨ret_bool (by rw [HE.out, allUpto_f hlt HY.out]), below_drewN Bw _⟩
                        · have d2 : decide (lockB (dat rs) j < lockB (dat rs) k) = false := decide_eq_false m2
                          have HY : Hid (crvAt (dat rs) k = true) := crv_ok X1.out hA hB (.inr (by rw [hjk.out]; omega))
                          go_wp2
                          go_quiet (((go_at_call 41; first | exact quietB' (within_any _ _ _ _) hA | exact quietB' (within_any _ _ _ _) hB)))
                          go_wp2
                          go_roundw
                          case rel => exact ⟨k + 1, by omega, by go_num, upto_succ HK.out HY.out, below_drewN hbw _⟩
                          case measure => simp [intOf]; omega
                  · have HY : Hid (crvAt (dat rs) k = false) := crv_b hB
                    go_wp2
                    go_quiet (((go_at_call 41; first | exact quietB' (within_any _ _ _ _) hA | exact quietB' (within_any _ _ _ _) hB)))
                    go_wp2
                    go_ret
                    exact ⟨ret_bool (by rw [HE.out, allUpto_f hlt HY.out]), below_drewN Bw _⟩
                · have HY : Hid (crvAt (dat rs) k = false) := crv_a hA
                  have hB := hA
                  go_wp2
                  go_quiet (((go_at_call 41; first | exact quietB' (within_any _ _ _ _) hA | exact quietB' (within_any _ _ _ _) hB)))
                  go_wp2
                  go_ret
                  exact ⟨ret_bool (by rw [HE.out, allUpto_f hlt HY.out]), below_drewN Bw _⟩
              · have HY : Hid (crvAt (dat rs) k = false) := crv_n (by rw [x1]; exact h2)
                have hrn2 : ((r.n : Int) != 2) = true := by rw [bne_iff_ne]; omega
                clear x1 x2 x3
                go_wp2
                go_quiet (fail)
                go_wp2
                go_ret
                exact ⟨ret_bool (by rw [HE.out, allUpto_f hlt HY.out]), below_drewN Bw _⟩
            · have e : k = n := by omega
              subst e
              go_wp2
              go_ret
              exact ⟨ret_bool (by rw [HE.out, allUpto_t HK.out]), Bw⟩
        · have HV : Hid (fanOk s a (dat rs) = false) := show _ = _ by unfold fanOk crvOk; rw [HLn.out, decide_eq_false (show ¬ (2 ≤ n ∧ n ≤ 8) by omega)]; simp
          go_enter Try.func40, Try.ntmps40
          go_wp2_with fail; ((with_reducible refine (isName_any _ _ hs).mono ?_); rintro e w' ⟨rfl, rfl⟩)
          go_wp2_with fail; ((with_reducible refine (within_any _ _ _ _).mono ?_); rintro e w' ⟨rfl, rfl⟩)
          go_wp2
          go_ret
          exact ⟨ret_bool HV.out.symm, by (repeat (first | exact Below.refl _ _ | assumption | (refine Below.alloc ?_ (by first | exact Nat.le_refl _ | (simp; done) | (simp; omega)) _) | (refine below_drewN ?_ _) | (refine Below.trans ?_ (Below.mono (by assumption) (by first | exact Nat.le_refl _ | (simp; done) | (simp; omega) | omega)))))⟩
      · have HV : Hid (fanOk s a (dat rs) = false) := show _ = _ by unfold fanOk crvOk; rw [HLn.out, decide_eq_false (show ¬ (2 ≤ n ∧ n ≤ 8) by omega)]; simp
        go_enter Try.func40, Try.ntmps40
        go_wp2_with fail; ((with_reducible refine (isName_any _ _ hs).mono ?_); rintro e w' ⟨rfl, rfl⟩)
        go_wp2_with fail; ((with_reducible refine (within_any _ _ _ _).mono ?_); rintro e w' ⟨rfl, rfl⟩)
        go_wp2
        go_ret
        exact ⟨ret_bool HV.out.symm, by (repeat (first | exact Below.refl _ _ | assumption | (refine Below.alloc ?_ (by first | exact Nat.le_refl _ | (simp; done) | (simp; omega)) _) | (refine below_drewN ?_ _) | (refine Below.trans ?_ (Below.mono (by assumption) (by first | exact Nat.le_refl _ | (simp; done) | (simp; omega) | omega)))))⟩
    · have HV : Hid (fanOk s a (dat rs) = false) := show _ = _ by unfold fanOk; rw [k1]; simp
      go_enter Try.func40, Try.ntmps40
      go_wp2_with fail; ((with_reducible refine (isName_any _ _ hs).mono ?_); rintro e w' ⟨rfl, rfl⟩)
      go_wp2_with fail; ((with_reducible refine (within_any _ _ _ _).mono ?_); rintro e w' ⟨rfl, rfl⟩)
      go_wp2
      go_ret
      exact ⟨ret_bool HV.out.symm, by (repeat (first | exact Below.refl _ _ | assumption | (refine Below.alloc ?_ (by first | exact Nat.le_refl _ | (simp; done) | (simp; omega)) _) | (refine below_drewN ?_ _) | (refine Below.trans ?_ (Below.mono (by assumption) (by first | exact Nat.le_refl _ | (simp; done) | (simp; omega) | omega)))))⟩
  · have HV : Hid (fanOk s a (dat rs) = false) := show _ = _ by unfold fanOk; rw [k0]; simp
    go_enter Try.func40, Try.ntmps40
    go_wp2_with fail; ((with_reducible refine (isName_any _ _ hs).mono ?_); rintro e w' ⟨rfl, rfl⟩)
    go_wp2
    go_ret
    exact ⟨ret_bool HV.out.symm, by (repeat (first | exact Below.refl _ _ | assumption | (refine Below.alloc ?_ (by first | exact Nat.le_refl _ | (simp; done) | (simp; omega)) _) | (refine below_drewN ?_ _) | (refine Below.trans ?_ (Below.mono (by assumption) (by first | exact Nat.le_refl _ | (simp; done) | (simp; omega) | omega)))))⟩
end Go.Proofs.Ytapophggndlhaaa
