/- The program's locks of doors. -/
import Derived.Test.YtnaggimfialbfaaCmp
namespace Go.Proofs.Ytnaggimfialbfaa
set_option linter.unusedVariables false
set_option linter.unusedSimpArgs false
open Go.RowKit
theorem two_eq {xs : List Int} (h : xs.length = 2) : xs = [xs.getD 0 0, xs.getD 1 0] := by
  match xs, h with
  | [a, b], _ => rfl
theorem cmp2 {ls : List (List Int)} {j k : Nat} {x y : List Int} (hk : k - 1 = j) (hx : ls[j]? = some x) (hy : ls[k]? = some y) (h1 : x.length = 2) (h2 : y.length = 2) :
    decide (0 ≤ cmpL x y) = !lockLt ls k := by
  obtain ⟨_, a1, a2⟩ := lock_row hx
  obtain ⟨_, b1, b2⟩ := lock_row hy
  rw [two_eq h1, two_eq h2, ← a1, ← a2, ← b1, ← b2]
  unfold lockLt
  rw [hk]
  simp only [cmpL, cmpI]
  by_cases m1 : lockA ls j < lockA ls k
  · simp [m1]
  · by_cases m2 : lockA ls k < lockA ls j
    · have : ¬ lockA ls j = lockA ls k := by omega
      simp [m1, m2, this]
    · have e : lockA ls j = lockA ls k := by omega
      by_cases m3 : lockB ls j < lockB ls k
      · simp [e, m3]
      · by_cases m4 : lockB ls k < lockB ls j
        · simp [e, m3, m4]
        · simp [e, m3, m4]
set_option maxHeartbeats 3200000 in
set_option maxRecDepth 8000 in
theorem implLocks_any (d : Int) (A : Option Addr) (n c : Nat) (rs : List Row) (w : World) (hr : RSS w w.heap.size A n rs) (hn : n ≤ 1048576) (hrn : ∀ r ∈ rs, r.n ≤ 1048576) :
    Calls Try.prog 15 #[.int .i64 d, .slice A n c] w fun e w' => e = .returned (.bool (locksOk d (dat rs))) ∧ Below w.heap.size w w' := by
  have HM := Lib.hid hrn
  clear hrn
  have HLn : Hid ((dat rs).length = n) := show (dat rs).length = n by rw [dat_len]; exact hr.len
  rcases Bool.eq_false_or_eq_true (inB d 0 8) with hd | hd
  · by_cases h12 : 12 < n
    · have HE : Hid (locksOk d (dat rs) = false) := show locksOk d (dat rs) = false by unfold locksOk; rw [HLn.out, decide_eq_false (by omega)]; simp
      go_enter Try.func15, Try.ntmps15
      go_wp2_with (go_at_call 51; refine (within_any _ _ _ _).mono ?_; rintro e w' ⟨rfl, rfl⟩)
      go_ret
      exact ⟨ret_bool HE.out.symm, Below.refl _ _⟩
    · have HE : Hid (locksOk d (dat rs) = allUpto n (lkAt d (dat rs))) := show locksOk d (dat rs) = _ by unfold locksOk; rw [HLn.out, decide_eq_true (show n ≤ 12 by omega), hd]; simp
      obtain ⟨d1, d2⟩ := inB_t hd
      have hwd : IntKind.i64.wrap (d - 1) = d - 1 := IntWalk.i64_in _ (by omega)
      go_enter Try.func15, Try.ntmps15
      go_wp2_with (go_at_call 51; refine (within_any _ _ _ _).mono ?_; rintro e w' ⟨rfl, rfl⟩)
      go_loopw [17] (fun i wr => ∃ (k : Nat), k ≤ n ∧ i = .int .i64 k ∧ Hid (∀ j, j < k → lkAt d (dat rs) j = true) ∧ Below w.heap.size w wr) (fun i _ => n - (intOf i).toNat)
      case atStart => exact ⟨0, by omega, rfl, fun j hj => absurd hj (Nat.not_lt_zero _), Below.refl _ _⟩
      case round =>
        obtain ⟨k, hk, rfl, HK, hbw⟩ := hrel
        by_cases hlt : k < n
        · obtain ⟨ad, r, rfl, hx, hc, hrr⟩ := (hr.below hbw).at_ hlt
          obtain ⟨x1, x2, x3⟩ := lock_row (dat_at hx)
          have hlr := ints_len hrr
          by_cases h2 : r.xs.length = 2
          · obtain ⟨ra, hA, hn2, c0, c0', c1⟩ := open_two hrr h2
            have hra : Hid (Reads wr w.heap.size 1 (some ra) r.n (ints r.xs)) := by rw [← hA]; exact hrr
            have hr2 : Hid (r.xs.length = 2) := h2
            have hmr := HM.out r (List.mem_of_getElem? hx)
            rw [← x2] at c0 c0'
            rw [← x3] at c1
            rw [hA] at hc
            have X1 : Hid (lockN (dat rs) k = 2) := x1.trans h2
            have hrn2 : ((r.n : Int) != 2) = false := by rw [hn2]; rfl
            have hrn0 : (0 : Int) < (r.n : Int) := by omega
            have hrn1 : (1 : Int) < (r.n : Int) := by omega
            clear x1 x2 x3 hA hn2 hlr h2
            rcases Bool.eq_false_or_eq_true (inB (lockB (dat rs) k) 0 (d - 1)) with hB | hB
            · obtain ⟨b1, b2⟩ := inB_t hB
              have hwb : IntKind.i64.wrap (lockB (dat rs) k - 1) = lockB (dat rs) k - 1 := IntWalk.i64_in _ (by omega)
              rcases Bool.eq_false_or_eq_true (inB (lockA (dat rs) k) 0 (lockB (dat rs) k - 1)) with hA | hA
              · rcases Nat.eq_zero_or_pos k with h0 | hpos
                · subst h0
                  have hcz : wr.cell? ad = some (.slice (some ra) r.n r.c) := hc
                  have HY : Hid (lkAt d (dat rs) 0 = true) := lk_y X1.out hB hA (.inl rfl)
                  go_wp2
                  go_quiet ((first | (go_at_call_of 51 (Value.int .i64 (lockA (dat rs) 0)); exact quietB' (within_any _ _ _ _) hA) | (go_at_call 51; exact quietB' (within_any _ _ _ _) hB)))
                  go_wp2
                  go_roundw
                  case rel => exact ⟨1, by omega, by go_num, fun j hj => (by obtain rfl : j = 0 := by omega
                                                                             exact HY.out), below_drewN hbw _⟩
                  case measure => simp [intOf]; omega
                · obtain ⟨j, hj⟩ : ∃ j, Hid (k = j + 1) := ⟨k - 1, show k = k - 1 + 1 by omega⟩
                  have hjn : j < n := by have := hj.out; omega
                  have hwj : IntKind.i64.wrap ((k : Int) - 1) = (j : Int) := by have := hj.out; rw [IntWalk.i64_in _ (by omega)]; omega
                  have hjk : Hid (k - 1 = j) := show k - 1 = j by have := hj.out; omega
                  have hk0 : decide ((0 : Int) < (k : Int)) = true := decide_eq_true (by omega)
                  have hjI : (j : Int) < (n : Int) := by omega
                  obtain ⟨ad', q, e1, hx', hcq, hqq⟩ := (hr.below hbw).at_ hjn
                  injection e1 with e1
                  subst e1
                  obtain ⟨y1, y2, y3⟩ := lock_row (dat_at hx')
                  obtain ⟨z1, z2, z3⟩ := lk_two (HK.out j (by have := hj.out; omega))
                  obtain ⟨qa, hQ, qn2, q0, q0', q1⟩ := open_two hqq (by rw [← y1]; exact z1)
                  rw [← y2] at q0 q0'
                  rw [← y3] at q1
                  rw [hQ] at hcq
                  have hqn0 : (0 : Int) < (q.n : Int) := by omega
                  have hqn1 : (1 : Int) < (q.n : Int) := by omega
                  have HC : Hid (decide (0 ≤ cmpL q.xs r.xs) = !lockLt (dat rs) k) := cmp2 hjk.out (dat_at hx') (dat_at hx) (by rw [← y1]; exact z1) hr2.out
                  rw [hQ] at hqq
                  have hmq := HM.out q (List.mem_of_getElem? hx')
                  clear y1 y2 y3 z1 z2 z3 hQ qn2 hx'
                  have HCC : Hid (∀ m : Nat, Calls Try.prog 52 #[.slice (some qa) q.n q.c, .slice (some ra) r.n r.c] (wr.drewN m) fun e w' => e = .returned (.int .i64 (cmpL q.xs r.xs)) ∧ ∃ k, w' = wr.drewN k) :=
                    show ∀ m : Nat, _ from fun m => (cmpL_any (some qa) (some ra) q.n q.c r.n r.c q.xs r.xs (wr.drewN m) ((hqq.more hbw.size).drewN m) ((hra.out.more hbw.size).drewN m) (by omega) (by omega)).mono fun _ _ ⟨h1, h2⟩ => ⟨h1, m, h2.symm⟩
                  rcases Bool.eq_false_or_eq_true (lockLt (dat rs) k) with HL | HL
                  · have hdc : decide (0 ≤ cmpL q.xs r.xs) = false := by rw [HC.out, HL]; rfl
                    have HY : Hid (lkAt d (dat rs) k = true) := lk_y X1.out hB hA (.inr HL)
                    go_wp2
                    go_quiet ((first | (go_at_call 52; exact HCC.out _) | (go_at_call_of 51 (Value.int .i64 (lockA (dat rs) k)); exact quietB' (within_any _ _ _ _) hA) | (go_at_call 51; exact quietB' (within_any _ _ _ _) hB)))
                    go_wp2
                    go_roundw
                    case rel => exact ⟨k + 1, by omega, by go_num, upto_succ HK.out HY.out, below_drewN hbw _⟩
                    case measure => simp [intOf]; omega
                  · have hdc : decide (0 ≤ cmpL q.xs r.xs) = true := by rw [HC.out, HL]; rfl
                    have HY : Hid (lkAt d (dat rs) k = false) := lk_p (by have := hj.out; omega) HL
                    go_wp2
                    go_quiet ((first | (go_at_call 52; exact HCC.out _) | (go_at_call_of 51 (Value.int .i64 (lockA (dat rs) k)); exact quietB' (within_any _ _ _ _) hA) | (go_at_call 51; exact quietB' (within_any _ _ _ _) hB)))
                    go_wp2
                    go_ret
                    exact ⟨ret_bool (by rw [HE.out, allUpto_f hlt HY.out]), below_drewN hbw _⟩
              · have HY : Hid (lkAt d (dat rs) k = false) := lk_a hA
                go_wp2
                go_quiet ((first | (go_at_call_of 51 (Value.int .i64 (lockA (dat rs) k)); exact quietB' (within_any _ _ _ _) hA) | (go_at_call 51; exact quietB' (within_any _ _ _ _) hB)))
                go_wp2
                go_ret
                exact ⟨ret_bool (by rw [HE.out, allUpto_f hlt HY.out]), below_drewN hbw _⟩
            · have HY : Hid (lkAt d (dat rs) k = false) := lk_b hB
              go_wp2
              go_quiet ((go_at_call 51; exact quietB' (within_any _ _ _ _) hB))
              go_wp2
              go_ret
              exact ⟨ret_bool (by rw [HE.out, allUpto_f hlt HY.out]), below_drewN hbw _⟩
          · have HY : Hid (lkAt d (dat rs) k = false) := lk_n (by rw [x1]; exact h2)
            have hrn2 : ((r.n : Int) != 2) = true := by rw [bne_iff_ne]; omega
            clear x1 x2 x3
            go_wp2
            go_quiet (fail)
            go_wp2
            go_ret
            exact ⟨ret_bool (by rw [HE.out, allUpto_f hlt HY.out]), below_drewN hbw _⟩
        · have e : k = n := by omega
          subst e
          go_wp2
          go_ret
          exact ⟨ret_bool (by rw [HE.out, allUpto_t HK.out]), hbw⟩
  · have HE : Hid (locksOk d (dat rs) = false) := show locksOk d (dat rs) = false by unfold locksOk; rw [hd]; simp
    go_enter Try.func15, Try.ntmps15
    go_wp2_with (go_at_call 51; refine (within_any _ _ _ _).mono ?_; rintro e w' ⟨rfl, rfl⟩)
    go_ret
    exact ⟨ret_bool HE.out.symm, Below.refl _ _⟩
theorem specLocks_any (d : Int) (A : Option Addr) (n c : Nat) (rs : List Row) (w : World) (hr : RSS w w.heap.size A n rs) (hn : n ≤ 1048576) (hrn : ∀ r ∈ rs, r.n ≤ 1048576) :
    Calls Try.prog 13 #[.int .i64 d, .slice A n c] w fun e w' => e = .returned (.bool (locksOk d (dat rs))) ∧ Below w.heap.size w w' := by
  have HM := Lib.hid hrn
  go_enter Try.func13, Try.ntmps13
  go_wp2_with fail; ((with_reducible refine (l10Locks_any d A n c rs _ hr hn HM.out).mono ?_); rintro e w1 ⟨rfl, hb1⟩)
  go_wp2
  go_ret
  exact ⟨rfl, hb1⟩
end Go.Proofs.Ytnaggimfialbfaa
