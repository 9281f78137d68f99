/- Contracts of locks of doors. -/
import Derived.Test.YtnaggimfialbfaaNest
import Derived.Test.YtnaggimfialbfaaSlc
import Derived.Deep.RegionWith
namespace Go.Proofs.Ytnaggimfialbfaa
set_option linter.unusedVariables false
set_option linter.unusedSimpArgs false
open Go.RowKit
theorem quietB' {P : Program} {f : FuncId} {args : Array Value} {w : World} {n : Nat} {b c : Bool}
    (h : Calls P f args (w.drewN n) fun e w' => e = .returned (.bool b) ∧ w.drewN n = w') (hb : b = c) : Calls P f args (w.drewN n) fun e w'' => e = .returned (.bool c) ∧ ∃ m, w'' = w.drewN m :=
  h.mono fun _ _ ⟨he, hm⟩ => ⟨by rw [he, hb], n, hm.symm⟩
def lockN (ls : List (List Int)) (k : Nat) : Nat := (ls.getD k []).length
def lockA (ls : List (List Int)) (k : Nat) : Int := (ls.getD k []).getD 0 0
def lockB (ls : List (List Int)) (k : Nat) : Int := (ls.getD k []).getD 1 0
def lockLt (ls : List (List Int)) (k : Nat) : Bool := decide (lockA ls (k - 1) < lockA ls k ∨ lockA ls (k - 1) = lockA ls k ∧ lockB ls (k - 1) < lockB ls k)
def lkAt (d : Int) (ls : List (List Int)) (k : Nat) : Bool :=
  decide (lockN ls k = 2) && inB (lockB ls k) 0 (d - 1) && inB (lockA ls k) 0 (lockB ls k - 1) && (decide (k = 0) || lockLt ls k)
def locksOk (d : Int) (ls : List (List Int)) : Bool := inB d 0 8 && decide (ls.length ≤ 12) && allUpto ls.length (lkAt d ls)
theorem upto_succ {f : Nat → Bool} {k : Nat} (h : ∀ j, j < k → f j = true) (h1 : f k = true) : ∀ j, j < k + 1 → f j = true := by
  intro j hj
  rcases Nat.lt_succ_iff_lt_or_eq.1 hj with h2 | rfl
  · exact h j h2
  · exact h1
theorem getD_at {α : Type} {l : List α} {k : Nat} {x d : α} (h : l[k]? = some x) : l.getD k d = x := by rw [List.getD_eq_getElem?_getD, h]; rfl
theorem lock_row {ls : List (List Int)} {k : Nat} {x : List Int} (h : ls[k]? = some x) : lockN ls k = x.length ∧ lockA ls k = x.getD 0 0 ∧ lockB ls k = x.getD 1 0 := by
  unfold lockN lockA lockB; rw [getD_at h]; exact ⟨rfl, rfl, rfl⟩
theorem lk_n {d : Int} {ls : List (List Int)} {k : Nat} (h : lockN ls k ≠ 2) : lkAt d ls k = false := by unfold lkAt; rw [decide_eq_false h]; rfl
theorem lk_b {d : Int} {ls : List (List Int)} {k : Nat} (h : inB (lockB ls k) 0 (d - 1) = false) : lkAt d ls k = false := by unfold lkAt; rw [h]; simp
theorem lk_a {d : Int} {ls : List (List Int)} {k : Nat} (h : inB (lockA ls k) 0 (lockB ls k - 1) = false) : lkAt d ls k = false := by unfold lkAt; rw [h]; simp
theorem lk_p {d : Int} {ls : List (List Int)} {k : Nat} (h0 : k ≠ 0) (h : lockLt ls k = false) : lkAt d ls k = false := by unfold lkAt; rw [h, decide_eq_false h0]; simp
theorem lk_y {d : Int} {ls : List (List Int)} {k : Nat} (h1 : lockN ls k = 2) (h2 : inB (lockB ls k) 0 (d - 1) = true) (h3 : inB (lockA ls k) 0 (lockB ls k - 1) = true) (h4 : k = 0 ∨ lockLt ls k = true) : lkAt d ls k = true := by
  unfold lkAt; rw [decide_eq_true h1, h2, h3]
  rcases h4 with h | h
  · rw [decide_eq_true h]; rfl
  · rw [h]; simp
theorem lk_two {d : Int} {ls : List (List Int)} {k : Nat} (h : lkAt d ls k = true) : lockN ls k = 2 ∧ inB (lockB ls k) 0 (d - 1) = true ∧ inB (lockA ls k) 0 (lockB ls k - 1) = true := by
  unfold lkAt at h
  simp only [Bool.and_eq_true, decide_eq_true_eq] at h
  exact ⟨h.1.1.1, h.1.1.2, h.1.2⟩
/-- A row of two numbers, opened. -/
theorem open_two {w : World} {B : Nat} {r : Row} (h : Reads w B 1 r.A r.n (ints r.xs)) (h2 : r.xs.length = 2) :
    ∃ ra, r.A = some ra ∧ r.n = 2 ∧ w.cell? ra = some (.int .i64 (r.xs.getD 0 0)) ∧ w.cell? (ra.add 0) = some (.int .i64 (r.xs.getD 0 0)) ∧ w.cell? ⟨ra.block, ra.off + 1, none⟩ = some (.int .i64 (r.xs.getD 1 0)) := by
  have hn : r.n = 2 := by have := ints_len h; omega
  obtain ⟨ra, u, h3, _, h4, h5⟩ := h.at_ (k := 0) (by omega)
  obtain ⟨ra', u', h6, _, h7, h8⟩ := h.at_ (k := 1) (by omega)
  rw [h3] at h6
  injection h6 with h6
  subst h6
  obtain ⟨b, h9, rfl⟩ := ints_at h4
  obtain ⟨b', h10, rfl⟩ := ints_at h7
  rw [getD_at h9, getD_at h10]
  exact ⟨ra, h3, hn, h5, h5, h8⟩
set_option maxHeartbeats 3200000 in
set_option maxRecDepth 8000 in
theorem l10Locks_any (d : Int) (A : Option Addr) (n c : Nat) (rs : List Row) (w : World) (hr : RSS w w.heap.size A n rs) (hn : n ≤ 1048576) (hrn : ∀ r ∈ rs, r.n ≤ 1048576) :
    Calls Try.prog 49 #[.int .i64 d, .slice A n c] w fun e w' => e = .returned (.bool (locksOk d (dat rs))) ∧ Below w.heap.size w w' := by
  have HM := Lib.hid hrn
  clear hrn
  have HLn : Hid ((dat rs).length = n) := show (dat rs).length = n by rw [dat_len]; exact hr.len
  rcases Bool.eq_false_or_eq_true (inB d 0 8) with hd | hd
  · by_cases h12 : 12 < n
    · have HE : Hid (locksOk d (dat rs) = false) := show locksOk d (dat rs) = false by unfold locksOk; rw [HLn.out, decide_eq_false (by omega)]; simp
      go_enter Try.func49, Try.ntmps49
      go_wp2_with (go_at_call 56; refine (l00In_any _ _ _ _).mono ?_; rintro e w' ⟨rfl, rfl⟩)
      go_ret
      exact ⟨ret_bool HE.out.symm, Below.refl _ _⟩
    · have HE : Hid (locksOk d (dat rs) = allUpto n (lkAt d (dat rs))) := show locksOk d (dat rs) = _ by unfold locksOk; rw [HLn.out, decide_eq_true (show n ≤ 12 by omega), hd]; simp
      obtain ⟨d1, d2⟩ := inB_t hd
      have hwd : IntKind.i64.wrap (d - 1) = d - 1 := IntWalk.i64_in _ (by omega)
      go_enter Try.func49, Try.ntmps49
      go_wp2_with (go_at_call 56; refine (l00In_any _ _ _ _).mono ?_; rintro e w' ⟨rfl, rfl⟩)
      go_loopw [5] (fun i wr => ∃ (k : Nat), k ≤ n ∧ i = .int .i64 k ∧ Hid (∀ j, j < k → lkAt d (dat rs) j = true) ∧ Below w.heap.size w wr) (fun i _ => n - (intOf i).toNat)
      case atStart => exact ⟨0, by omega, rfl, fun j hj => absurd hj (Nat.not_lt_zero _), Below.refl _ _⟩
      case round =>
        obtain ⟨k, hk, rfl, HK, hbw⟩ := hrel
        by_cases hlt : k < n
        · obtain ⟨ad, r, rfl, hx, hc, hrr⟩ := (hr.below hbw).at_ hlt
          obtain ⟨x1, x2, x3⟩ := lock_row (dat_at hx)
          have hlr := ints_len hrr
          by_cases h2 : r.xs.length = 2
          · obtain ⟨ra, hA, hn2, c0, c0', c1⟩ := open_two hrr h2
            rw [← x2] at c0 c0'
            rw [← x3] at c1
            rw [hA] at hc
            have X1 : Hid (lockN (dat rs) k = 2) := x1.trans h2
            have hrn2 : ((r.n : Int) != 2) = false := by rw [hn2]; rfl
            have hrn0 : (0 : Int) < (r.n : Int) := by omega
            have hrn1 : (1 : Int) < (r.n : Int) := by omega
            clear x1 x2 x3 hA hn2 hlr h2
            rcases Bool.eq_false_or_eq_true (inB (lockB (dat rs) k) 0 (d - 1)) with hB | hB
            · obtain ⟨b1, b2⟩ := inB_t hB
              have hwb : IntKind.i64.wrap (lockB (dat rs) k - 1) = lockB (dat rs) k - 1 := IntWalk.i64_in _ (by omega)
              rcases Bool.eq_false_or_eq_true (inB (lockA (dat rs) k) 0 (lockB (dat rs) k - 1)) with hA | hA
              · rcases Nat.eq_zero_or_pos k with h0 | hpos
                · subst h0
                  have hcz : wr.cell? ad = some (.slice (some ra) r.n r.c) := hc
                  have HY : Hid (lkAt d (dat rs) 0 = true) := lk_y X1.out hB hA (.inl rfl)
                  go_wp2
                  go_quiet ((first | (go_at_call_of 56 (Value.int .i64 (lockA (dat rs) 0)); exact quietB' (l00In_any _ _ _ _) hA) | (go_at_call 56; exact quietB' (l00In_any _ _ _ _) hB)))
                  go_wp2
                  have hbq := below_drewN hbw nq
                  generalize wr.drewN nq = wq at hbq ⊢
                  go_quiet (fail)
                  go_wp2
                  go_roundw
                  case rel => exact ⟨1, by omega, by go_num, fun j hj => (by obtain rfl : j = 0 := by omega
                                                                             exact HY.out), below_drewN hbq _⟩
                  case measure => simp [intOf]; omega
                · obtain ⟨j, hj⟩ : ∃ j, Hid (k = j + 1) := ⟨k - 1, show k = k - 1 + 1 by omega⟩
                  have hjn : j < n := by have := hj.out; omega
                  have hwj : IntKind.i64.wrap ((k : Int) - 1) = (j : Int) := by have := hj.out; rw [IntWalk.i64_in _ (by omega)]; omega
                  have hjk : Hid (k - 1 = j) := show k - 1 = j by have := hj.out; omega
                  have hk0 : decide ((0 : Int) < (k : Int)) = true := decide_eq_true (by omega)
                  have hjI : (j : Int) < (n : Int) := by omega
                  obtain ⟨ad', q, e1, hx', hcq, hqq⟩ := (hr.below hbw).at_ hjn
                  injection e1 with e1
                  subst e1
                  obtain ⟨y1, y2, y3⟩ := lock_row (dat_at hx')
                  obtain ⟨z1, z2, z3⟩ := lk_two (HK.out j (by have := hj.out; omega))
                  obtain ⟨qa, hQ, qn2, q0, q0', q1⟩ := open_two hqq (by rw [← y1]; exact z1)
                  rw [← y2] at q0 q0'
                  rw [← y3] at q1
                  rw [hQ] at hcq
                  have hqn0 : (0 : Int) < (q.n : Int) := by omega
                  have hqn1 : (1 : Int) < (q.n : Int) := by omega
                  clear y1 y2 y3 z1 z2 z3 hQ qn2 hx'
                  by_cases m1 : lockA (dat rs) k < lockA (dat rs) j
                  · have HL : lockLt (dat rs) k = false := by unfold lockLt; rw [hjk.out, decide_eq_false_iff_not]; omega
                    have d1 : decide (lockA (dat rs) k < lockA (dat rs) j) = true := decide_eq_true m1
                    have HY : Hid (lkAt d (dat rs) k = false) := lk_p (by have := hj.out; omega) HL
                    go_wp2
                    go_quiet ((first | (go_at_call_of 56 (Value.int .i64 (lockA (dat rs) k)); exact quietB' (l00In_any _ _ _ _) hA) | (go_at_call 56; exact quietB' (l00In_any _ _ _ _) hB)))
                    go_wp2
                    have hbq := below_drewN hbw nq
                    have g1 : (wr.drewN nq).cell? (ad.add j) = _ := hcq
                    have g2 : (wr.drewN nq).cell? qa = _ := q0
                    have g3 : (wr.drewN nq).cell? ⟨qa.block, qa.off + 1, none⟩ = _ := q1
                    have g4 : (wr.drewN nq).cell? ra = _ := c0
                    have g5 : (wr.drewN nq).cell? ⟨ra.block, ra.off + 1, none⟩ = _ := c1
                    generalize wr.drewN nq = wq at hbq g1 g2 g3 g4 g5 ⊢
                    go_quiet (fail)
                    go_wp2
                    go_ret
                    exact ⟨ret_bool (by rw [HE.out, allUpto_f hlt HY.out]), below_drewN hbq _⟩
                  · have d1 : decide (lockA (dat rs) k < lockA (dat rs) j) = false := decide_eq_false m1
                    by_cases m2 : lockA (dat rs) j = lockA (dat rs) k
                    · have d2 : (lockA (dat rs) j == lockA (dat rs) k) = true := beq_iff_eq.2 m2
                      by_cases m3 : lockB (dat rs) k ≤ lockB (dat rs) j
                      · have HL : lockLt (dat rs) k = false := by unfold lockLt; rw [hjk.out, decide_eq_false_iff_not]; omega
                        have d3 : decide (lockB (dat rs) k ≤ lockB (dat rs) j) = true := decide_eq_true m3
                        clear m2
                        have HY : Hid (lkAt d (dat rs) k = false) := lk_p (by have := hj.out; omega) HL
                        go_wp2
                        go_quiet ((first | (go_at_call_of 56 (Value.int .i64 (lockA (dat rs) k)); exact quietB' (l00In_any _ _ _ _) hA) | (go_at_call 56; exact quietB' (l00In_any _ _ _ _) hB)))
                        go_wp2
                        have hbq := below_drewN hbw nq
                        have g1 : (wr.drewN nq).cell? (ad.add j) = _ := hcq
                        have g2 : (wr.drewN nq).cell? qa = _ := q0
                        have g3 : (wr.drewN nq).cell? ⟨qa.block, qa.off + 1, none⟩ = _ := q1
                        have g4 : (wr.drewN nq).cell? ra = _ := c0
                        have g5 : (wr.drewN nq).cell? ⟨ra.block, ra.off + 1, none⟩ = _ := c1
                        generalize wr.drewN nq = wq at hbq g1 g2 g3 g4 g5 ⊢
                        go_quiet (fail)
                        go_wp2
                        go_ret
                        exact ⟨ret_bool (by rw [HE.out, allUpto_f hlt HY.out]), below_drewN hbq _⟩
                      · have HL : lockLt (dat rs) k = true := by unfold lockLt; rw [hjk.out, decide_eq_true_iff]; omega
                        have d3 : decide (lockB (dat rs) k ≤ lockB (dat rs) j) = false := decide_eq_false m3
                        clear m2
                        have HY : Hid (lkAt d (dat rs) k = true) := lk_y X1.out hB hA (.inr HL)
                        go_wp2
                        go_quiet ((first | (go_at_call_of 56 (Value.int .i64 (lockA (dat rs) k)); exact quietB' (l00In_any _ _ _ _) hA) | (go_at_call 56; exact quietB' (l00In_any _ _ _ _) hB)))
                        go_wp2
                        have hbq := below_drewN hbw nq
                        have g1 : (wr.drewN nq).cell? (ad.add j) = _ := hcq
                        have g2 : (wr.drewN nq).cell? qa = _ := q0
                        have g3 : (wr.drewN nq).cell? ⟨qa.block, qa.off + 1, none⟩ = _ := q1
                        have g4 : (wr.drewN nq).cell? ra = _ := c0
                        have g5 : (wr.drewN nq).cell? ⟨ra.block, ra.off + 1, none⟩ = _ := c1
                        generalize wr.drewN nq = wq at hbq g1 g2 g3 g4 g5 ⊢
                        go_quiet (fail)
                        go_wp2
                        go_roundw
                        case rel => exact ⟨k + 1, by omega, by go_num, upto_succ HK.out HY.out, below_drewN hbq _⟩
                        case measure => simp [intOf]; omega
                    · have d2 : (lockA (dat rs) j == lockA (dat rs) k) = false := beq_eq_false_iff_ne.2 m2
                      have HL : lockLt (dat rs) k = true := by unfold lockLt; rw [hjk.out, decide_eq_true_iff]; omega
                      have HY : Hid (lkAt d (dat rs) k = true) := lk_y X1.out hB hA (.inr HL)
                      go_wp2
                      go_quiet ((first | (go_at_call_of 56 (Value.int .i64 (lockA (dat rs) k)); exact quietB' (l00In_any _ _ _ _) hA) | (go_at_call 56; exact quietB' (l00In_any _ _ _ _) hB)))
                      go_wp2
                      have hbq := below_drewN hbw nq
                      have g1 : (wr.drewN nq).cell? (ad.add j) = _ := hcq
                      have g2 : (wr.drewN nq).cell? qa = _ := q0
                      have g3 : (wr.drewN nq).cell? ⟨qa.block, qa.off + 1, none⟩ = _ := q1
                      have g4 : (wr.drewN nq).cell? ra = _ := c0
                      have g5 : (wr.drewN nq).cell? ⟨ra.block, ra.off + 1, none⟩ = _ := c1
                      generalize wr.drewN nq = wq at hbq g1 g2 g3 g4 g5 ⊢
                      go_quiet (fail)
                      go_wp2
                      go_roundw
                      case rel => exact ⟨k + 1, by omega, by go_num, upto_succ HK.out HY.out, below_drewN hbq _⟩
                      case measure => simp [intOf]; omega
              · have HY : Hid (lkAt d (dat rs) k = false) := lk_a hA
                go_wp2
                go_quiet ((first | (go_at_call_of 56 (Value.int .i64 (lockA (dat rs) k)); exact quietB' (l00In_any _ _ _ _) hA) | (go_at_call 56; exact quietB' (l00In_any _ _ _ _) hB)))
                go_wp2
                go_ret
                exact ⟨ret_bool (by rw [HE.out, allUpto_f hlt HY.out]), below_drewN hbw _⟩
            · have HY : Hid (lkAt d (dat rs) k = false) := lk_b hB
              go_wp2
              go_quiet ((go_at_call 56; exact quietB' (l00In_any _ _ _ _) hB))
              go_wp2
              go_ret
              exact ⟨ret_bool (by rw [HE.out, allUpto_f hlt HY.out]), below_drewN hbw _⟩
          · have HY : Hid (lkAt d (dat rs) k = false) := lk_n (by rw [x1]; exact h2)
            have hrn2 : ((r.n : Int) != 2) = true := by rw [bne_iff_ne]; omega
            clear x1 x2 x3
            go_wp2
            go_quiet (fail)
            go_wp2
            go_ret
            exact ⟨ret_bool (by rw [HE.out, allUpto_f hlt HY.out]), below_drewN hbw _⟩
        · have e : k = n := by omega
          subst e
          go_wp2
          go_ret
          exact ⟨ret_bool (by rw [HE.out, allUpto_t HK.out]), hbw⟩
  · have HE : Hid (locksOk d (dat rs) = false) := show locksOk d (dat rs) = false by unfold locksOk; rw [hd]; simp
    go_enter Try.func49, Try.ntmps49
    go_wp2_with (go_at_call 56; refine (l00In_any _ _ _ _).mono ?_; rintro e w' ⟨rfl, rfl⟩)
    go_ret
    exact ⟨ret_bool HE.out.symm, Below.refl _ _⟩
end Go.Proofs.Ytnaggimfialbfaa
