/- Contracts of ValidDoors, the reference's side. -/
import Derived.Test.YtgbmpadlfcbcaaaLev
import Derived.Test.YtgbmpadlfcbcaaaDoor
import Derived.Test.YtgbmpadlfcbcaaaRDor
namespace Go.Proofs.Ytgbmpadlfcbcaaa
set_option linter.unusedVariables false
set_option linter.unusedSimpArgs false
open Go.RowKit
def dorOk (x : Dor) : Bool := doorOk x.s x.a x.b x.c
theorem dorOk_t {x : Dor} (h : dorOk x = true) : (0 ≤ x.a ∧ x.a ≤ 23) ∧ (1 ≤ x.c ∧ x.c ≤ 1000000) ∧ (1 ≤ x.b ∧ x.b ≤ x.c) := by
  unfold dorOk doorOk at h
  simp only [Bool.and_eq_true] at h
  exact ⟨inB_t h.1.1.2, isRes_t h.1.2, inB_t h.2⟩
def dId (xs : List Dor) (k : Nat) : ByteArray := (xs.getD k default).s
theorem dId_eq {xs : List Dor} {k : Nat} {x : Dor} (h : xs[k]? = some x) : dId xs k = x.s := by unfold dId; rw [List.getD_eq_getElem?_getD, h]; rfl
def dAny (xs : List Dor) (k : Nat) (a : Int) : Bool := (xs.take k).any (fun y => y.a == a)
def dOk (m : Nat) (xs : List Dor) (k : Nat) : Bool :=
  match xs[k]? with
  | some x => dorOk x && decide (x.a < (m : Int)) && (decide (k = 0) || sLt (dId xs (k - 1)) x.s) && !dAny xs k x.a
  | none => false
section
variable {m : Nat} {xs : List Dor} {k j : Nat} {x y : Dor}
theorem dOk_eq (h : xs[k]? = some x) : dOk m xs k = (dorOk x && decide (x.a < (m : Int)) && (decide (k = 0) || sLt (dId xs (k - 1)) x.s) && !dAny xs k x.a) := by unfold dOk; rw [h]
theorem dOk_o (h : xs[k]? = some x) (h0 : dorOk x = false) : dOk m xs k = false := by rw [dOk_eq h, h0]; simp
theorem dOk_a (h : xs[k]? = some x) (h0 : ¬ x.a < (m : Int)) : dOk m xs k = false := by rw [dOk_eq h, decide_eq_false h0]; simp
theorem dOk_p (h : xs[k]? = some x) (hk : k = j + 1) (hy : xs[j]? = some y) (h0 : sLt y.s x.s = false) : dOk m xs k = false := by
  rw [dOk_eq h, show k - 1 = j by omega, dId_eq hy, h0, decide_eq_false (show ¬ k = 0 by omega)]; simp
theorem dOk_d (h : xs[k]? = some x) (h0 : dAny xs k x.a = true) : dOk m xs k = false := by rw [dOk_eq h, h0]; simp
theorem dOk_z (h : xs[k]? = some x) (h0 : dorOk x = true) (h1 : x.a < (m : Int)) (hk : k = 0) : dOk m xs k = true := by
  subst hk
  rw [dOk_eq h, h0, decide_eq_true h1]; simp [dAny]
theorem dOk_y (h : xs[k]? = some x) (h0 : dorOk x = true) (h1 : x.a < (m : Int)) (hk : k = j + 1) (hy : xs[j]? = some y) (h2 : sLt y.s x.s = true) (h3 : dAny xs k x.a = false) : dOk m xs k = true := by
  rw [dOk_eq h, h0, decide_eq_true h1, show k - 1 = j by omega, dId_eq hy, h2, h3]; simp
end
def doorsOk (J : Int) (aw : List Awy) (xs : List Dor) : Bool := mineOk J aw && decide (xs.length ≤ 8) && allUpto xs.length (dOk aw.length xs)
section
variable {J : Int} {aw : List Awy} {xs : List Dor} {k : Nat}
theorem doorsOk_m (h : mineOk J aw = false) : doorsOk J aw xs = false := by unfold doorsOk; rw [h]; rfl
theorem doorsOk_l (h : 8 < xs.length) : doorsOk J aw xs = false := by unfold doorsOk; rw [decide_eq_false (show ¬ xs.length ≤ 8 by omega)]; simp
theorem doorsOk_k (hk : k < xs.length) (h : dOk aw.length xs k = false) : doorsOk J aw xs = false := by unfold doorsOk; rw [allUpto_f hk h, Bool.and_false]
theorem doorsOk_y (h : mineOk J aw = true) (h8 : xs.length ≤ 8) (h1 : ∀ k, k < xs.length → dOk aw.length xs k = true) : doorsOk J aw xs = true := by unfold doorsOk; rw [h, allUpto_t h1, decide_eq_true h8]; rfl
theorem doorsOk_t (h : doorsOk J aw xs = true) : mineOk J aw = true ∧ xs.length ≤ 8 ∧ ∀ x ∈ xs, dorOk x = true ∧ 0 ≤ x.a ∧ x.a < (aw.length : Int) := by
  unfold doorsOk at h
  simp only [Bool.and_eq_true, decide_eq_true_eq] at h
  refine ⟨h.1.1, h.1.2, fun x hx => ?_⟩
  obtain ⟨k, hk⟩ := List.getElem?_of_mem hx
  have hkl : k < xs.length := by
    rcases Nat.lt_or_ge k xs.length with h1 | h1
    · exact h1
    · rw [List.getElem?_eq_none h1] at hk; cases hk
  have hm := allUpto_get h.2 hkl
  rw [dOk_eq hk] at hm
  simp only [Bool.and_eq_true, decide_eq_true_eq] at hm
  exact ⟨hm.1.1.1, (dorOk_t hm.1.1.1).1.1, hm.1.1.2⟩
end
theorem dAny_y {xs : List Dor} {k j : Nat} {y : Dor} {a : Int} (hj : j < k) (hy : xs[j]? = some y) (h : (y.a == a) = true) : dAny xs k a = true := by
  unfold dAny
  rw [List.any_eq_true]
  exact ⟨y, List.mem_of_getElem? (i := j) (by rw [List.getElem?_take, if_pos hj]; exact hy), h⟩
set_option maxHeartbeats 800000 in
theorem l10OneP_any (x : Dor) (p : Addr) (w : World) (hs : x.s.size ≤ maxLen) (hc : Cells w p x.cells) :
    Calls Try.prog 107 #[.pointer (some p)] w fun e w' => e = .returned (.bool (dorOk x)) ∧ ∃ n, w' = w.drewN n := by
  obtain ⟨h0, h1, h2, h3⟩ := Dor.open_ hc
  clear hc
  rcases Bool.eq_false_or_eq_true (isName x.s) with k0 | k0
  · rcases Bool.eq_false_or_eq_true (inB x.a 0 23) with k1 | k1
    · rcases Bool.eq_false_or_eq_true (isRes x.c) with k2 | k2
      · rcases Bool.eq_false_or_eq_true (inB x.b 1 x.c) with k3 | k3
        all_goals
          go_enter Try.func107, Try.ntmps107
          go_wp2
          go_quiet ((first | (go_at_call 122; exact quietB (l01Name_any _ _ hs) k0) | (go_at_call 111; exact quietB (l03Res_any _ _) k2) | (go_at_call_of 84 (Value.int .i64 23); exact quietB (l00In_any _ _ _ _) k1) | (go_at_call 84; exact quietB (l00In_any _ _ _ _) k3)))
          go_wp2
          go_ret
          exact ⟨ret_bool (by simp [dorOk, doorOk, k0, k1, k2, k3]), _, rfl⟩
      · go_enter Try.func107, Try.ntmps107
        go_wp2
        go_quiet ((first | (go_at_call 122; exact quietB (l01Name_any _ _ hs) k0) | (go_at_call 111; exact quietB (l03Res_any _ _) k2) | (go_at_call 84; exact quietB (l00In_any _ _ _ _) k1)))
        go_wp2
        go_ret
        exact ⟨ret_bool (by simp [dorOk, doorOk, k0, k1, k2]), _, rfl⟩
    · go_enter Try.func107, Try.ntmps107
      go_wp2
      go_quiet ((first | (go_at_call 122; exact quietB (l01Name_any _ _ hs) k0) | (go_at_call 84; exact quietB (l00In_any _ _ _ _) k1)))
      go_wp2
      go_ret
      exact ⟨ret_bool (by simp [dorOk, doorOk, k0, k1]), _, rfl⟩
  · go_enter Try.func107, Try.ntmps107
    go_wp2
    go_quiet ((go_at_call 122; exact quietB (l01Name_any _ _ hs) k0))
    go_wp2
    go_ret
    exact ⟨ret_bool (by simp [dorOk, doorOk, k0]), _, rfl⟩
theorem one_q {x : Dor} {b : Bool} {p : Addr} {w : World} (k : dorOk x = b) (hs : x.s.size ≤ maxLen) (hc : Cells w p x.cells) :
    ∀ m, Calls Try.prog 107 #[.pointer (some p)] (w.drewN m) fun e w'' => e = .returned (.bool b) ∧ ∃ q, w'' = w.drewN q :=
  fun m => Calls.quiet_of ((l10OneP_any x p (w.drewN m) hs (hc.drewN m)).mono fun _ _ ⟨he, hw⟩ => ⟨by rw [he, k], hw⟩)
set_option maxHeartbeats 3200000 in
set_option maxRecDepth 100000 in
theorem l10Ok_any (J : Int) (M : Option Addr) (m d : Nat) (aw : List Awy) (A : Option Addr) (n c : Nat) (xs : List Dor) (p : Addr) (w : World) (hm : Reads w w.heap.size 7 M m (Awy.recs aw)) (hmn : m ≤ 1048576) (haw : ∀ x ∈ aw, x.s.size ≤ maxLen)
    (hr : Reads w w.heap.size 4 A n (Dor.recs xs)) (hn : n ≤ 1048576) (hxs : ∀ x ∈ xs, x.s.size ≤ maxLen) (hcp : Cells w p [.int .i64 J, .slice M m d]) :
    Calls Try.prog 69 #[.pointer (some p), .slice A n c] w fun e w' => e = .returned (.bool (doorsOk J aw xs)) ∧ Below w.heap.size w w' := by
  have HM := Lib.hid hxs
  have HLm := Lib.hid (recs_rlen Awy.clen (by omega) hm)
  have HLn := Lib.hid (recs_rlen Dor.clen (by omega) hr)
  have hp1 := hcp.at_ 0 rfl
  have hpl : p.block < w.heap.size := block_lt_of_cell (a := ⟨p.block, p.off + 1, none⟩) hp1
  have cc := l04Ok_any J M m d aw p w hm hmn haw hcp
  clear hxs haw hcp
  go_enter Try.func69, Try.ntmps69
  go_wp2_with fail; ((with_reducible refine (cc).mono ?_); rintro e w1 ⟨rfl, hb1⟩)
  clear cc
  rcases Bool.eq_false_or_eq_true (mineOk J aw) with hok | hok
  · have HOK := Lib.hid hok
    by_cases h8 : n ≤ 8
    · go_wp2
      go_loopw [5] (fun i wr => ∃ (k : Nat), k ≤ n ∧ i = .int .i64 k ∧ Hid (∀ j, j < k → dOk m xs j = true) ∧ Below w.heap.size w wr) (fun i _ => n - (intOf i).toNat)
      case atStart => exact ⟨0, by omega, rfl, fun j hj => absurd hj (Nat.not_lt_zero _), hb1⟩
      case round =>
        obtain ⟨k, hk, rfl, HK, hbw⟩ := hrel
        have g1 : wr.cell? ⟨p.block, p.off + 1, none⟩ = some (.slice M m d) := (hbw.cell (p := ⟨p.block, p.off + 1, none⟩) hpl).trans hp1
        by_cases hlt : k < n
        · obtain ⟨ad, x, rfl, had, hx, hc⟩ := (hr.below hbw).rec_at Dor.clen (by omega) hlt
          have HX := Lib.hid hx
          have HCx := Lib.hid hc
          have hmx := HM.out x (List.mem_of_getElem? hx)
          have hlx : Hid (k < xs.length) := show k < xs.length by rw [HLn.out]; exact hlt
          have hltI : (k : Int) < (n : Int) := by omega
          obtain ⟨a0, a1, a2, a3⟩ := Dor.open_ hc
          clear hx hc
          rcases Bool.eq_false_or_eq_true (dorOk x) with k0 | k0
          · have HO := Lib.hid (one_q k0 hmx HCx.out)
            by_cases hxa : x.a < (m : Int)
            · have hxa' : decide ((m : Int) ≤ x.a) = false := decide_eq_false (by omega)
              rcases Nat.eq_zero_or_pos k with h0 | hpos
              · have HY := Lib.hid (dOk_z (m := m) HX.out k0 hxa h0)
                subst h0
                have hcz : Cells wr ad x.cells := HCx.out
                have HO := Lib.hid (one_q k0 hmx hcz)
                obtain ⟨b0, b1, b2, b3⟩ := Dor.open_ hcz
                clear hcz hxa
                go_wp2
                go_quiet ((go_at_call 107; exact HO.out _))
                have hbq := below_drewN hbw nq
                generalize wr.drewN nq = wq at hbq ⊢
                go_wp2
                go_loopw [6] (fun i wz => i = .int .i64 0 ∧ Below w.heap.size w wz) (fun _ _ => 0)
                case atStart => exact ⟨rfl, hbq⟩
                case round =>
                  obtain ⟨rfl, hbz⟩ := hrel
                  go_wp2
                  go_roundw
                  case rel => exact ⟨1, by omega, by go_num, upto_succ1 HK.out HY.out, hbz⟩
                  case measure => simp [intOf]; omega
              · obtain ⟨j, hj⟩ : ∃ j, Hid (k = j + 1) := ⟨k - 1, show k = k - 1 + 1 by omega⟩
                have hjn : j < n := by have := hj.out; omega
                have hwj : IntKind.i64.wrap ((k : Int) - 1) = (j : Int) := by have := hj.out; rw [IntWalk.i64_in _ (by omega)]; omega
                have hk0 : decide ((0 : Int) < (k : Int)) = true := decide_eq_true (by omega)
                have hjI : (j : Int) < (n : Int) := by omega
                obtain ⟨ad', y, e1, had', hy, hcy⟩ := (hr.below hbw).rec_at Dor.clen (by omega) hjn
                injection e1 with e1
                subst e1
                have HYy := Lib.hid hy
                have b0 := hcy.z rfl
                clear hy hcy
                cases hl : Op.bytesLess y.s.toList x.s.toList
                · have HY := Lib.hid (dOk_p (m := m) HX.out hj.out HYy.out hl)
                  go_wp2
                  go_quiet ((go_at_call 107; exact HO.out _))
                  go_wp2
                  go_ret
                  exact ⟨ret_bool (doorsOk_k hlx.out (by rw [HLm.out]; exact HY.out)).symm, below_drewN hbw _⟩
                · have HYN := Lib.hid (fun h3 => dOk_y (m := m) HX.out k0 hxa hj.out HYy.out hl h3)
                  have HYD := Lib.hid (fun h3 => dOk_d (m := m) HX.out h3)
                  go_wp2
                  go_quiet ((go_at_call 107; exact HO.out _))
                  have hbq := below_drewN hbw nq
                  generalize wr.drewN nq = wq at hbq ⊢
                  go_wp2
                  go_loopw [6] (fun i wz => ∃ q : Nat, q ≤ k ∧ i = .int .i64 q ∧ Hid (dAny xs q x.a = false) ∧ Below w.heap.size w wz) (fun i _ => k - (intOf i).toNat)
                  case atStart => exact ⟨0, by omega, rfl, show _ = _ by unfold dAny; simp, hbq⟩
                  case round =>
                    rename World => wz
                    obtain ⟨q, hq, rfl, HQ, hbz⟩ := hrel
                    by_cases hqk : q < k
                    · have hqn : q < n := by omega
                      obtain ⟨ad2, z, e2, had2, hz, hcz⟩ := (hr.below hbz).rec_at Dor.clen (by omega) hqn
                      injection e2 with e2
                      subst e2
                      obtain ⟨ad3, x', e3, had3, hx', hcx⟩ := (hr.below hbz).rec_at Dor.clen (by omega) hlt
                      injection e3 with e3
                      subst e3
                      obtain rfl : x = x' := by rw [HX.out] at hx'; exact Option.some.inj hx'
                      have z1 := hcz.at_ 0 rfl
                      have x1 := hcx.at_ 0 rfl
                      have HZ := Lib.hid hz
                      have hqnI : (q : Int) < (n : Int) := by omega
                      clear hz hcz hx' hcx
                      cases he : (z.a == x.a)
                      · have HE := Lib.hid he
                        go_wp2
                        go_quiet (fail)
                        go_wp2
                        go_roundw
                        case rel => exact ⟨q + 1, by omega, by go_num, (show _ = _ by unfold dAny; exact any_take HZ.out HQ.out HE.out), below_drewN hbz _⟩
                        case measure => simp [intOf]; omega
                      · have HE := Lib.hid (HYD.out (dAny_y hqk HZ.out he))
                        go_wp2
                        go_quiet (fail)
                        go_wp2
                        go_ret
                        exact ⟨ret_bool (doorsOk_k hlx.out (by rw [HLm.out]; exact HE.out)).symm, below_drewN hbz _⟩
                    · have e : q = k := by omega
                      have HY := Lib.hid (HYN.out (by rw [← e]; exact HQ.out))
                      clear e
                      go_wp2
                      go_roundw
                      case rel => exact ⟨k + 1, by omega, by go_num, upto_succ1 HK.out HY.out, hbz⟩
                      case measure => simp [intOf]; omega
            · have hxa' : decide ((m : Int) ≤ x.a) = true := decide_eq_true (by omega)
              have HY := Lib.hid (dOk_a (m := m) HX.out hxa)
              clear hxa
              go_wp2
              go_quiet ((go_at_call 107; exact HO.out _))
              go_wp2
              go_ret
              exact ⟨ret_bool (doorsOk_k hlx.out (by rw [HLm.out]; exact HY.out)).symm, below_drewN hbw _⟩
          · have HO := Lib.hid (one_q k0 hmx HCx.out)
            have HY := Lib.hid (dOk_o (m := m) HX.out k0)
            go_wp2
            go_quiet ((go_at_call 107; exact HO.out _))
            go_wp2
            go_ret
            exact ⟨ret_bool (doorsOk_k hlx.out (by rw [HLm.out]; exact HY.out)).symm, below_drewN hbw _⟩
        · have e : k = n := by omega
          have HV := Lib.hid (doorsOk_y HOK.out (by rw [HLn.out]; exact h8) (by rw [HLn.out, HLm.out, ← e]; exact HK.out))
          clear e
          go_wp2
          go_ret
          exact ⟨ret_bool HV.out.symm, hbw⟩
    · have HV := Lib.hid (doorsOk_l (J := J) (aw := aw) (xs := xs) (by rw [HLn.out]; omega))
      go_wp2
      go_ret
      exact ⟨ret_bool HV.out.symm, hb1⟩
  · have HV := Lib.hid (doorsOk_m (xs := xs) hok)
    go_wp2
    go_ret
    exact ⟨ret_bool HV.out.symm, hb1⟩
theorem specValidDoors_any (J : Int) (M : Option Addr) (m d : Nat) (aw : List Awy) (A : Option Addr) (n c : Nat) (xs : List Dor) (w : World) (hm : Reads w w.heap.size 7 M m (Awy.recs aw)) (hmn : m ≤ 1048576) (haw : ∀ x ∈ aw, x.s.size ≤ maxLen)
    (hr : Reads w w.heap.size 4 A n (Dor.recs xs)) (hn : n ≤ 1048576) (hxs : ∀ x ∈ xs, x.s.size ≤ maxLen) :
    Calls Try.prog 26 #[.agg #[.int .i64 J, .slice M m d], .slice A n c] w fun e w' => e = .returned (.bool (doorsOk J aw xs)) ∧ Below w.heap.size w w' := by
  have hb : Below w.heap.size w (w.alloc (.cells #[.int .i64 J, .slice M m d] 31)) := (Below.refl _ _).alloc (Nat.le_refl _) _
  have cc := l10Ok_any J M m d aw A n c xs ⟨w.heap.size, 0, none⟩ _ ((hm.below hb).more hb.size) hmn haw ((hr.below hb).more hb.size) hn hxs (Cells.new w _ _)
  clear hxs haw
  go_enter Try.func26, Try.ntmps26
  go_wp2_with fail; ((with_reducible refine (cc).mono ?_); rintro e w1 ⟨rfl, hb1⟩)
  go_wp2
  go_ret
  exact ⟨rfl, hb.trans (hb1.mono (by simp))⟩
end Go.Proofs.Ytgbmpadlfcbcaaa
