/- Contracts of the tests of a walk and of the draught along a walk, both sides. -/
import Derived.Test.YtjmhhbjbmgpagaaWlk
namespace Go.Proofs.Ytjmhhbjbmgpagaa
set_option linter.unusedVariables false
set_option linter.unusedSimpArgs false
open Go.RowKit
def wkFrom (xs : List Awy) (x : Int) : Int := match xs[wkI x]? with | some e => (if 0 < x then e.a else e.b) | none => 0
def wkTo (xs : List Awy) (x : Int) : Int := match xs[wkI x]? with | some e => (if 0 < x then e.b else e.a) | none => 0
theorem wkFrom_p {xs : List Awy} {x : Int} {e : Awy} (h : xs[wkI x]? = some e) (hp : 0 < x) : wkFrom xs x = e.a := by unfold wkFrom; rw [h]; exact if_pos hp
theorem wkFrom_n {xs : List Awy} {x : Int} {e : Awy} (h : xs[wkI x]? = some e) (hp : ¬ 0 < x) : wkFrom xs x = e.b := by unfold wkFrom; rw [h]; exact if_neg hp
theorem wkTo_p {xs : List Awy} {x : Int} {e : Awy} (h : xs[wkI x]? = some e) (hp : 0 < x) : wkTo xs x = e.b := by unfold wkTo; rw [h]; exact if_pos hp
theorem wkTo_n {xs : List Awy} {x : Int} {e : Awy} (h : xs[wkI x]? = some e) (hp : ¬ 0 < x) : wkTo xs x = e.a := by unfold wkTo; rw [h]; exact if_neg hp
def wkAt (xs : List Awy) (ws : List Int) (k : Nat) : Bool := wkB xs.length (ws.getD k 0) && (decide (k = 0) || (wkFrom xs (ws.getD k 0) == wkTo xs (ws.getD (k - 1) 0)))
def wkAll (xs : List Awy) (ws : List Int) : Bool := allUpto ws.length (wkAt xs ws)
def isWk (xs : List Awy) (ws : List Int) : Bool := decide (ws.length ≤ 64) && wkAll xs ws
section
variable {xs : List Awy} {ws : List Int} {k : Nat} {x y : Int}
theorem wkAt_b (hx : ws[k]? = some x) (h : wkB xs.length x = false) : wkAt xs ws k = false := by unfold wkAt; rw [getD_at hx, h]; rfl
theorem wkAt_z (hx : ws[k]? = some x) (h : wkB xs.length x = true) (h0 : k = 0) : wkAt xs ws k = true := by unfold wkAt; rw [getD_at hx, h, decide_eq_true h0]; rfl
theorem wkAt_p (hx : ws[k]? = some x) (h : wkB xs.length x = true) (h0 : 0 < k) (hy : ws[k - 1]? = some y) : wkAt xs ws k = (wkFrom xs x == wkTo xs y) := by
  unfold wkAt; rw [getD_at hx, getD_at hy, h, decide_eq_false (by omega)]; simp
theorem wkAll_f (hk : k < ws.length) (h : wkAt xs ws k = false) : wkAll xs ws = false := allUpto_f hk h
theorem wkAll_b (h : wkAll xs ws = true) : ∀ x ∈ ws, wkB xs.length x = true := by
  intro x hx
  obtain ⟨k, hk⟩ := List.getElem?_of_mem hx
  have hl : k < ws.length := by
    rcases Nat.lt_or_ge k ws.length with h1 | h1
    · exact h1
    · rw [List.getElem?_eq_none h1] at hk; cases hk
  have h1 := allUpto_get h hl
  unfold wkAt at h1
  rw [getD_at hk, Bool.and_eq_true] at h1
  exact h1.1
end
def wdrR (J : Int) (xs : List Awy) (ls ts ws : List Int) : Int × Int :=
  if askR J xs ls ts = 0 then (if isWk xs ws = true then (alTo (drTo xs ls ts xs.length) ws ws.length, 0) else (0, 6)) else (0, askR J xs ls ts)
set_option maxHeartbeats 3200000 in
set_option maxRecDepth 100000 in
theorem l09Walk_any (M : Option Addr) (m d : Nat) (xs : List Awy) (B : Option Addr) (n c : Nat) (ws : List Int) (p : Addr) (w : World) (hm : Reads w w.heap.size 7 M m (Awy.recs xs)) (hw : Reads w w.heap.size 1 B n (ints ws)) (hmn : m ≤ 24) (hn : n ≤ 1048576)
    (hp1 : w.cell? ⟨p.block, p.off + 1, none⟩ = some (.slice M m d)) :
    Calls Try.prog 38 #[.pointer (some p), .slice B n c] w fun e w' => e = .returned (.bool (isWk xs ws)) ∧ ∃ q, w' = w.drewN q := by
  have HLm := Lib.hid (recs_rlen Awy.clen (by omega) hm)
  have HLn := Lib.hid (ints_len hw)
  have hmI : -9223372036854775807 ≤ (m : Int) := by omega
  go_enter Try.func38, Try.ntmps38
  go_wp2
  go_loopw [6, 7] (fun a i wr => ∃ (k q : Nat) (av : Int), k ≤ n ∧ a = .int .i64 av ∧ i = .int .i64 k ∧ Hid (∀ j, j < k → wkAt xs ws j = true) ∧ Hid (0 < k → av = wkTo xs (ws.getD (k - 1) 0)) ∧ wr = w.drewN q) (fun _ i _ => n - (intOf i).toNat)
  case atStart => exact ⟨0, 0, -1, by omega, rfl, rfl, fun j hj => absurd hj (Nat.not_lt_zero _), fun h => absurd h (Nat.lt_irrefl _), rfl⟩
  case round =>
    obtain ⟨k, q, av, hk, rfl, rfl, HK, HA, rfl⟩ := hrel
    by_cases hlt : k < n
    · obtain ⟨bd, u, rfl, hbd, hx, hc⟩ := hw.at_ hlt
      obtain ⟨x, hxk, rfl⟩ := ints_at hx
      have HX := Lib.hid hxk
      have hltI : (k : Int) < (n : Int) := by omega
      have HLk : Hid (k < ws.length) := show k < ws.length by rw [HLn.out]; exact hlt
      clear hx hxk
      by_cases h0 : x = 0
      · subst h0
        have HF := Lib.hid (wkAll_f HLk.out (wkAt_b (xs := xs) HX.out wkB_z))
        go_wp2
        go_ret
        exact ⟨ret_bool (by unfold isWk; rw [HF.out, Bool.and_false]), _, rfl⟩
      · have h0' : (x == 0) = false := beq_eq_false_iff_ne.2 h0
        rcases Bool.eq_false_or_eq_true (inB x (-(m : Int)) m) with hb | hb
        · have hwb : wkB xs.length x = true := by rw [HLm.out, wkB_in h0]; exact hb
          have HWB := Lib.hid hwb
          have hIl : wkI x < m := by have := wkI_lt hwb; rw [HLm.out] at this; exact this
          obtain ⟨ad, e, rfl, had, he, hce⟩ := hm.rec_at Awy.clen (by omega) hIl
          have HE := Lib.hid he
          obtain ⟨a0, a1, a2, a3, a4, a5, a6⟩ := Awy.open_ hce
          obtain ⟨b1, b2⟩ := inB_t hb
          have hwi : IntKind.i64.wrap (absI x - 1) = (wkI x : Int) := by rw [wkI_int h0]; exact IntWalk.i64_in _ (by unfold absI; omega)
          have hIlI : (wkI x : Int) < (m : Int) := by omega
          have HAbs : Hid (∀ nn, Calls Try.prog 58 #[.int .i64 x] (w.drewN (q + nn)) fun e w'' => e = .returned (.int .i64 (absI x)) ∧ ∃ mm, w'' = w.drewN (q + mm)) := fun nn => (l03Abs_any x _ (by omega) (by omega)).mono fun _ _ ⟨h, hw⟩ => ⟨h, nn, hw.symm⟩
          clear he hce hwb
          go_wp2_with fail; ((with_reducible refine (l00In_any _ _ _ _).mono ?_); rintro e' w' ⟨rfl, rfl⟩)
          rw [hb]
          clear hb
          go_wp2
          go_quiet ((go_at_call 58; exact HAbs.out _))
          by_cases hp : 0 < x
          · have hp' : ¬ x < 0 := by omega
            have HFr := Lib.hid (wkFrom_p HE.out (by omega))
            have HTo := Lib.hid (wkTo_p HE.out (by omega))
            rcases Nat.eq_zero_or_pos k with hz | hpos
            · have HY := Lib.hid (wkAt_z HX.out HWB.out hz)
              subst hz
              have hcz : w.cell? bd = some (.int .i64 x) := hc
              go_wp2
              go_roundw
              case rel => exact ⟨1, _, _, by omega, rfl, by go_num, upto_succ1 HK.out HY.out, fun _ => by show _ = wkTo xs (ws.getD 0 0); rw [getD_at HX.out, HTo.out], by first | rfl | exact World.drewN_drewN _ _ _⟩
              case measure => simp [intOf]; omega
            · have hk0 : decide ((0 : Int) < (k : Int)) = true := decide_eq_true (by omega)
              have hAv := HA.out hpos
              have HYY : Hid (wkAt xs ws k = (e.a == av)) := show _ = _ by
                obtain ⟨y, hy⟩ : ∃ y, ws[k - 1]? = some y := ⟨_, List.getElem?_eq_getElem (by have := HLk.out; omega)⟩
                rw [wkAt_p HX.out HWB.out hpos hy, HFr.out, hAv, getD_at hy]
              clear hAv
              cases hne : (e.a == av)
              · have hne' : (e.a != av) = true := by simp [bne, hne]
                rw [hne] at HYY
                have HF := Lib.hid (wkAll_f HLk.out HYY.out)
                clear hne
                go_wp2
                go_ret
                exact ⟨ret_bool (by unfold isWk; rw [HF.out, Bool.and_false]), _, by first | rfl | exact World.drewN_drewN _ _ _⟩
              · have hne' : (e.a != av) = false := by simp [bne, hne]
                rw [hne] at HYY
                clear hne
                go_wp2
                go_roundw
                case rel => exact ⟨k + 1, _, _, by omega, rfl, by go_num, upto_succ1 HK.out HYY.out, fun _ => by rw [Nat.add_sub_cancel, getD_at HX.out, HTo.out], by first | rfl | exact World.drewN_drewN _ _ _⟩
                case measure => simp [intOf]; omega
          · have hp' : x < 0 := by omega
            have HFr := Lib.hid (wkFrom_n HE.out (by omega))
            have HTo := Lib.hid (wkTo_n HE.out (by omega))
            rcases Nat.eq_zero_or_pos k with hz | hpos
            · have HY := Lib.hid (wkAt_z HX.out HWB.out hz)
              subst hz
              have hcz : w.cell? bd = some (.int .i64 x) := hc
              go_wp2
              go_roundw
              case rel => exact ⟨1, _, _, by omega, rfl, by go_num, upto_succ1 HK.out HY.out, fun _ => by show _ = wkTo xs (ws.getD 0 0); rw [getD_at HX.out, HTo.out], by first | rfl | exact World.drewN_drewN _ _ _⟩
              case measure => simp [intOf]; omega
            · have hk0 : decide ((0 : Int) < (k : Int)) = true := decide_eq_true (by omega)
              have hAv := HA.out hpos
              have HYY : Hid (wkAt xs ws k = (e.b == av)) := show _ = _ by
                obtain ⟨y, hy⟩ : ∃ y, ws[k - 1]? = some y := ⟨_, List.getElem?_eq_getElem (by have := HLk.out; omega)⟩
                rw [wkAt_p HX.out HWB.out hpos hy, HFr.out, hAv, getD_at hy]
              clear hAv
              cases hne : (e.b == av)
              · have hne' : (e.b != av) = true := by simp [bne, hne]
                rw [hne] at HYY
                have HF := Lib.hid (wkAll_f HLk.out HYY.out)
                clear hne
                go_wp2
                go_ret
                exact ⟨ret_bool (by unfold isWk; rw [HF.out, Bool.and_false]), _, by first | rfl | exact World.drewN_drewN _ _ _⟩
              · have hne' : (e.b != av) = false := by simp [bne, hne]
                rw [hne] at HYY
                clear hne
                go_wp2
                go_roundw
                case rel => exact ⟨k + 1, _, _, by omega, rfl, by go_num, upto_succ1 HK.out HYY.out, fun _ => by rw [Nat.add_sub_cancel, getD_at HX.out, HTo.out], by first | rfl | exact World.drewN_drewN _ _ _⟩
                case measure => simp [intOf]; omega
        · have HF := Lib.hid (wkAll_f HLk.out (wkAt_b (xs := xs) HX.out (by rw [HLm.out, wkB_in h0]; exact hb)))
          go_wp2_with fail; ((with_reducible refine (l00In_any _ _ _ _).mono ?_); rintro e' w' ⟨rfl, rfl⟩)
          rw [hb]
          clear hb
          go_wp2
          go_ret
          exact ⟨ret_bool (by unfold isWk; rw [HF.out, Bool.and_false]), _, rfl⟩
    · have e : k = n := by omega
      have HV : Hid (isWk xs ws = decide (n ≤ 64)) := show _ = _ by unfold isWk wkAll; rw [HLn.out, allUpto_t (by rw [← e]; exact HK.out), Bool.and_true]
      clear e
      go_wp2
      go_ret
      exact ⟨ret_bool (by rw [HV.out]; exact Bool.eq_iff_iff.2 (by simp only [decide_eq_true_eq]; omega)), _, rfl⟩
end Go.Proofs.Ytjmhhbjbmgpagaa
