/- Contracts of the resistance that stands beside another one. -/
import Derived.Test.YtkojlpbjhpdakaaPar
namespace Go.Proofs.Ytkojlpbjhpdakaa
set_option linter.unusedVariables false
set_option linter.unusedSimpArgs false
open Go.RowKit
def othP (a b x : Int) : Bool := decide (b ≤ par [a, x])
def othV (a b : Int) : Int := firstP (othP a b) 1 1000000
def othR (a b : Int) : Int × Int := if isRes a = true ∧ isRes b = true then orNF (othV a b) (decide (othV a b ≤ 1000000)) else (0, 2)
theorem isRes_mk {x : Int} (h1 : 1 ≤ x) (h2 : x ≤ 1000000) : isRes x = true := decide_eq_true (by omega)
theorem pair_res {a x : Int} (ha : isRes a = true) (hx : isRes x = true) : ∀ y ∈ [a, x], isRes y = true := by
  intro y hy
  simp only [List.mem_cons, List.not_mem_nil, or_false] at hy
  rcases hy with rfl | rfl
  · exact ha
  · exact hx
theorem condSum_pair (a x : Int) : condSum [a, x] = cond a + cond x := by simp [condSum, sumI]
theorem cond_anti {x y : Int} (hx : 1 ≤ x) (h : x ≤ y) : cond y ≤ cond x := by
  unfold cond
  apply rootI_mono
  apply Int.le_ediv_of_mul_le (by omega)
  have h1 := Int.ediv_mul_le 10000000000000000 (b := y) (by omega)
  have h2 : 0 ≤ 10000000000000000 / y := Int.ediv_nonneg (by omega) (by omega)
  have h3 : 10000000000000000 / y * x ≤ 10000000000000000 / y * y := Int.mul_le_mul_of_nonneg_left h h2
  omega
theorem oth_mono {a b : Int} (ha : isRes a = true) : ∀ x y, 1 ≤ x → x ≤ y → y ≤ 1000000 → othP a b x = true → othP a b y = true := by
  intro x y h1 h2 h3 h
  unfold othP at *
  have h4 := of_decide_eq_true h
  apply decide_eq_true
  refine Int.le_trans h4 ?_
  unfold par
  rw [condSum_pair, condSum_pair]
  have c1 := cond_bnd ha
  have c2 := cond_bnd (isRes_mk h1 (by omega))
  have c3 := cond_bnd (isRes_mk (x := y) (by omega) h3)
  have c4 := cond_anti h1 h2
  have h5 : (cond a + cond y) * (cond a + cond y) ≤ (cond a + cond x) * (cond a + cond x) := Int.mul_le_mul (by omega) (by omega) (by omega) (by omega)
  have h6 : 0 < (cond a + cond y) * (cond a + cond y) := Int.mul_pos (by omega) (by omega)
  have h7 := dr_anti (n := 10000000000000000) (by omega) h6 h5
  omega
theorem othClosure_any (a b x : Int) (b1 b2 : Nat) (w : World) (ha : isRes a = true) (hx : isRes x = true) (l1 : b1 < w.heap.size) (l2 : b2 < w.heap.size)
    (c1 : w.cell? ⟨b1, 0, none⟩ = some (.int .i64 a)) (c2 : w.cell? ⟨b2, 0, none⟩ = some (.int .i64 b)) :
    Calls Try.prog 63 #[.int .i64 x, .pointer (some ⟨b1, 0, none⟩), .pointer (some ⟨b2, 0, none⟩)] w fun e w' => e = .returned (.bool (othP a b x)) ∧ Below w.heap.size w w' := by
  have hP := pair_res ha hx
  have HP := Lib.hid hP
  clear hP
  go_enter Try.func63, Try.ntmps63
  go_wp2
  go_region_held3 (fun w' => w'.cell? ⟨b1, 0, none⟩ = some (.int .i64 a) ∧ w'.cell? ⟨b2, 0, none⟩ = some (.int .i64 b))
    (first | go_keep | (exact ⟨(hb1.cell (Nat.lt_of_lt_of_le l1 (by simp))).trans ((World.cell?_alloc_lt _ _ _ l1).trans c1), (hb1.cell (Nat.lt_of_lt_of_le l2 (by simp))).trans ((World.cell?_alloc_lt _ _ _ l2).trans c2)⟩))
    ((go_at_call 64; (with_reducible refine (parallel_any _ 2 2 [a, x] _ (reads_new _ #[.int .i64 a, .int .i64 x] _) (by omega) (by omega) HP.out).mono ?_); rintro e w1 ⟨rfl, hb1⟩))
  go_wp2
  go_ret
  exact ⟨rfl, (((Below.refl _ _).drew).alloc (by simp) _).trans (hb1.mono (by simp))⟩
set_option maxHeartbeats 400000 in
theorem implOtherResistance_any (a b : Int) (w : World) :
    Calls Try.prog 33 #[.int .i64 a, .int .i64 b] w fun e w' => e = .returned (.tuple #[.int .i64 (othR a b).1, .int .i64 (othR a b).2]) ∧ Below w.heap.size w w' := by
  rcases Bool.eq_false_or_eq_true (isRes a) with k1 | k1
  · rcases Bool.eq_false_or_eq_true (isRes b) with k2 | k2
    · have hS : ∀ (W : World) (b1 b2 : Nat), b1 < W.heap.size → b2 < W.heap.size → W.cell? ⟨b1, 0, none⟩ = some (.int .i64 a) → W.cell? ⟨b2, 0, none⟩ = some (.int .i64 b) →
          Calls Try.prog 54 #[.int .i64 1, .int .i64 1000000, .func (.func 63) #[] #[.pointer (some ⟨b1, 0, none⟩), .pointer (some ⟨b2, 0, none⟩)]] W fun e w' =>
            e = .returned (.tuple #[.int .i64 (othV a b), .bool (decide (othV a b ≤ 1000000))]) ∧ Below W.heap.size W w' := by
        intro W b1 b2 l1 l2 c1 c2
        refine firstIn_any 1 1000000 _ _ (othP a b) _ W (fun _ _ => rfl) (by omega) (by omega) (by omega) (by omega) ?_ (oth_mono k1)
        intro W' x hb hx1 hx2
        exact othClosure_any a b x b1 b2 W' k1 (isRes_mk hx1 hx2) (Nat.lt_of_lt_of_le l1 hb.size) (Nat.lt_of_lt_of_le l2 hb.size) (by rw [hb.cell l1]; exact c1) (by rw [hb.cell l2]; exact c2)
      have HS := Lib.hid hS
      have HE : Hid (othR a b = orNF (othV a b) (decide (othV a b ≤ 1000000))) := show othR a b = _ by unfold othR; rw [if_pos ⟨k1, k2⟩]
      clear hS
      go_enter Try.func33, Try.ntmps33
      go_wp2_with (first | (go_at_call 48; refine (resistanceOk_any _ _).mono ?_; rintro e w' ⟨rfl, rfl⟩) | (go_at_call 54; refine (HS.out _ _ _ (by first | exact Nat.le_refl _ | (simp; done) | (simp; omega) | omega) (by first | exact Nat.le_refl _ | (simp; done) | (simp; omega) | omega) (by go_simp) (by go_simp)).mono ?_; rintro e w1 ⟨rfl, hb1⟩) | (go_at_call 53; refine (orNotFound_any _ _ _).mono ?_; rintro e w' ⟨rfl, rfl⟩))
      go_ret2
      refine ⟨?_, by (repeat (first | exact Below.refl _ _ | assumption | (refine Below.alloc ?_ (by first | exact Nat.le_refl _ | (simp; done) | (simp; omega)) _) | (refine below_drewN ?_ _) | (refine Below.trans ?_ (Below.mono (by assumption) (by first | exact Nat.le_refl _ | (simp; done) | (simp; omega) | omega)))))⟩
      rw [HE.out]; rfl
    · go_enter Try.func33, Try.ntmps33
      go_wp2_with (go_at_call 48; refine (resistanceOk_any _ _).mono ?_; rintro e w' ⟨rfl, rfl⟩)
      go_ret2
      exact ⟨by simp [othR, k1, k2], by (repeat (first | exact Below.refl _ _ | assumption | (refine Below.alloc ?_ (by first | exact Nat.le_refl _ | (simp; done) | (simp; omega)) _) | (refine below_drewN ?_ _) | (refine Below.trans ?_ (Below.mono (by assumption) (by first | exact Nat.le_refl _ | (simp; done) | (simp; omega) | omega)))))⟩
  · go_enter Try.func33, Try.ntmps33
    go_wp2_with (go_at_call 48; refine (resistanceOk_any _ _).mono ?_; rintro e w' ⟨rfl, rfl⟩)
    go_ret2
    exact ⟨by simp [othR, k1], by (repeat (first | exact Below.refl _ _ | assumption | (refine Below.alloc ?_ (by first | exact Nat.le_refl _ | (simp; done) | (simp; omega)) _) | (refine below_drewN ?_ _) | (refine Below.trans ?_ (Below.mono (by assumption) (by first | exact Nat.le_refl _ | (simp; done) | (simp; omega) | omega)))))⟩
set_option maxHeartbeats 800000 in
theorem specOtherResistance_any (a b : Int) (w : World) :
    Calls Try.prog 32 #[.int .i64 a, .int .i64 b] w fun e w' => e = .returned (.tuple #[.int .i64 (othR a b).1, .int .i64 (othR a b).2]) ∧ Below w.heap.size w w' := by
  rcases Bool.eq_false_or_eq_true (isRes a) with k1 | k1
  · rcases Bool.eq_false_or_eq_true (isRes b) with k2 | k2
    · have HE : Hid (othR a b = orNF (othV a b) (decide (othV a b ≤ 1000000))) := show othR a b = _ by unfold othR; rw [if_pos ⟨k1, k2⟩]
      have HM := Lib.hid (oth_mono (b := b) k1)
      have HA := Lib.hid k1
      go_enter Try.func32, Try.ntmps32
      go_wp2_with (go_at_call 46; refine (l03Res_any _ _).mono ?_; rintro e w' ⟨rfl, rfl⟩)
      go_loopw [6, 7] (fun l h wr => ∃ lo hi : Int, l = .int .i64 lo ∧ h = .int .i64 hi ∧ 0 ≤ lo ∧ lo < hi ∧ hi ≤ 1000001 ∧ Hid ((∀ x, 1 ≤ x → x ≤ lo → othP a b x = false) ∧ (∀ x, hi ≤ x → x ≤ 1000000 → othP a b x = true)) ∧ Below w.heap.size w wr) (fun l h _ => (intOf h - intOf l).toNat)
      case atStart => exact ⟨0, 1000001, rfl, rfl, by omega, by omega, by omega, ⟨fun x h1 h2 => by omega, fun x h1 h2 => by omega⟩, Below.refl _ _⟩
      case round =>
        obtain ⟨lo, hi, rfl, rfl, h1, h2, h3, I, hbw⟩ := hrel
        have hz := hbw.size
        by_cases hlt : 1 < hi - lo
        · have HP := Lib.hid (pair_res HA.out (isRes_mk (x := (lo + hi) / 2) (by omega) (by omega)))
          cases hp : othP a b ((lo + hi) / 2)
          · have HQ := Lib.hid hp
            have hp' : par [a, (lo + hi) / 2] < b := by have := of_decide_eq_false hp; omega
            clear hp
            go_wp2_with (go_at_call 62; (with_reducible refine (l08Parallel_any _ 2 2 [a, (lo + hi) / 2] _ (reads_new _ #[.int .i64 a, .int .i64 ((lo + hi) / 2)] _) (by omega) (by omega) HP.out).mono ?_); rintro e w' ⟨rfl, rfl⟩)
            go_roundw
            case rel =>
              refine ⟨(lo + hi) / 2, hi, rfl, rfl, by omega, by omega, by omega, ⟨fun x g1 g2 => ?_, I.out.2⟩, hbw.alloc hz _⟩
              cases hx : othP a b x with
              | false => rfl
              | true =>
                have := HM.out x ((lo + hi) / 2) g1 g2 (by omega) hx
                rw [HQ.out] at this; cases this
            case measure => simp [intOf]; omega
          · have HQ := Lib.hid hp
            have hp' : b ≤ par [a, (lo + hi) / 2] := of_decide_eq_true hp
            clear hp
            go_wp2_with (go_at_call 62; (with_reducible refine (l08Parallel_any _ 2 2 [a, (lo + hi) / 2] _ (reads_new _ #[.int .i64 a, .int .i64 ((lo + hi) / 2)] _) (by omega) (by omega) HP.out).mono ?_); rintro e w' ⟨rfl, rfl⟩)
            go_roundw
            case rel => exact ⟨lo, (lo + hi) / 2, rfl, rfl, by omega, by omega, by omega, ⟨I.out.1, fun x g1 g2 => HM.out _ x (by omega) g1 g2 HQ.out⟩, hbw.alloc hz _⟩
            case measure => simp [intOf]; omega
        · have HV : Hid (othV a b = hi) := firstP_eq (n := 1000000) (by omega) (by omega) (fun x g1 g2 => I.out.1 x g1 (by omega)) (fun g => I.out.2 hi (Int.le_refl _) (by omega))
          by_cases hnf : 1000000 < hi
          · go_wp2
            go_ret2
            exact ⟨by rw [HE.out, HV.out, decide_eq_false (show ¬ hi ≤ 1000000 by omega)]; rfl, hbw⟩
          · go_wp2
            go_ret2
            exact ⟨by rw [HE.out, HV.out, decide_eq_true (show hi ≤ 1000000 by omega)]; rfl, hbw⟩
    · go_enter Try.func32, Try.ntmps32
      go_wp2_with (go_at_call 46; refine (l03Res_any _ _).mono ?_; rintro e w' ⟨rfl, rfl⟩)
      go_ret2
      exact ⟨by simp [othR, k1, k2], by (repeat (first | exact Below.refl _ _ | assumption | (refine Below.alloc ?_ (by first | exact Nat.le_refl _ | (simp; done) | (simp; omega)) _) | (refine below_drewN ?_ _) | (refine Below.trans ?_ (Below.mono (by assumption) (by first | exact Nat.le_refl _ | (simp; done) | (simp; omega) | omega)))))⟩
  · go_enter Try.func32, Try.ntmps32
    go_wp2_with (go_at_call 46; refine (l03Res_any _ _).mono ?_; rintro e w' ⟨rfl, rfl⟩)
    go_ret2
    exact ⟨by simp [othR, k1], by (repeat (first | exact Below.refl _ _ | assumption | (refine Below.alloc ?_ (by first | exact Nat.le_refl _ | (simp; done) | (simp; omega)) _) | (refine below_drewN ?_ _) | (refine Below.trans ?_ (Below.mono (by assumption) (by first | exact Nat.le_refl _ | (simp; done) | (simp; omega) | omega)))))⟩
end Go.Proofs.Ytkojlpbjhpdakaa
