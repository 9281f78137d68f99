/- Contracts of the two regulators. -/
import Derived.Test.YtkojlpbjhpdakaaReg
import Derived.Deep.RegionWith
import Derived.Deep.RegionHeld3
namespace Go.Proofs.Ytkojlpbjhpdakaa
set_option linter.unusedVariables false
set_option linter.unusedSimpArgs false
open Go.RowKit
def regP (r q d x : Int) : Bool := decide (d ≤ drop (r + x) q)
def regV (r q d : Int) : Int := firstP (regP r q d) 0 (1000000 - r + 1).toNat
def regOk (r q d : Int) : Bool := isRes r && inB q 1 100000 && inB d 0 1000000
def regR (r q d : Int) : Int × Int := if regOk r q d = true then orNF (regV r q d) (decide (regV r q d ≤ 1000000 - r)) else (0, 2)
theorem reg_mono {r q d : Int} (hr : isRes r = true) (hq : inB q 1 100000 = true) : ∀ a b, 0 ≤ a → a ≤ b → b ≤ 1000000 - r → regP r q d a = true → regP r q d b = true := by
  intro a b ha hab hb h
  have h1 := inB_t hq
  have h0 := isRes_t hr
  unfold regP at *
  have h2 := of_decide_eq_true h
  apply decide_eq_true
  refine Int.le_trans h2 ?_
  unfold drop
  apply dr_mono (by omega)
  have hA : absI q = q := by unfold absI; omega
  rw [hA]
  have h3 : (r + a) * q ≤ (r + b) * q := Int.mul_le_mul_of_nonneg_right (by omega) (by omega)
  exact Int.mul_le_mul_of_nonneg_right h3 (by omega)
theorem flow_of {q : Int} (h : inB q 1 100000 = true) : isFlow q = true := decide_eq_true (by have := inB_t h; omega)
theorem res_add {r x : Int} (hr : isRes r = true) (h1 : 0 ≤ x) (h2 : x ≤ 1000000 - r) : isRes (r + x) = true := decide_eq_true (by have := isRes_t hr; omega)
theorem firstP_at {p : Int → Bool} {m v : Int} (hm : 0 ≤ m) (h1 : 0 ≤ v) (h2 : v ≤ m + 1) (h3 : ∀ x, 0 ≤ x → x < v → p x = false) (h4 : v ≤ m → p v = true) : firstP p 0 (m + 1).toNat = v :=
  firstP_eq h1 (by omega) h3 (fun h => h4 (by omega))
theorem regClosure_any (r q d x : Int) (b1 b2 b3 : Nat) (w : World) (hr : isRes r = true) (hq : inB q 1 100000 = true) (h1 : 0 ≤ x) (h2 : x ≤ 1000000 - r)
    (c1 : w.cell? ⟨b1, 0, none⟩ = some (.int .i64 r)) (c2 : w.cell? ⟨b2, 0, none⟩ = some (.int .i64 q)) (c3 : w.cell? ⟨b3, 0, none⟩ = some (.int .i64 d)) :
    Calls Try.prog 55 #[.int .i64 x, .pointer (some ⟨b1, 0, none⟩), .pointer (some ⟨b2, 0, none⟩), .pointer (some ⟨b3, 0, none⟩)] w fun e w' => e = .returned (.bool (regP r q d x)) ∧ ∃ n, w' = w.drewN n := by
  have hF := flow_of hq
  have hA := res_add hr h1 h2
  obtain ⟨r1, r2⟩ := isRes_t hr
  clear hr hq
  go_enter Try.func55, Try.ntmps55
  go_wp2
  go_quiet ((go_at_call 56; exact Calls.quiet_of (dropOf_any _ _ _ hA hF)))
  go_wp2
  go_ret
  exact ⟨rfl, _, rfl⟩
set_option maxHeartbeats 800000 in
theorem implRegulatorFor_any (r q d : Int) (w : World) :
    Calls Try.prog 25 #[.int .i64 r, .int .i64 q, .int .i64 d] w fun e w' => e = .returned (.tuple #[.int .i64 (regR r q d).1, .int .i64 (regR r q d).2]) ∧ Below w.heap.size w w' := by
  rcases Bool.eq_false_or_eq_true (isRes r) with k1 | k1
  · rcases Bool.eq_false_or_eq_true (inB q 1 100000) with k2 | k2
    · rcases Bool.eq_false_or_eq_true (inB d 0 1000000) with k3 | k3
      · have hS : ∀ (W : World) (b1 b2 b3 : Nat), b1 < W.heap.size → b2 < W.heap.size → b3 < W.heap.size → W.cell? ⟨b1, 0, none⟩ = some (.int .i64 r) → W.cell? ⟨b2, 0, none⟩ = some (.int .i64 q) → W.cell? ⟨b3, 0, none⟩ = some (.int .i64 d) →
            Calls Try.prog 54 #[.int .i64 0, .int .i64 (1000000 - r), .func (.func 55) #[] #[.pointer (some ⟨b1, 0, none⟩), .pointer (some ⟨b2, 0, none⟩), .pointer (some ⟨b3, 0, none⟩)]] W fun e w' =>
              e = .returned (.tuple #[.int .i64 (regV r q d), .bool (decide (regV r q d ≤ 1000000 - r))]) ∧ Below W.heap.size W w' := by
          intro W b1 b2 b3 l1 l2 l3 c1 c2 c3
          have h0 := isRes_t k1
          refine firstIn_any 0 (1000000 - r) _ _ (regP r q d) _ W (fun _ _ => rfl) (by omega) (by omega) (by omega) (by omega) ?_ (reg_mono k1 k2)
          intro W' x hb hx1 hx2
          refine (regClosure_any r q d x b1 b2 b3 W' k1 k2 hx1 hx2 (by rw [hb.cell l1]; exact c1) (by rw [hb.cell l2]; exact c2) (by rw [hb.cell l3]; exact c3)).mono ?_
          rintro e w' ⟨rfl, n, rfl⟩
          exact ⟨rfl, below_drewN (Below.refl _ _) _⟩
        have HS := Lib.hid hS
        obtain ⟨r1, r2⟩ := isRes_t k1
        clear hS
        go_enter Try.func25, Try.ntmps25
        go_wp2_with (first | (go_at_call 48; refine (resistanceOk_any _ _).mono ?_; rintro e w' ⟨rfl, rfl⟩) | (go_at_call 52; refine (within_any _ _ _ _).mono ?_; rintro e w' ⟨rfl, rfl⟩) | (go_at_call 54; refine (HS.out _ _ _ _ (by first | exact Nat.le_refl _ | (simp; done) | (simp; omega) | omega) (by first | exact Nat.le_refl _ | (simp; done) | (simp; omega) | omega) (by first | exact Nat.le_refl _ | (simp; done) | (simp; omega) | omega) (by go_simp) (by go_simp) (by go_simp)).mono ?_; rintro e w1 ⟨rfl, hb1⟩) | (go_at_call 53; refine (orNotFound_any _ _ _).mono ?_; rintro e w' ⟨rfl, rfl⟩))
        go_ret2
        refine ⟨?_, by (repeat (first | exact Below.refl _ _ | assumption | (refine Below.alloc ?_ (by first | exact Nat.le_refl _ | (simp; done) | (simp; omega)) _) | (refine below_drewN ?_ _) | (refine Below.trans ?_ (Below.mono (by assumption) (by first | exact Nat.le_refl _ | (simp; done) | (simp; omega) | omega)))))⟩
        have e : regR r q d = orNF (regV r q d) (decide (regV r q d ≤ 1000000 - r)) := by unfold regR regOk; rw [k1, k2, k3]; rfl
        rw [e]; rfl
      · go_enter Try.func25, Try.ntmps25
        go_wp2_with (first | (go_at_call 48; refine (resistanceOk_any _ _).mono ?_; rintro e w' ⟨rfl, rfl⟩) | (go_at_call 52; refine (within_any _ _ _ _).mono ?_; rintro e w' ⟨rfl, rfl⟩))
        go_ret2
        exact ⟨by simp [regR, regOk, k1, k2, k3], by (repeat (first | exact Below.refl _ _ | assumption | (refine Below.alloc ?_ (by first | exact Nat.le_refl _ | (simp; done) | (simp; omega)) _) | (refine below_drewN ?_ _) | (refine Below.trans ?_ (Below.mono (by assumption) (by first | exact Nat.le_refl _ | (simp; done) | (simp; omega) | omega)))))⟩
    · go_enter Try.func25, Try.ntmps25
      go_wp2_with (first | (go_at_call 48; refine (resistanceOk_any _ _).mono ?_; rintro e w' ⟨rfl, rfl⟩) | (go_at_call 52; refine (within_any _ _ _ _).mono ?_; rintro e w' ⟨rfl, rfl⟩))
      go_ret2
      exact ⟨by simp [regR, regOk, k1, k2], by (repeat (first | exact Below.refl _ _ | assumption | (refine Below.alloc ?_ (by first | exact Nat.le_refl _ | (simp; done) | (simp; omega)) _) | (refine below_drewN ?_ _) | (refine Below.trans ?_ (Below.mono (by assumption) (by first | exact Nat.le_refl _ | (simp; done) | (simp; omega) | omega)))))⟩
  · go_enter Try.func25, Try.ntmps25
    go_wp2_with (first | (go_at_call 48; refine (resistanceOk_any _ _).mono ?_; rintro e w' ⟨rfl, rfl⟩) | (go_at_call 52; refine (within_any _ _ _ _).mono ?_; rintro e w' ⟨rfl, rfl⟩))
    go_ret2
    exact ⟨by simp [regR, regOk, k1], by (repeat (first | exact Below.refl _ _ | assumption | (refine Below.alloc ?_ (by first | exact Nat.le_refl _ | (simp; done) | (simp; omega)) _) | (refine below_drewN ?_ _) | (refine Below.trans ?_ (Below.mono (by assumption) (by first | exact Nat.le_refl _ | (simp; done) | (simp; omega) | omega)))))⟩
set_option maxHeartbeats 800000 in
theorem specRegulatorFor_any (r q d : Int) (w : World) :
    Calls Try.prog 24 #[.int .i64 r, .int .i64 q, .int .i64 d] w fun e w' => e = .returned (.tuple #[.int .i64 (regR r q d).1, .int .i64 (regR r q d).2]) ∧ w = w' := by
  rcases Bool.eq_false_or_eq_true (isRes r) with k1 | k1
  · rcases Bool.eq_false_or_eq_true (inB q 1 100000) with k2 | k2
    · rcases Bool.eq_false_or_eq_true (inB d 0 1000000) with k3 | k3
      · have hF := flow_of k2
        have HM := Lib.hid (reg_mono (d := d) k1 k2)
        have HR := Lib.hid k1
        have HE : Hid (regR r q d = orNF (regV r q d) (decide (regV r q d ≤ 1000000 - r))) := show regR r q d = _ by unfold regR regOk; rw [k1, k2, k3]; rfl
        obtain ⟨r1, r2⟩ := isRes_t k1
        go_enter Try.func24, Try.ntmps24
        go_wp2_with (first | (go_at_call 46; refine (l03Res_any _ _).mono ?_; rintro e w' ⟨rfl, rfl⟩) | (go_at_call 50; refine (l00In_any _ _ _ _).mono ?_; rintro e w' ⟨rfl, rfl⟩))
        go_loop [8, 9] (fun l h => ∃ lo hi : Int, l = .int .i64 lo ∧ h = .int .i64 hi ∧ -1 ≤ lo ∧ lo < hi ∧ hi ≤ 1000000 - r + 1 ∧ Hid ((∀ x, 0 ≤ x → x ≤ lo → regP r q d x = false) ∧ (∀ x, hi ≤ x → x ≤ 1000000 - r → regP r q d x = true))) (fun l h => (intOf h - intOf l).toNat)
        case atStart => exact ⟨-1, 1000000 - r + 1, rfl, rfl, by omega, by omega, by omega, ⟨fun x h1 h2 => by omega, fun x h1 h2 => by omega⟩⟩
        case round =>
          obtain ⟨lo, hi, rfl, rfl, h1, h2, h3, I⟩ := hrel
          by_cases hlt : 1 < hi - lo
          · have hA := res_add HR.out (x := (lo + hi) / 2) (by omega) (by omega)
            cases hp : regP r q d ((lo + hi) / 2)
            · have HP := Lib.hid hp
              have hp' : drop (r + (lo + hi) / 2) q < d := by have := of_decide_eq_false hp; omega
              clear hp
              go_wp2_with (go_at_call 51; refine (l03Drop_any _ _ _ hA hF).mono ?_; rintro e w' ⟨rfl, rfl⟩)
              go_round
              case rel =>
                refine ⟨(lo + hi) / 2, hi, rfl, rfl, by omega, by omega, by omega, ⟨fun x g1 g2 => ?_, I.out.2⟩⟩
                cases hx : regP r q d x with
                | false => rfl
                | true =>
                  have := HM.out x ((lo + hi) / 2) g1 g2 (by omega) hx
                  rw [HP.out] at this; cases this
              case measure => simp [intOf]; omega
            · have HP := Lib.hid hp
              have hp' : d ≤ drop (r + (lo + hi) / 2) q := of_decide_eq_true hp
              clear hp
              go_wp2_with (go_at_call 51; refine (l03Drop_any _ _ _ hA hF).mono ?_; rintro e w' ⟨rfl, rfl⟩)
              go_round
              case rel => exact ⟨lo, (lo + hi) / 2, rfl, rfl, by omega, by omega, by omega, ⟨I.out.1, fun x g1 g2 => HM.out _ x (by omega) g1 g2 HP.out⟩⟩
              case measure => simp [intOf]; omega
          · have HV : Hid (regV r q d = hi) := firstP_at (by omega) (by omega) (by omega) (fun x g1 g2 => I.out.1 x g1 (by omega)) (fun g => I.out.2 hi (Int.le_refl _) g)
            by_cases hnf : 1000000 < r + hi
            · go_wp2
              go_ret2
              exact ⟨by rw [HE.out, HV.out, decide_eq_false (show ¬ hi ≤ 1000000 - r by omega)]; rfl, rfl⟩
            · go_wp2
              go_ret2
              exact ⟨by rw [HE.out, HV.out, decide_eq_true (show hi ≤ 1000000 - r by omega)]; rfl, rfl⟩
      · go_enter Try.func24, Try.ntmps24
        go_wp2_with (first | (go_at_call 46; refine (l03Res_any _ _).mono ?_; rintro e w' ⟨rfl, rfl⟩) | (go_at_call 50; refine (l00In_any _ _ _ _).mono ?_; rintro e w' ⟨rfl, rfl⟩))
        go_ret2
        exact ⟨by simp [regR, regOk, k1, k2, k3], rfl⟩
    · go_enter Try.func24, Try.ntmps24
      go_wp2_with (first | (go_at_call 46; refine (l03Res_any _ _).mono ?_; rintro e w' ⟨rfl, rfl⟩) | (go_at_call 50; refine (l00In_any _ _ _ _).mono ?_; rintro e w' ⟨rfl, rfl⟩))
      go_ret2
      exact ⟨by simp [regR, regOk, k1, k2], rfl⟩
  · go_enter Try.func24, Try.ntmps24
    go_wp2_with (first | (go_at_call 46; refine (l03Res_any _ _).mono ?_; rintro e w' ⟨rfl, rfl⟩) | (go_at_call 50; refine (l00In_any _ _ _ _).mono ?_; rintro e w' ⟨rfl, rfl⟩))
    go_ret2
    exact ⟨by simp [regR, regOk, k1], rfl⟩
theorem rshClosure_any (a b s x : Int) (b1 b2 b3 : Nat) (w : World) (ha : isRes a = true) (hb : isRes b = true) (h1 : 0 ≤ x) (h2 : x ≤ 1000000 - a) (l1 : b1 < w.heap.size) (l2 : b2 < w.heap.size) (l3 : b3 < w.heap.size)
    (c1 : w.cell? ⟨b1, 0, none⟩ = some (.int .i64 a)) (c2 : w.cell? ⟨b2, 0, none⟩ = some (.int .i64 b)) (c3 : w.cell? ⟨b3, 0, none⟩ = some (.int .i64 s)) :
    Calls Try.prog 61 #[.int .i64 x, .pointer (some ⟨b1, 0, none⟩), .pointer (some ⟨b2, 0, none⟩), .pointer (some ⟨b3, 0, none⟩)] w fun e w' => e = .returned (.bool (decide (share (a + x) b ≤ s))) ∧ Below w.heap.size w w' := by
  have hA := res_add ha h1 h2
  obtain ⟨r1, r2⟩ := isRes_t ha
  have HW : IntKind.i64.wrap (a + x) = a + x := IntWalk.i64_in _ (by omega)
  clear ha
  go_enter Try.func61, Try.ntmps61
  go_wp2
  go_region_held3 (fun w' => w'.cell? ⟨b1, 0, none⟩ = some (.int .i64 a) ∧ w'.cell? ⟨b2, 0, none⟩ = some (.int .i64 b) ∧ w'.cell? ⟨b3, 0, none⟩ = some (.int .i64 s))
    (first | go_keep | (exact ⟨(hb1.cell l1).trans c1, (hb1.cell l2).trans c2, (hb1.cell l3).trans c3⟩))
    ((go_at_call 49; (with_reducible refine (shareBeside_any _ _ _ hA hb).mono ?_); rintro e w1 ⟨rfl, hb1⟩))
  go_wp2
  go_ret
  exact ⟨rfl, ((Below.refl _ _).drew).trans hb1⟩
theorem dr_anti {n c c' : Int} (hn : 0 ≤ n) (hc : 0 < c) (h : c ≤ c') : dr n c' ≤ dr n c := by
  unfold dr
  rw [if_neg (by omega), if_neg (by omega)]
  have hk0 := Int.ediv_nonneg (a := 2 * n + c') (b := 2 * c') (by omega) (by omega)
  have hm := Int.mul_ediv_self_le (x := 2 * n + c') (k := 2 * c') (by omega)
  generalize (2 * n + c') / (2 * c') = k at *
  apply Int.le_ediv_of_mul_le (by omega)
  by_cases h0 : k = 0
  · subst h0; omega
  · have h1 : c * (2 * k - 1) ≤ c' * (2 * k - 1) := Int.mul_le_mul_of_nonneg_right h (by omega)
    have e1 : c * (2 * k - 1) = k * (2 * c) - c := by rw [Int.mul_sub, Int.mul_one, ← Int.mul_assoc, Int.mul_comm c 2, Int.mul_comm]
    have e2 : c' * (2 * k - 1) = 2 * c' * k - c' := by rw [Int.mul_sub, Int.mul_one, ← Int.mul_assoc, Int.mul_comm c' 2]
    omega
def rshP (a b s x : Int) : Bool := decide (share (a + x) b ≤ s)
def rshV (a b s : Int) : Int := firstP (rshP a b s) 0 (1000000 - a + 1).toNat
def rshOk (a b s : Int) : Bool := isRes a && isRes b && inB s 1 999
def rshR (a b s : Int) : Int × Int := if rshOk a b s = true then orNF (rshV a b s) (decide (rshV a b s ≤ 1000000 - a)) else (0, 2)
theorem rsh_mono {a b s : Int} (ha : isRes a = true) (hb : isRes b = true) : ∀ x y, 0 ≤ x → x ≤ y → y ≤ 1000000 - a → rshP a b s x = true → rshP a b s y = true := by
  intro x y hx hxy hy h
  unfold rshP at *
  have h2 := of_decide_eq_true h
  apply decide_eq_true
  refine Int.le_trans ?_ h2
  have m1 := mroot_bnd (res_add ha hx (by omega))
  have m2 := mroot_bnd hb
  have m3 : rootI (1000000 * (a + x)) ≤ rootI (1000000 * (a + y)) := rootI_mono (by omega)
  exact dr_anti (by omega) (by omega) (by omega)
set_option maxHeartbeats 800000 in
theorem implRegulatorForShare_any (r q d : Int) (w : World) :
    Calls Try.prog 31 #[.int .i64 r, .int .i64 q, .int .i64 d] w fun e w' => e = .returned (.tuple #[.int .i64 (rshR r q d).1, .int .i64 (rshR r q d).2]) ∧ Below w.heap.size w w' := by
  rcases Bool.eq_false_or_eq_true (isRes r) with k1 | k1
  · rcases Bool.eq_false_or_eq_true (isRes q) with k2 | k2
    · rcases Bool.eq_false_or_eq_true (inB d 1 999) with k3 | k3
      · have hS : ∀ (W : World) (b1 b2 b3 : Nat), b1 < W.heap.size → b2 < W.heap.size → b3 < W.heap.size → W.cell? ⟨b1, 0, none⟩ = some (.int .i64 r) → W.cell? ⟨b2, 0, none⟩ = some (.int .i64 q) → W.cell? ⟨b3, 0, none⟩ = some (.int .i64 d) →
            Calls Try.prog 54 #[.int .i64 0, .int .i64 (1000000 - r), .func (.func 61) #[] #[.pointer (some ⟨b1, 0, none⟩), .pointer (some ⟨b2, 0, none⟩), .pointer (some ⟨b3, 0, none⟩)]] W fun e w' =>
              e = .returned (.tuple #[.int .i64 (rshV r q d), .bool (decide (rshV r q d ≤ 1000000 - r))]) ∧ Below W.heap.size W w' := by
          intro W b1 b2 b3 l1 l2 l3 c1 c2 c3
          have h0 := isRes_t k1
          refine firstIn_any 0 (1000000 - r) _ _ (rshP r q d) _ W (fun _ _ => rfl) (by omega) (by omega) (by omega) (by omega) ?_ (rsh_mono k1 k2)
          intro W' x hb hx1 hx2
          exact rshClosure_any r q d x b1 b2 b3 W' k1 k2 hx1 hx2 (Nat.lt_of_lt_of_le l1 hb.size) (Nat.lt_of_lt_of_le l2 hb.size) (Nat.lt_of_lt_of_le l3 hb.size) (by rw [hb.cell l1]; exact c1) (by rw [hb.cell l2]; exact c2) (by rw [hb.cell l3]; exact c3)
        have HS := Lib.hid hS
        obtain ⟨r1, r2⟩ := isRes_t k1
        clear hS
        go_enter Try.func31, Try.ntmps31
        go_wp2_with (first | (go_at_call 48; refine (resistanceOk_any _ _).mono ?_; rintro e w' ⟨rfl, rfl⟩) | (go_at_call 52; refine (within_any _ _ _ _).mono ?_; rintro e w' ⟨rfl, rfl⟩) | (go_at_call 54; refine (HS.out _ _ _ _ (by first | exact Nat.le_refl _ | (simp; done) | (simp; omega) | omega) (by first | exact Nat.le_refl _ | (simp; done) | (simp; omega) | omega) (by first | exact Nat.le_refl _ | (simp; done) | (simp; omega) | omega) (by go_simp) (by go_simp) (by go_simp)).mono ?_; rintro e w1 ⟨rfl, hb1⟩) | (go_at_call 53; refine (orNotFound_any _ _ _).mono ?_; rintro e w' ⟨rfl, rfl⟩))
        go_ret2
        refine ⟨?_, by (repeat (first | exact Below.refl _ _ | assumption | (refine Below.alloc ?_ (by first | exact Nat.le_refl _ | (simp; done) | (simp; omega)) _) | (refine below_drewN ?_ _) | (refine Below.trans ?_ (Below.mono (by assumption) (by first | exact Nat.le_refl _ | (simp; done) | (simp; omega) | omega)))))⟩
        have e : rshR r q d = orNF (rshV r q d) (decide (rshV r q d ≤ 1000000 - r)) := by unfold rshR rshOk; rw [k1, k2, k3]; rfl
        rw [e]; rfl
      · go_enter Try.func31, Try.ntmps31
        go_wp2_with (first | (go_at_call 48; refine (resistanceOk_any _ _).mono ?_; rintro e w' ⟨rfl, rfl⟩) | (go_at_call 52; refine (within_any _ _ _ _).mono ?_; rintro e w' ⟨rfl, rfl⟩))
        go_ret2
        exact ⟨by simp [rshR, rshOk, k1, k2, k3], by (repeat (first | exact Below.refl _ _ | assumption | (refine Below.alloc ?_ (by first | exact Nat.le_refl _ | (simp; done) | (simp; omega)) _) | (refine below_drewN ?_ _) | (refine Below.trans ?_ (Below.mono (by assumption) (by first | exact Nat.le_refl _ | (simp; done) | (simp; omega) | omega)))))⟩
    · go_enter Try.func31, Try.ntmps31
      go_wp2_with (first | (go_at_call 48; refine (resistanceOk_any _ _).mono ?_; rintro e w' ⟨rfl, rfl⟩) | (go_at_call 52; refine (within_any _ _ _ _).mono ?_; rintro e w' ⟨rfl, rfl⟩))
      go_ret2
      exact ⟨by simp [rshR, rshOk, k1, k2], by (repeat (first | exact Below.refl _ _ | assumption | (refine Below.alloc ?_ (by first | exact Nat.le_refl _ | (simp; done) | (simp; omega)) _) | (refine below_drewN ?_ _) | (refine Below.trans ?_ (Below.mono (by assumption) (by first | exact Nat.le_refl _ | (simp; done) | (simp; omega) | omega)))))⟩
  · go_enter Try.func31, Try.ntmps31
    go_wp2_with (first | (go_at_call 48; refine (resistanceOk_any _ _).mono ?_; rintro e w' ⟨rfl, rfl⟩) | (go_at_call 52; refine (within_any _ _ _ _).mono ?_; rintro e w' ⟨rfl, rfl⟩))
    go_ret2
    exact ⟨by simp [rshR, rshOk, k1], by (repeat (first | exact Below.refl _ _ | assumption | (refine Below.alloc ?_ (by first | exact Nat.le_refl _ | (simp; done) | (simp; omega)) _) | (refine below_drewN ?_ _) | (refine Below.trans ?_ (Below.mono (by assumption) (by first | exact Nat.le_refl _ | (simp; done) | (simp; omega) | omega)))))⟩
set_option maxHeartbeats 800000 in
theorem specRegulatorForShare_any (r q d : Int) (w : World) :
    Calls Try.prog 30 #[.int .i64 r, .int .i64 q, .int .i64 d] w fun e w' => e = .returned (.tuple #[.int .i64 (rshR r q d).1, .int .i64 (rshR r q d).2]) ∧ w = w' := by
  rcases Bool.eq_false_or_eq_true (isRes r) with k1 | k1
  · rcases Bool.eq_false_or_eq_true (isRes q) with k2 | k2
    · rcases Bool.eq_false_or_eq_true (inB d 1 999) with k3 | k3
      · have hF := k2
        have HM := Lib.hid (rsh_mono (s := d) k1 k2)
        have HR := Lib.hid k1
        have HE : Hid (rshR r q d = orNF (rshV r q d) (decide (rshV r q d ≤ 1000000 - r))) := show rshR r q d = _ by unfold rshR rshOk; rw [k1, k2, k3]; rfl
        obtain ⟨r1, r2⟩ := isRes_t k1
        go_enter Try.func30, Try.ntmps30
        go_wp2_with (first | (go_at_call 46; refine (l03Res_any _ _).mono ?_; rintro e w' ⟨rfl, rfl⟩) | (go_at_call 50; refine (l00In_any _ _ _ _).mono ?_; rintro e w' ⟨rfl, rfl⟩))
        go_loop [8, 9] (fun l h => ∃ lo hi : Int, l = .int .i64 lo ∧ h = .int .i64 hi ∧ -1 ≤ lo ∧ lo < hi ∧ hi ≤ 1000000 - r + 1 ∧ Hid ((∀ x, 0 ≤ x → x ≤ lo → rshP r q d x = false) ∧ (∀ x, hi ≤ x → x ≤ 1000000 - r → rshP r q d x = true))) (fun l h => (intOf h - intOf l).toNat)
        case atStart => exact ⟨-1, 1000000 - r + 1, rfl, rfl, by omega, by omega, by omega, ⟨fun x h1 h2 => by omega, fun x h1 h2 => by omega⟩⟩
        case round =>
          obtain ⟨lo, hi, rfl, rfl, h1, h2, h3, I⟩ := hrel
          by_cases hlt : 1 < hi - lo
          · have hA := res_add HR.out (x := (lo + hi) / 2) (by omega) (by omega)
            cases hp : rshP r q d ((lo + hi) / 2)
            · have HP := Lib.hid hp
              have hp' : d < share (r + (lo + hi) / 2) q := by have := of_decide_eq_false hp; omega
              clear hp
              go_wp2_with (go_at_call 47; refine (l10Share_any _ _ _ hA hF).mono ?_; rintro e w' ⟨rfl, rfl⟩)
              go_round
              case rel =>
                refine ⟨(lo + hi) / 2, hi, rfl, rfl, by omega, by omega, by omega, ⟨fun x g1 g2 => ?_, I.out.2⟩⟩
                cases hx : rshP r q d x with
                | false => rfl
                | true =>
                  have := HM.out x ((lo + hi) / 2) g1 g2 (by omega) hx
                  rw [HP.out] at this; cases this
              case measure => simp [intOf]; omega
            · have HP := Lib.hid hp
              have hp' : share (r + (lo + hi) / 2) q ≤ d := of_decide_eq_true hp
              clear hp
              go_wp2_with (go_at_call 47; refine (l10Share_any _ _ _ hA hF).mono ?_; rintro e w' ⟨rfl, rfl⟩)
              go_round
              case rel => exact ⟨lo, (lo + hi) / 2, rfl, rfl, by omega, by omega, by omega, ⟨I.out.1, fun x g1 g2 => HM.out _ x (by omega) g1 g2 HP.out⟩⟩
              case measure => simp [intOf]; omega
          · have HV : Hid (rshV r q d = hi) := firstP_at (by omega) (by omega) (by omega) (fun x g1 g2 => I.out.1 x g1 (by omega)) (fun g => I.out.2 hi (Int.le_refl _) g)
            by_cases hnf : 1000000 < r + hi
            · go_wp2
              go_ret2
              exact ⟨by rw [HE.out, HV.out, decide_eq_false (show ¬ hi ≤ 1000000 - r by omega)]; rfl, rfl⟩
            · go_wp2
              go_ret2
              exact ⟨by rw [HE.out, HV.out, decide_eq_true (show hi ≤ 1000000 - r by omega)]; rfl, rfl⟩
      · go_enter Try.func30, Try.ntmps30
        go_wp2_with (first | (go_at_call 46; refine (l03Res_any _ _).mono ?_; rintro e w' ⟨rfl, rfl⟩) | (go_at_call 50; refine (l00In_any _ _ _ _).mono ?_; rintro e w' ⟨rfl, rfl⟩))
        go_ret2
        exact ⟨by simp [rshR, rshOk, k1, k2, k3], rfl⟩
    · go_enter Try.func30, Try.ntmps30
      go_wp2_with (first | (go_at_call 46; refine (l03Res_any _ _).mono ?_; rintro e w' ⟨rfl, rfl⟩) | (go_at_call 50; refine (l00In_any _ _ _ _).mono ?_; rintro e w' ⟨rfl, rfl⟩))
      go_ret2
      exact ⟨by simp [rshR, rshOk, k1, k2], rfl⟩
  · go_enter Try.func30, Try.ntmps30
    go_wp2_with (first | (go_at_call 46; refine (l03Res_any _ _).mono ?_; rintro e w' ⟨rfl, rfl⟩) | (go_at_call 50; refine (l00In_any _ _ _ _).mono ?_; rintro e w' ⟨rfl, rfl⟩))
    go_ret2
    exact ⟨by simp [rshR, rshOk, k1], rfl⟩
end Go.Proofs.Ytkojlpbjhpdakaa
