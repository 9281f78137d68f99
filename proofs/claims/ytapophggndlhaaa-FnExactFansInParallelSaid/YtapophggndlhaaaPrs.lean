/- Contracts of the pressure of a fan. -/
import Derived.Test.YtapophggndlhaaaFanQ
import Derived.Test.YtapophggndlhaaaFanH
namespace Go.Proofs.Ytapophggndlhaaa
set_option linter.unusedVariables false
set_option linter.unusedSimpArgs false
open Go.RowKit
/-- A point of a curve, opened. -/
theorem pt_at {w : World} {B n k : Nat} {A : Option Addr} {rs : List Row} (hr : RSS w B A n rs) (hok : crvOk (dat rs) = true) (hk : k < n) :
    ∃ ad ra cc, A = some ad ∧ w.cell? (ad.add k) = some (.slice (some ra) 2 cc) ∧ w.cell? ra = some (.int .i64 (lockA (dat rs) k)) ∧ w.cell? (ra.add 0) = some (.int .i64 (lockA (dat rs) k)) ∧ w.cell? ⟨ra.block, ra.off + 1, none⟩ = some (.int .i64 (lockB (dat rs) k)) := by
  obtain ⟨ad, r, e, hx, hc, hrr⟩ := hr.at_ hk
  obtain ⟨x1, x2, x3⟩ := lock_row (dat_at hx)
  have hl : (dat rs).length = n := by rw [dat_len]; exact hr.len
  have h2 := crv_two ((crvOk_t hok).2.2 k (by omega))
  obtain ⟨ra, hA, hn2, c0, c0', c1⟩ := open_two hrr (by omega)
  rw [← x2] at c0 c0'
  rw [← x3] at c1
  rw [hA, hn2] at hc
  exact ⟨ad, ra, _, e, hc, c0, c0', c1⟩
theorem line_in {x0 y0 x1 y1 x : Int} (hx0 : 0 ≤ x0 ∧ x0 ≤ 100000) (hy0 : 0 ≤ y0 ∧ y0 ≤ 10000) (hx1 : 0 ≤ x1 ∧ x1 ≤ 100000) (hy1 : 0 ≤ y1 ∧ y1 ≤ 10000) (hx : -100000 ≤ x ∧ x ≤ 100000) :
    -2000000000 ≤ (y1 - y0) * (x - x0) ∧ (y1 - y0) * (x - x0) ≤ 2000000000 := mul_bnd (X := 10000) (Y := 200000) (by omega) (by omega) (by omega) (by omega) (by omega)
set_option maxHeartbeats 800000 in
theorem l01Line_any (x0 y0 x1 y1 x : Int) (w : World) (hx0 : 0 ≤ x0 ∧ x0 ≤ 100000) (hy0 : 0 ≤ y0 ∧ y0 ≤ 10000) (hx1 : 0 ≤ x1 ∧ x1 ≤ 100000) (hy1 : 0 ≤ y1 ∧ y1 ≤ 10000) (hx : -100000 ≤ x ∧ x ≤ 100000) :
    Calls Try.prog 74 #[.int .i64 x0, .int .i64 y0, .int .i64 x1, .int .i64 y1, .int .i64 x] w fun e w' => e = .returned (.int .i64 (lineT x0 y0 x1 y1 x)) ∧ w = w' := by
  obtain ⟨h1, h2⟩ := line_in hx0 hy0 hx1 hy1 hx
  by_cases c1 : x ≤ x0
  · have HV := Lib.hid (lineT_0 (y0 := y0) (x1 := x1) (y1 := y1) c1)
    go_enter Try.func74, Try.ntmps74
    go_wp2
    go_ret
    exact ⟨ret_int HV.out.symm, rfl⟩
  · by_cases c2 : x1 ≤ x0
    · have HV : Hid (lineT x0 y0 x1 y1 x = y0) := show _ = _ by unfold lineT; rw [if_pos (.inr c2)]
      go_enter Try.func74, Try.ntmps74
      go_wp2
      go_ret
      exact ⟨ret_int HV.out.symm, rfl⟩
    · by_cases c3 : x1 ≤ x
      · have HV := Lib.hid (lineT_1 (x0 := x0) (y0 := y0) (y1 := y1) (by omega) c3)
        go_enter Try.func74, Try.ntmps74
        go_wp2
        go_ret
        exact ⟨ret_int HV.out.symm, rfl⟩
      · have HV := Lib.hid (lineT_m (x0 := x0) (y0 := y0) (x1 := x1) (y1 := y1) (x := x) (by omega) (by omega))
        obtain ⟨d1, d2⟩ := dr_bnd (a := (y1 - y0) * (x - x0)) (b := x1 - x0) (m := 2000000000) (by omega) (by omega) h2
        have cd := l01Div_any ((y1 - y0) * (x - x0)) (x1 - x0) w (by omega) (by omega) (by omega) (by omega)
        go_enter Try.func74, Try.ntmps74
        go_wp2_with fail; ((with_reducible refine (cd).mono ?_); rintro e w' ⟨rfl, rfl⟩)
        go_wp2
        go_ret
        exact ⟨ret_int HV.out.symm, rfl⟩
set_option maxHeartbeats 800000 in
theorem blend_any (x0 y0 x1 y1 x : Int) (w : World) (hx0 : 0 ≤ x0 ∧ x0 ≤ 100000) (hy0 : 0 ≤ y0 ∧ y0 ≤ 10000) (hx1 : 0 ≤ x1 ∧ x1 ≤ 100000) (hy1 : 0 ≤ y1 ∧ y1 ≤ 10000) (hx : -100000 ≤ x ∧ x ≤ 100000) :
    Calls Try.prog 75 #[.int .i64 x0, .int .i64 y0, .int .i64 x1, .int .i64 y1, .int .i64 x] w fun e w' => e = .returned (.int .i64 (lineT x0 y0 x1 y1 x)) ∧ ∃ n, w' = w.drewN n := by
  obtain ⟨h1, h2⟩ := line_in hx0 hy0 hx1 hy1 hx
  by_cases c1 : x ≤ x0
  · have HV := Lib.hid (lineT_0 (y0 := y0) (x1 := x1) (y1 := y1) c1)
    go_enter Try.func75, Try.ntmps75
    go_wp2
    go_ret
    exact ⟨ret_int HV.out.symm, 0, rfl⟩
  · by_cases c2 : x1 ≤ x0
    · have HV : Hid (lineT x0 y0 x1 y1 x = y0) := show _ = _ by unfold lineT; rw [if_pos (.inr c2)]
      go_enter Try.func75, Try.ntmps75
      go_wp2
      go_ret
      exact ⟨ret_int HV.out.symm, 0, rfl⟩
    · by_cases c3 : x1 ≤ x
      · have HV := Lib.hid (lineT_1 (x0 := x0) (y0 := y0) (y1 := y1) (by omega) c3)
        go_enter Try.func75, Try.ntmps75
        go_wp2
        go_ret
        exact ⟨ret_int HV.out.symm, 0, rfl⟩
      · have HV := Lib.hid (lineT_m (x0 := x0) (y0 := y0) (x1 := x1) (y1 := y1) (x := x) (by omega) (by omega))
        obtain ⟨d1, d2⟩ := dr_bnd (a := (y1 - y0) * (x - x0)) (b := x1 - x0) (m := 2000000000) (by omega) (by omega) h2
        have cd := divRound_any ((y1 - y0) * (x - x0)) (x1 - x0) w (by omega) (by omega) (by omega) (by omega)
        go_enter Try.func75, Try.ntmps75
        go_wp2_with fail; ((with_reducible refine (cd).mono ?_); rintro e w' ⟨rfl, n1, rfl⟩)
        go_wp2
        go_ret
        exact ⟨ret_int HV.out.symm, _, rfl⟩
set_option maxHeartbeats 1600000 in
set_option maxRecDepth 100000 in
theorem l06Pressure_any (A : Option Addr) (n c : Nat) (rs : List Row) (q : Int) (p : Addr) (w : World) (hr : RSS w w.heap.size A n rs) (hok : crvOk (dat rs) = true) (hq : -100000 ≤ q ∧ q ≤ 100000) (hp2 : w.cell? ⟨p.block, p.off + 2, none⟩ = some (.slice A n c)) :
    Calls Try.prog 46 #[.pointer (some p), .int .i64 q] w fun e w' => e = .returned (.int .i64 (prT (dat rs) q)) ∧ Below w.heap.size w w' := by
  have HLn : Hid ((dat rs).length = n) := show (dat rs).length = n by rw [dat_len]; exact hr.len
  have HOK := Lib.hid hok
  have hn2 : 2 ≤ n ∧ n ≤ 8 := by have h := crvOk_t hok; have h2 := HLn.out; omega
  obtain ⟨n2, n8⟩ := hn2
  have hpl : p.block < w.heap.size := block_lt_of_cell (a := ⟨p.block, p.off + 2, none⟩) hp2
  obtain ⟨a0, r0, k0, rfl, f0, f1, f2, f3⟩ := pt_at hr hok (k := 0) (by omega)
  have f0' : w.cell? a0 = some (.slice (some r0) 2 k0) := f0
  have hn0 : (0 : Int) < (n : Int) := by omega
  clear hok
  by_cases hl : q ≤ lockA (dat rs) 0
  · have HV := Lib.hid (prT_low HOK.out hl)
    go_enter Try.func46, Try.ntmps46
    go_wp2
    go_ret
    exact ⟨ret_int HV.out.symm, Below.refl _ _⟩
  · go_enter Try.func46, Try.ntmps46
    go_wp2
    go_loop [6] (fun i => ∃ k : Nat, 1 ≤ k ∧ k ≤ n ∧ i = .int .i64 k ∧ Hid (∀ j, 1 ≤ j → j < k → lockA (dat rs) j < q)) (fun i => n - (intOf i).toNat)
    case atStart => exact ⟨1, by omega, by omega, rfl, fun j h1 h2 => by omega⟩
    case round =>
      obtain ⟨k, hk1, hk, rfl, HK⟩ := hrel
      by_cases hlt : k < n
      · obtain ⟨j, hj⟩ : ∃ j, Hid (k = j + 1) := ⟨k - 1, show k = k - 1 + 1 by omega⟩
        have hjn : j < n := by have := hj.out; omega
        have hwj : IntKind.i64.wrap ((k : Int) - 1) = (j : Int) := by have := hj.out; rw [IntWalk.i64_in _ (by omega)]; omega
        have hjI : (j : Int) < (n : Int) := by omega
        have hltI : (k : Int) < (n : Int) := by omega
        obtain ⟨a1, r1, k1, e1, g0, g1, g2, g3⟩ := pt_at hr HOK.out hlt
        obtain ⟨a2, r2, k2, e2, h0, h1, h2, h3⟩ := pt_at hr HOK.out hjn
        injection e1 with e1
        subst e1
        injection e2 with e2
        subst e2
        have b1 := crv_num HOK.out (k := k) (by rw [HLn.out]; exact hlt)
        have b2 := crv_num HOK.out (k := j) (by rw [HLn.out]; exact hjn)
        by_cases hg : q ≤ lockA (dat rs) k
        · have HV : Hid (prT (dat rs) q = lineT (lockA (dat rs) j) (lockB (dat rs) j) (lockA (dat rs) k) (lockB (dat rs) k) q) := show _ = _ by
            rw [prT_at hk1 (by rw [HLn.out]; omega) HK.out (.inr hg)]; unfold linAt; rw [show k - 1 = j by have := hj.out; omega]
          have HC : Hid (∀ m, Calls Try.prog 74 #[.int .i64 (lockA (dat rs) j), .int .i64 (lockB (dat rs) j), .int .i64 (lockA (dat rs) k), .int .i64 (lockB (dat rs) k), .int .i64 q] (w.drewN m) fun e w'' => e = .returned (.int .i64 (prT (dat rs) q)) ∧ ∃ u, w'' = w.drewN u) := fun m => (l01Line_any _ _ _ _ _ (w.drewN m) b2.1 b2.2 b1.1 b1.2 hq).mono fun _ _ ⟨he, hw⟩ => ⟨by rw [he, HV.out], m, hw.symm⟩
          clear b1 b2
          go_wp2
          go_quiet ((go_at_call 74; exact HC.out _))
          go_wp2
          go_ret
          exact ⟨rfl, below_drewN (Below.refl _ _) _⟩
        · have HG : Hid (∀ i, 1 ≤ i → i < k + 1 → lockA (dat rs) i < q) := fun i h1 h2 => by
            rcases Nat.lt_succ_iff_lt_or_eq.1 h2 with h3 | rfl
            · exact HK.out i h1 h3
            · omega
          clear b1 b2
          go_wp2
          go_round
          case rel => exact ⟨k + 1, by omega, by omega, by go_num, HG.out⟩
          case measure => simp [intOf]; omega
      · obtain ⟨j, hj⟩ : ∃ j, Hid (n = j + 1) := ⟨n - 1, show n = n - 1 + 1 by omega⟩
        have hjn : j < n := by have := hj.out; omega
        have hwj : IntKind.i64.wrap ((n : Int) - 1) = (j : Int) := by have := hj.out; rw [IntWalk.i64_in _ (by omega)]; omega
        have hjI : (j : Int) < (n : Int) := by omega
        obtain ⟨a2, r2, k2, e2, h0, h1, h2, h3⟩ := pt_at hr HOK.out hjn
        injection e2 with e2
        subst e2
        have HV : Hid (prT (dat rs) q = lockB (dat rs) j) := show _ = _ by
          rw [prT_high HOK.out (fun i h1 h2 => HK.out i h1 (by rw [HLn.out] at h2; omega)), HLn.out, show n - 1 = j by have := hj.out; omega]
        go_wp2
        go_ret
        exact ⟨ret_int HV.out.symm, Below.refl _ _⟩
set_option maxHeartbeats 1600000 in
set_option maxRecDepth 100000 in
theorem pressure_any (s : ByteArray) (a : Int) (A : Option Addr) (n c : Nat) (rs : List Row) (q : Int) (w : World) (hr0 : RSS w w.heap.size A n rs) (hok : crvOk (dat rs) = true) (hq : -100000 ≤ q ∧ q ≤ 100000) :
    Calls Try.prog 48 #[.agg #[.string s, .int .i64 a, .slice A n c], .int .i64 q] w fun e w' => e = .returned (.int .i64 (prT (dat rs) q)) ∧ Below w.heap.size w w' := by
  have HLn : Hid ((dat rs).length = n) := show (dat rs).length = n by rw [dat_len]; exact hr0.len
  have HOK := Lib.hid hok
  have hn2 : 2 ≤ n ∧ n ≤ 8 := by have h := crvOk_t hok; have h2 := HLn.out; omega
  obtain ⟨n2, n8⟩ := hn2
  have hb0 : Below w.heap.size w (w.alloc (.cells #[.string s, .int .i64 a, .slice A n c] 26)) := (Below.refl _ _).alloc (Nat.le_refl _) _
  have hr := hr0.below hb0
  have p2 : (w.alloc (.cells #[.string s, .int .i64 a, .slice A n c] 26)).cell? ⟨w.heap.size, 2, none⟩ = some (.slice A n c) := ((Blk.new w _ _).cell 2).trans rfl
  have hwn : IntKind.i64.wrap ((n : Int) - 1) = (n : Int) - 1 := IntWalk.i64_in _ (by omega)
  clear hok
  go_enter Try.func48, Try.ntmps48
  go_wp2
  generalize w.alloc (.cells #[.string s, .int .i64 a, .slice A n c] 26) = wb at *
  go_loop [5] (fun i => ∃ k : Nat, 1 ≤ k ∧ k + 1 ≤ n ∧ i = .int .i64 k ∧ Hid (∀ j, 1 ≤ j → j < k → lockA (dat rs) j < q)) (fun i => n - (intOf i).toNat)
  case atStart => exact ⟨1, by omega, by omega, rfl, fun j h1 h2 => by omega⟩
  case round =>
    obtain ⟨k, hk1, hk, rfl, HK⟩ := hrel
    have hlt : k < n := by omega
    obtain ⟨j, hj⟩ : ∃ j, Hid (k = j + 1) := ⟨k - 1, show k = k - 1 + 1 by omega⟩
    have hjn : j < n := by have := hj.out; omega
    have hwj : IntKind.i64.wrap ((k : Int) - 1) = (j : Int) := by have := hj.out; rw [IntWalk.i64_in _ (by omega)]; omega
    have hjI : (j : Int) < (n : Int) := by omega
    have hltI : (k : Int) < (n : Int) := by omega
    obtain ⟨a1, r1, k1, rfl, g0, g1, g2, g3⟩ := pt_at hr HOK.out hlt
    obtain ⟨a2, r2, k2, e2, h0, h1, h2, h3⟩ := pt_at hr HOK.out hjn
    injection e2 with e2
    subst e2
    have b1 := crv_num HOK.out (k := k) (by rw [HLn.out]; exact hlt)
    have b2 := crv_num HOK.out (k := j) (by rw [HLn.out]; exact hjn)
    have HL := Lib.hid (fun (he : k + 1 = (dat rs).length ∨ q ≤ lockA (dat rs) k) => show prT (dat rs) q = lineT (lockA (dat rs) j) (lockB (dat rs) j) (lockA (dat rs) k) (lockB (dat rs) k) q by
      rw [prT_at hk1 (by rw [HLn.out]; omega) HK.out he]; unfold linAt; rw [show k - 1 = j by have := hj.out; omega])
    have HC0 := Lib.hid (fun (W : World) (v : Int) (hv : v = lineT (lockA (dat rs) j) (lockB (dat rs) j) (lockA (dat rs) k) (lockB (dat rs) k) q) (m : Nat) => show Calls Try.prog 75 #[.int .i64 (lockA (dat rs) j), .int .i64 (lockB (dat rs) j), .int .i64 (lockA (dat rs) k), .int .i64 (lockB (dat rs) k), .int .i64 q] (W.drewN m) (fun e w'' => e = .returned (.int .i64 v) ∧ ∃ u, w'' = W.drewN u) from Calls.quiet_of ((blend_any _ _ _ _ _ (W.drewN m) b2.1 b2.2 b1.1 b1.2 hq).mono fun _ _ ⟨he, hw⟩ => ⟨by rw [he, hv], hw⟩))
    clear b1 b2
    by_cases hz : (k : Int) < (n : Int) - 1
    · by_cases hg : lockA (dat rs) k < q
      · have HG : Hid (∀ i, 1 ≤ i → i < k + 1 → lockA (dat rs) i < q) := fun i h1 h2 => by
          rcases Nat.lt_succ_iff_lt_or_eq.1 h2 with h3 | rfl
          · exact HK.out i h1 h3
          · exact hg
        go_wp2
        go_round
        case rel => exact ⟨k + 1, by omega, by omega, by go_num, HG.out⟩
        case measure => simp [intOf]; omega
      · have HV := Lib.hid (HL.out (.inr (by omega)))
        go_wp2
        go_quiet (fail)
        have HC := Lib.hid (HC0.out (wb.drewN nq) _ HV.out)
        have g1q : (wb.drewN nq).cell? r1 = _ := g1
        have g2q : (wb.drewN nq).cell? (r1.add 0) = _ := g2
        have g3q : (wb.drewN nq).cell? ⟨r1.block, r1.off + 1, none⟩ = _ := g3
        have h1q : (wb.drewN nq).cell? r2 = _ := h1
        have h2q : (wb.drewN nq).cell? (r2.add 0) = _ := h2
        have h3q : (wb.drewN nq).cell? ⟨r2.block, r2.off + 1, none⟩ = _ := h3
        have hbq := below_drewN hb0 nq
        generalize wb.drewN nq = wq at HC g1q g2q g3q h1q h2q h3q hbq ⊢
        go_wp2
        go_quiet ((go_at_call 75; exact HC.out _))
        go_wp2
        go_ret
        exact ⟨rfl, below_drewN hbq _⟩
    · have HV := Lib.hid (HL.out (.inl (by rw [HLn.out]; omega)))
      go_wp2
      go_quiet (fail)
      have HC := Lib.hid (HC0.out (wb.drewN nq) _ HV.out)
      have g1q : (wb.drewN nq).cell? r1 = _ := g1
      have g2q : (wb.drewN nq).cell? (r1.add 0) = _ := g2
      have g3q : (wb.drewN nq).cell? ⟨r1.block, r1.off + 1, none⟩ = _ := g3
      have h1q : (wb.drewN nq).cell? r2 = _ := h1
      have h2q : (wb.drewN nq).cell? (r2.add 0) = _ := h2
      have h3q : (wb.drewN nq).cell? ⟨r2.block, r2.off + 1, none⟩ = _ := h3
      have hbq := below_drewN hb0 nq
      generalize wb.drewN nq = wq at HC g1q g2q g3q h1q h2q h3q hbq ⊢
      go_wp2
      go_quiet ((go_at_call 75; exact HC.out _))
      go_wp2
      go_ret
      exact ⟨rfl, below_drewN hbq _⟩
end Go.Proofs.Ytapophggndlhaaa
