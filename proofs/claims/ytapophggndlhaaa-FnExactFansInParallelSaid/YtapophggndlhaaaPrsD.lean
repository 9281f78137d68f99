/- Contract of the reference's pressure at a flow: it reads, and draws. -/
import Derived.Test.YtapophggndlhaaaPrsR
namespace Go.Proofs.Ytapophggndlhaaa
set_option linter.unusedVariables false
set_option linter.unusedSimpArgs false
open Go.RowKit
set_option maxHeartbeats 1600000 in
set_option maxRecDepth 100000 in
theorem l06Pressure_dr (A : Option Addr) (n c : Nat) (rs : List Row) (q : Int) (p : Addr) (w : World) (hr : RSS w w.heap.size A n rs) (hok : crvOk (dat rs) = true) (hq : -100000 ≤ q ∧ q ≤ 100000) (hp2 : w.cell? ⟨p.block, p.off + 2, none⟩ = some (.slice A n c)) :
    Calls Try.prog 46 #[.pointer (some p), .int .i64 q] w fun e w' => e = .returned (.int .i64 (prT (dat rs) q)) ∧ ∃ m, w' = w.drewN m := by
  have HLn : Hid ((dat rs).length = n) := show (dat rs).length = n by rw [dat_len]; exact hr.len
  have HOK := Lib.hid hok
  have hn2 : 2 ≤ n ∧ n ≤ 8 := by have h := crvOk_t hok; have h2 := HLn.out; omega
  obtain ⟨n2, n8⟩ := hn2
  have hpl : p.block < w.heap.size := block_lt_of_cell (a := ⟨p.block, p.off + 2, none⟩) hp2
  obtain ⟨a0, r0, k0, rfl, f0, f1, f2, f3⟩ := pt_at hr hok (k := 0) (by omega)
  have f0' : w.cell? a0 = some (.slice (some r0) 2 k0) := f0
  have hn0 : (0 : Int) < (n : Int) := by omega
  clear hok
  by_cases hl : q ≤ lockA (dat rs) 0
  · have HV := Lib.hid (prT_low HOK.out hl)
    go_enter Try.func46, Try.ntmps46
    go_wp2
    go_ret
    exact ⟨ret_int HV.out.symm, 0, rfl⟩
  · go_enter Try.func46, Try.ntmps46
    go_wp2
    go_loop [6] (fun i => ∃ k : Nat, 1 ≤ k ∧ k ≤ n ∧ i = .int .i64 k ∧ Hid (∀ j, 1 ≤ j → j < k → lockA (dat rs) j < q)) (fun i => n - (intOf i).toNat)
    case atStart => exact ⟨1, by omega, by omega, rfl, fun j h1 h2 => by omega⟩
    case round =>
      obtain ⟨k, hk1, hk, rfl, HK⟩ := hrel
      by_cases hlt : k < n
      · obtain ⟨j, hj⟩ : ∃ j, Hid (k = j + 1) := ⟨k - 1, show k = k - 1 + 1 by omega⟩
        have hjn : j < n := by have := hj.out; omega
        have hwj : IntKind.i64.wrap ((k : Int) - 1) = (j : Int) := by have := hj.out; rw [IntWalk.i64_in _ (by omega)]; omega
        have hjI : (j : Int) < (n : Int) := by omega
        have hltI : (k : Int) < (n : Int) := by omega
        obtain ⟨a1, r1, k1, e1, g0, g1, g2, g3⟩ := pt_at hr HOK.out hlt
        obtain ⟨a2, r2, k2, e2, h0, h1, h2, h3⟩ := pt_at hr HOK.out hjn
        injection e1 with e1
        subst e1
        injection e2 with e2
        subst e2
        have b1 := crv_num HOK.out (k := k) (by rw [HLn.out]; exact hlt)
        have b2 := crv_num HOK.out (k := j) (by rw [HLn.out]; exact hjn)
        by_cases hg : q ≤ lockA (dat rs) k
        · have HV : Hid (prT (dat rs) q = lineT (lockA (dat rs) j) (lockB (dat rs) j) (lockA (dat rs) k) (lockB (dat rs) k) q) := show _ = _ by
            rw [prT_at hk1 (by rw [HLn.out]; omega) HK.out (.inr hg)]; unfold linAt; rw [show k - 1 = j by have := hj.out; omega]
          have HC : Hid (∀ m, Calls Try.prog 74 #[.int .i64 (lockA (dat rs) j), .int .i64 (lockB (dat rs) j), .int .i64 (lockA (dat rs) k), .int .i64 (lockB (dat rs) k), .int .i64 q] (w.drewN m) fun e w'' => e = .returned (.int .i64 (prT (dat rs) q)) ∧ ∃ u, w'' = w.drewN u) := fun m => (l01Line_any _ _ _ _ _ (w.drewN m) b2.1 b2.2 b1.1 b1.2 hq).mono fun _ _ ⟨he, hw⟩ => ⟨by rw [he, HV.out], m, hw.symm⟩
          clear b1 b2
          go_wp2
          go_quiet ((go_at_call 74; exact HC.out _))
          go_wp2
          go_ret
          exact ⟨rfl, _, rfl⟩
        · have HG : Hid (∀ i, 1 ≤ i → i < k + 1 → lockA (dat rs) i < q) := fun i h1 h2 => by
            rcases Nat.lt_succ_iff_lt_or_eq.1 h2 with h3 | rfl
            · exact HK.out i h1 h3
            · omega
          clear b1 b2
          go_wp2
          go_round
          case rel => exact ⟨k + 1, by omega, by omega, by go_num, HG.out⟩
          case measure => simp [intOf]; omega
      · obtain ⟨j, hj⟩ : ∃ j, Hid (n = j + 1) := ⟨n - 1, show n = n - 1 + 1 by omega⟩
        have hjn : j < n := by have := hj.out; omega
        have hwj : IntKind.i64.wrap ((n : Int) - 1) = (j : Int) := by have := hj.out; rw [IntWalk.i64_in _ (by omega)]; omega
        have hjI : (j : Int) < (n : Int) := by omega
        obtain ⟨a2, r2, k2, e2, h0, h1, h2, h3⟩ := pt_at hr HOK.out hjn
        injection e2 with e2
        subst e2
        have HV : Hid (prT (dat rs) q = lockB (dat rs) j) := show _ = _ by
          rw [prT_high HOK.out (fun i h1 h2 => HK.out i h1 (by rw [HLn.out] at h2; omega)), HLn.out, show n - 1 = j by have := hj.out; omega]
        go_wp2
        go_ret
        exact ⟨ret_int HV.out.symm, 0, rfl⟩
end Go.Proofs.Ytapophggndlhaaa
