/- Contracts of the two square roots, and of sort.Search with a closure that only reads. -/
import Derived.Test.YtnfallanjndbcaaNum
import Derived.Test.YtnfallanjndbcaaRoot
import Derived.Test.YtnfallanjndbcaaMem
import Derived.Shelf.Abstract
namespace Go.Proofs.Ytnfallanjndbcaa
set_option linter.unusedVariables false
set_option linter.unusedSimpArgs false
open Go.RowKit
theorem l01Root_any (n : Int) (w : World) (_ : -9223372036854775808 ≤ n) (hn : n ≤ 9223372036854775807) :
    Calls Try.prog 56 #[.int .i64 n] w fun e w' => e = .returned (.int .i64 (rootI n)) ∧ w = w' := by
  have hr0 := rootI_nonneg n
  have hr1 := rootI_max hn
  go_enter Try.func56, Try.ntmps56
  go_wp2
  go_loop [3, 4] (fun l h => ∃ lo hi : Int, 0 ≤ lo ∧ lo ≤ rootI n ∧ rootI n ≤ hi ∧ hi ≤ 3037000499 ∧ l = .int .i64 lo ∧ h = .int .i64 hi) (fun l h => (intOf h - intOf l).toNat)
  case atStart => exact ⟨0, 3037000499, by omega, by omega, by omega, by omega, rfl, rfl⟩
  case round =>
    obtain ⟨lo, hi, h1, h2, h3, h4, rfl, rfl⟩ := hrel
    by_cases hlt : lo < hi
    · have hm := mul_pos_bnd (x := (lo + hi + 1) / 2) (y := (lo + hi + 1) / 2) (X := 3037000499) (Y := 3037000499) (M := 9223372036854775807) (by omega) (by omega) (by omega) (by omega) (by omega)
      obtain ⟨hm1, hm2⟩ := hm
      have hk := rootI_le (n := n) (m := (lo + hi + 1) / 2) (by omega)
      by_cases hc : (lo + hi + 1) / 2 * ((lo + hi + 1) / 2) ≤ n
      · have hle : (lo + hi + 1) / 2 ≤ rootI n := hk.2 (.inr hc)
        clear hk
        go_wp2
        go_round
        case rel => exact ⟨(lo + hi + 1) / 2, hi, by omega, by omega, by omega, by omega, rfl, rfl⟩
        case measure => simp [intOf]; omega
      · have hle : rootI n ≤ (lo + hi + 1) / 2 - 1 := by
          rcases Int.lt_or_le (rootI n) ((lo + hi + 1) / 2) with h5 | h5
          · omega
          · rcases hk.1 h5 with h6 | h6
            · omega
            · exact absurd h6 hc
        clear hk
        go_wp2
        go_round
        case rel => exact ⟨lo, (lo + hi + 1) / 2 - 1, by omega, by omega, by omega, by omega, rfl, rfl⟩
        case measure => simp [intOf]; omega
    · go_wp2
      go_ret
      exact ⟨ret_int (by omega), rfl⟩
set_option maxHeartbeats 400000 in
/-- sort.Search: the first place at which a closure says true, where what it says only turns from false to true. -/
theorem search_any (g : Nat) (cb : Array Value) (N : Int) (n : Nat) (hN : N = (n : Int)) (p : Nat → Bool) (w : World) (eg : ∀ args W, (callFunc g args).run Try.prog W = .ok (.enter g args) W) (hsz : n < 4611686018427387904)
    (hf : ∀ (W : World) (i : Nat), Below w.heap.size w W → i < n → Calls Try.prog g (#[.int .i64 i] ++ cb) W fun e w' => e = .returned (.bool (p i)) ∧ Below W.heap.size W w')
    (hmono : ∀ a b, a ≤ b → b < n → p a = true → p b = true) :
    Calls Try.prog 61 #[.int .i64 N, .func (.func g) #[] cb] w fun e w' => ∃ k : Nat, e = .returned (.int .i64 k) ∧ k ≤ n ∧ (∀ i, i < k → p i = false) ∧ (∀ i, k ≤ i → i < n → p i = true) ∧ Below w.heap.size w w' := by
  subst hN
  have HF := Lib.hid hf
  have HM := Lib.hid hmono
  clear hf hmono
  go_enter Try.func61, Try.ntmps61
  go_wp2
  go_loopw [5, 6] (fun s5 s6 wr => ∃ lo hi : Nat, s5 = .int .i64 lo ∧ s6 = .int .i64 hi ∧ lo ≤ hi ∧ hi ≤ n ∧ Below w.heap.size w wr ∧
    Hid ((∀ t, t < lo → p t = false) ∧ (∀ t, hi ≤ t → t < n → p t = true))) (fun s5 s6 _ => (intOf s6 - intOf s5).toNat)
  case atStart => exact ⟨0, n, rfl, rfl, by omega, by omega, Below.refl _ _, ⟨fun t ht => absurd ht (Nat.not_lt_zero _), fun t h1 h2 => by omega⟩⟩
  case round =>
    obtain ⟨lo, hi, rfl, rfl, hlh, hin, hbw, I⟩ := hrel
    by_cases hlt : lo < hi
    · have hc := HF.out wr ((lo + hi) / 2) hbw (by omega)
      rw [show (((lo + hi) / 2 : Nat) : Int) = ((lo : Int) + (hi : Int)) / 2 by omega] at hc
      cases hp : p ((lo + hi) / 2) <;> rw [hp] at hc
      · have HP := Lib.hid hp
        clear hp
        go_wp2_with (go_at_fn g; refine hc.mono ?_; rintro e w' ⟨rfl, hb1⟩)
        go_roundw
        case rel =>
          refine ⟨(lo + hi) / 2 + 1, hi, by go_num, rfl, by omega, by omega, hbw.trans (hb1.mono hbw.size), ?_, I.out.2⟩
          intro t ht
          cases htt : p t with
          | false => rfl
          | true =>
            have := HM.out t ((lo + hi) / 2) (by omega) (by omega) htt
            rw [HP.out] at this; cases this
        case measure => simp [intOf]; omega
      · have HP := Lib.hid hp
        clear hp
        go_wp2_with (go_at_fn g; refine hc.mono ?_; rintro e w' ⟨rfl, hb1⟩)
        go_roundw
        case rel =>
          refine ⟨lo, (lo + hi) / 2, rfl, by go_num, by omega, by omega, hbw.trans (hb1.mono hbw.size), I.out.1, ?_⟩
          intro t ht1 ht2
          exact HM.out ((lo + hi) / 2) t (by omega) (by omega) HP.out
        case measure => simp [intOf]; omega
    · have e : lo = hi := by omega
      subst e
      go_wp2
      go_ret
      exact ⟨lo, rfl, hin, I.out.1, I.out.2, hbw⟩
theorem rootClosure_any (n : Int) (r : Int) (b : Nat) (w : World) (hc : w.cell? ⟨b, 0, none⟩ = some (.int .i64 n)) (h1 : 0 ≤ r) (h2 : r ≤ 3037000498) :
    Calls Try.prog 62 #[.int .i64 r, .pointer (some ⟨b, 0, none⟩)] w fun e w' => e = .returned (.bool (decide (n < (r + 1) * (r + 1)))) ∧ ∃ m, w' = w.drewN m := by
  obtain ⟨h3, h4⟩ := mul_pos_bnd (x := r + 1) (y := r + 1) (X := 3037000499) (Y := 3037000499) (M := 9223372036854775807) (by omega) (by omega) (by omega) (by omega) (by omega)
  go_enter Try.func62, Try.ntmps62
  go_wp2
  go_ret
  exact ⟨rfl, 0, rfl⟩
set_option maxRecDepth 100000 in
theorem rootSearch (n : Int) (b : Nat) (W : World) (hc : W.cell? ⟨b, 0, none⟩ = some (.int .i64 n)) (hb0 : b < W.heap.size) (hn : n ≤ 9223372036854775807) :
    Calls Try.prog 61 #[.int .i64 3037000499, .func (.func 62) #[] #[.pointer (some ⟨b, 0, none⟩)]] W fun e w' => e = .returned (.int .i64 (rootI n)) ∧ Below W.heap.size W w' := by
  refine (search_any 62 _ 3037000499 3037000499 rfl (fun i => decide (n < ((i : Int) + 1) * ((i : Int) + 1))) W (fun args W => rfl) (by omega) ?hf ?hm).mono ?_
  case hf =>
    intro W' i hb hi
    refine (rootClosure_any n i b W' ?_ (by omega) (by omega)).mono ?_
    · rw [hb.cell (by exact hb0)]; exact hc
    · rintro e w' ⟨rfl, m, rfl⟩
      exact ⟨rfl, below_drewN (Below.refl _ _) _⟩
  case hm =>
    intro a b hab hbn h
    have h := of_decide_eq_true h
    apply decide_eq_true
    have h1 : (a : Int) + 1 ≤ (b : Int) + 1 := by omega
    have h2 := Int.mul_le_mul h1 h1 (by omega) (by omega)
    omega
  rintro e w' ⟨k, rfl, hk1, hk2, hk3, hb⟩
  refine ⟨ret_int ?_, hb⟩
  have h1 := rootI_max hn
  have h2 : (k : Int) ≤ rootI n := by
    refine (rootI_le (by omega)).2 ?_
    by_cases hk0 : k = 0
    · left; omega
    · right
      have h3 := of_decide_eq_false (hk2 (k - 1) (by omega))
      have e : ((k - 1 : Nat) : Int) + 1 = (k : Int) := by omega
      rw [e] at h3; omega
  rcases Nat.lt_or_ge k 3037000499 with h4 | h4
  · have h5 := of_decide_eq_true (hk3 k (by omega) h4)
    rcases Int.lt_or_le (k : Int) (rootI n) with h6 | h6
    · rcases (rootI_le (n := n) (m := (k : Int) + 1) (by omega)).1 (by omega) with h7 | h7 <;> omega
    · omega
  · omega
theorem rootOf_any (n : Int) (w : World) (hn : n ≤ 9223372036854775807) :
    Calls Try.prog 59 #[.int .i64 n] w fun e w' => e = .returned (.int .i64 (rootI n)) ∧ Below w.heap.size w w' := by
  by_cases h0 : n < 0
  · have h1 := rootI_neg h0
    have H1 := Lib.hid h1
    clear h1
    go_enter Try.func59, Try.ntmps59
    go_wp2
    go_ret
    exact ⟨ret_int H1.out.symm, by exact (Below.refl _ _).alloc (Nat.le_refl _) _⟩
  · go_enter Try.func59, Try.ntmps59
    go_wp2_with (go_at_call 61; refine (rootSearch n _ _ (cell_new1 _ _ _) (by simp) hn).mono ?_; rintro e w' ⟨rfl, hb⟩)
    go_ret
    exact ⟨rfl, ((Below.refl _ _).alloc (Nat.le_refl _) _).trans (hb.mono (by simp))⟩
end Go.Proofs.Ytnfallanjndbcaa
