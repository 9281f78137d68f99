/- The pressure of a fan at a flow: plain laws. -/
import Derived.Test.YtapophggndlhaaaFanP
import Derived.Test.YtapophggndlhaaaFan
namespace Go.Proofs.Ytapophggndlhaaa
set_option linter.unusedVariables false
set_option linter.unusedSimpArgs false
/-- The index of the point behind a flow, from k on. -/
def segOf (cs : List (List Int)) (q : Int) : Nat → Nat → Nat
  | 0, k => k
  | f + 1, k => if k + 1 < cs.length ∧ lockA cs k < q then segOf cs q f (k + 1) else k
def linAt (cs : List (List Int)) (k : Nat) (q : Int) : Int := lineT (lockA cs (k - 1)) (lockB cs (k - 1)) (lockA cs k) (lockB cs k) q
def prT (cs : List (List Int)) (q : Int) : Int := linAt cs (segOf cs q cs.length 1) q
theorem seg_skip {cs : List (List Int)} {q : Int} : ∀ (f k j : Nat), j ≤ f → (∀ i, k ≤ i → i < k + j → i + 1 < cs.length ∧ lockA cs i < q) → segOf cs q f k = segOf cs q (f - j) (k + j)
  | f, k, 0, _, _ => by simp
  | 0, k, j + 1, h, _ => by omega
  | f + 1, k, j + 1, h, hp => by
    have h1 := hp k (Nat.le_refl _) (by omega)
    simp only [segOf]
    rw [if_pos h1, seg_skip f (k + 1) j (by omega) (fun i hi hj => hp i (by omega) (by omega)), show f + 1 - (j + 1) = f - j by omega, show k + 1 + j = k + (j + 1) by omega]
theorem seg_stop {cs : List (List Int)} {q : Int} {f k : Nat} (h : ¬ (k + 1 < cs.length ∧ lockA cs k < q)) : segOf cs q f k = k := by
  cases f with
  | zero => rfl
  | succ f => simp only [segOf]; rw [if_neg h]
theorem prT_at {cs : List (List Int)} {q : Int} {k : Nat} (h1 : 1 ≤ k) (hk : k + 1 ≤ cs.length) (hb : ∀ j, 1 ≤ j → j < k → lockA cs j < q) (he : k + 1 = cs.length ∨ q ≤ lockA cs k) : prT cs q = linAt cs k q := by
  unfold prT
  rw [seg_skip cs.length 1 (k - 1) (by omega) (fun i hi hj => ⟨by omega, hb i hi (by omega)⟩), show 1 + (k - 1) = k by omega, seg_stop (by omega)]
theorem seg_ex (cs : List (List Int)) (q : Int) (h2 : 2 ≤ cs.length) : ∃ k, 1 ≤ k ∧ k + 1 ≤ cs.length ∧ (∀ j, 1 ≤ j → j < k → lockA cs j < q) ∧ (k + 1 = cs.length ∨ q ≤ lockA cs k) := by
  have key : ∀ d k : Nat, k + d + 1 = cs.length → 1 ≤ k → (∀ j, 1 ≤ j → j < k → lockA cs j < q) → ∃ k, 1 ≤ k ∧ k + 1 ≤ cs.length ∧ (∀ j, 1 ≤ j → j < k → lockA cs j < q) ∧ (k + 1 = cs.length ∨ q ≤ lockA cs k) := by
    intro d
    induction d with
    | zero => intro k hk h1 hb; exact ⟨k, h1, by omega, hb, .inl (by omega)⟩
    | succ d ih =>
      intro k hk h1 hb
      rcases Int.lt_or_le (lockA cs k) q with h | h
      · refine ih (k + 1) (by omega) (by omega) fun j hj1 hj => ?_
        rcases Nat.lt_succ_iff_lt_or_eq.1 hj with h3 | rfl
        · exact hb j hj1 h3
        · exact h
      · exact ⟨k, h1, by omega, hb, .inr h⟩
  exact key (cs.length - 2) 1 (by omega) (by omega) fun j h1 h2 => by omega
section
variable {cs : List (List Int)}
theorem crv_step (h : crvOk cs = true) {k : Nat} (h1 : 1 ≤ k) (hk : k < cs.length) : lockA cs (k - 1) < lockA cs k ∧ lockB cs k ≤ lockB cs (k - 1) := by
  obtain ⟨_, _, hc⟩ := crvOk_t h
  rcases (crv_t (hc k hk)).2.2.2.2.2 with h0 | h0
  · omega
  · exact h0
theorem crv_num (h : crvOk cs = true) {k : Nat} (hk : k < cs.length) : (0 ≤ lockA cs k ∧ lockA cs k ≤ 100000) ∧ 0 ≤ lockB cs k ∧ lockB cs k ≤ 10000 := by
  obtain ⟨_, _, hc⟩ := crvOk_t h
  obtain ⟨_, a, b, c, d, _⟩ := crv_t (hc k hk)
  exact ⟨⟨a, b⟩, c, d⟩
theorem lockB_mono (h : crvOk cs = true) : ∀ (d k : Nat), k + d < cs.length → lockB cs (k + d) ≤ lockB cs k
  | 0, k, _ => Int.le_refl _
  | d + 1, k, hk => by
    have h1 := lockB_mono h d k (by omega)
    have h2 := (crv_step h (k := k + d + 1) (by omega) (by omega)).2
    rw [show k + d + 1 - 1 = k + d by omega] at h2
    exact Int.le_trans h2 h1
theorem linAt_bnd (h : crvOk cs = true) {k : Nat} {q : Int} (h1 : 1 ≤ k) (hk : k < cs.length) : lockB cs k ≤ linAt cs k q ∧ linAt cs k q ≤ lockB cs (k - 1) :=
  lineT_bnd (crv_step h h1 hk).1 (crv_step h h1 hk).2
theorem prT_bnd (h : crvOk cs = true) (q : Int) : 0 ≤ prT cs q ∧ prT cs q ≤ 10000 := by
  obtain ⟨k, h1, h2, h3, h4⟩ := seg_ex cs q (crvOk_t h).1
  rw [prT_at h1 h2 h3 h4]
  have h5 := linAt_bnd (q := q) h h1 (by omega)
  have h6 := crv_num h (k := k) (by omega)
  have h7 := crv_num h (k := k - 1) (by omega)
  omega
theorem prT_mono (h : crvOk cs = true) {q q' : Int} (hq : q ≤ q') : prT cs q' ≤ prT cs q := by
  obtain ⟨k, h1, h2, h3, h4⟩ := seg_ex cs q (crvOk_t h).1
  obtain ⟨k', h1', h2', h3', h4'⟩ := seg_ex cs q' (crvOk_t h).1
  rw [prT_at h1 h2 h3 h4, prT_at h1' h2' h3' h4']
  rcases Nat.lt_trichotomy k k' with hk | rfl | hk
  · have h5 := linAt_bnd (q := q) h h1 (by omega)
    have h6 := linAt_bnd (q := q') h h1' (by omega)
    have h7 := lockB_mono h (k' - 1 - k) k (by omega)
    rw [show k + (k' - 1 - k) = k' - 1 by omega] at h7
    omega
  · exact lineT_mono (crv_step h h1 (by omega)).1 (crv_step h h1 (by omega)).2 hq
  · exfalso
    have h5 := h3 k' h1' hk
    rcases h4' with h6 | h6
    · omega
    · omega
theorem prT_low (h : crvOk cs = true) {q : Int} (hq : q ≤ lockA cs 0) : prT cs q = lockB cs 0 := by
  have h2 := (crvOk_t h).1
  have h5 := (crv_step h (k := 1) (by omega) (by omega)).1
  rw [prT_at (k := 1) (by omega) (by omega) (fun j h1 h2 => by omega) (.inr (by rw [show (1 : Nat) - 1 = 0 from rfl] at h5; omega))]
  exact lineT_0 hq
theorem prT_high (h : crvOk cs = true) {q : Int} (hq : ∀ j, 1 ≤ j → j < cs.length → lockA cs j < q) : prT cs q = lockB cs (cs.length - 1) := by
  have h2 := (crvOk_t h).1
  rw [prT_at (k := cs.length - 1) (by omega) (by omega) (fun j h1 h2 => hq j h1 (by omega)) (.inl (by omega))]
  exact lineT_1 (crv_step h (by omega) (by omega)).1 (Int.le_of_lt (hq _ (by omega) (by omega)))
end
end Go.Proofs.Ytapophggndlhaaa
