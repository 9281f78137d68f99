/- Contracts of the searches for a first number, of shares, regulators, and resistances side by side. -/
import Derived.Test.YtapophggndlhaaaLst
namespace Go.Proofs.Ytapophggndlhaaa
set_option linter.unusedVariables false
set_option linter.unusedSimpArgs false
open Go.RowKit
/-- The first number from lo on, of n, at which p holds; lo + n if there is none. -/
def firstP (p : Int → Bool) (lo : Int) : Nat → Int
  | 0 => lo
  | n + 1 => if p lo = true then lo else firstP p (lo + 1) n
theorem firstP_eq {p : Int → Bool} : ∀ {n : Nat} {lo v : Int}, lo ≤ v → v ≤ lo + n → (∀ x, lo ≤ x → x < v → p x = false) → (v < lo + n → p v = true) → firstP p lo n = v
  | 0, lo, v, h1, h2, _, _ => by simp only [firstP]; omega
  | n + 1, lo, v, h1, h2, h3, h4 => by
    simp only [firstP]
    by_cases hv : v = lo
    · subst hv
      rw [if_pos (h4 (by omega))]
    · rw [if_neg (by rw [h3 lo (by omega) (by omega)]; exact Bool.false_ne_true)]
      exact firstP_eq (by omega) (by omega) (fun x hx1 hx2 => h3 x (by omega) hx2) (fun hlt => h4 (by omega))
def orNF (v : Int) (ok : Bool) : Int × Int := if ok = true then (v, 0) else (0, 3)
theorem orNotFound_any (v : Int) (ok : Bool) (w : World) :
    Calls Try.prog 59 #[.int .i64 v, .bool ok] w fun e w' => e = .returned (.tuple #[.int .i64 (orNF v ok).1, .int .i64 (orNF v ok).2]) ∧ w = w' := by
  cases ok
  all_goals
    go_enter Try.func59, Try.ntmps59
    go_wp2
    go_ret2
    exact ⟨by simp [orNF], rfl⟩
theorem firstInClosure_any (low x : Int) (g : Nat) (cb : Array Value) (b : Bool) (b1 b2 : Nat) (w : World) (eg : ∀ args W, (callFunc g args).run Try.prog W = .ok (.enter g args) W)
    (h1 : w.cell? ⟨b1, 0, none⟩ = some (.func (.func g) #[] cb)) (h2 : w.cell? ⟨b2, 0, none⟩ = some (.int .i64 low)) (h3 : -1000000000 ≤ low) (h4 : low ≤ 1000000000) (h5 : 0 ≤ x) (h6 : x ≤ 4000000000)
    (hf : Calls Try.prog g (#[.int .i64 (low + x)] ++ cb) w fun e w' => e = .returned (.bool b) ∧ Below w.heap.size w w') :
    Calls Try.prog 93 #[.int .i64 x, .pointer (some ⟨b1, 0, none⟩), .pointer (some ⟨b2, 0, none⟩)] w fun e w' => e = .returned (.bool b) ∧ Below w.heap.size w w' := by
  have HF := Lib.hid hf
  clear hf
  go_enter Try.func93, Try.ntmps93
  go_wp2_with (go_at_fn g; refine HF.out.mono ?_; rintro e w1 ⟨rfl, hb1⟩)
  go_ret
  exact ⟨rfl, hb1⟩
set_option maxHeartbeats 400000 in
set_option maxRecDepth 100000 in
/-- firstIn: the first number from low to high at which a closure says true, where what it says only turns from false to true. -/
theorem firstIn_any (low high : Int) (g : Nat) (cb : Array Value) (p : Int → Bool) (n : Nat) (w : World) (eg : ∀ args W, (callFunc g args).run Try.prog W = .ok (.enter g args) W)
    (hn : high - low + 1 = (n : Int)) (h3 : -1000000000 ≤ low) (h4 : high ≤ 1000000000) (h5 : low ≤ 1000000000)
    (hf : ∀ (W : World) (x : Int), Below w.heap.size w W → low ≤ x → x ≤ high → Calls Try.prog g (#[.int .i64 x] ++ cb) W fun e w' => e = .returned (.bool (p x)) ∧ Below W.heap.size W w')
    (hmono : ∀ a b, low ≤ a → a ≤ b → b ≤ high → p a = true → p b = true) :
    Calls Try.prog 80 #[.int .i64 low, .int .i64 high, .func (.func g) #[] cb] w fun e w' =>
      e = .returned (.tuple #[.int .i64 (firstP p low n), .bool (decide (firstP p low n ≤ high))]) ∧ Below w.heap.size w w' := by
  have hS : ∀ (W : World) (b1 b2 : Nat), Below w.heap.size w W → b1 < W.heap.size → b2 < W.heap.size → W.cell? ⟨b1, 0, none⟩ = some (.func (.func g) #[] cb) → W.cell? ⟨b2, 0, none⟩ = some (.int .i64 low) →
      Calls Try.prog 92 #[.int .i64 (high - low + 1), .func (.func 93) #[] #[.pointer (some ⟨b1, 0, none⟩), .pointer (some ⟨b2, 0, none⟩)]] W fun e w' =>
        ∃ k : Nat, e = .returned (.int .i64 k) ∧ k ≤ n ∧ firstP p low n = low + k ∧ Below W.heap.size W w' := by
    intro W b1 b2 hbW l1 l2 c1 c2
    refine (search_any 93 _ _ n hn (fun i => p (low + (i : Int))) W (fun _ _ => rfl) (by omega) ?_ ?_).mono ?_
    · intro W' i hb hi
      exact firstInClosure_any low i g cb _ b1 b2 W' eg (by rw [hb.cell l1]; exact c1) (by rw [hb.cell l2]; exact c2) h3 h5 (by omega) (by omega)
        (hf W' _ (hbW.trans (hb.mono hbW.size)) (by omega) (by omega))
    · intro a b hab hbn h
      exact hmono _ _ (by omega) (by omega) (by omega) h
    · rintro e w' ⟨k, rfl, hk, hk1, hk2, hb⟩
      refine ⟨k, rfl, hk, ?_, hb⟩
      refine firstP_eq (by omega) (by omega) (fun x hx1 hx2 => ?_) (fun hlt => hk2 k (Nat.le_refl _) (by omega))
      have := hk1 (x - low).toNat (by omega)
      rwa [show low + ((x - low).toNat : Int) = x by omega] at this
  have HS := Lib.hid hS
  have HN := Lib.hid hn
  have hn0 : 0 ≤ high - low + 1 := by omega
  have hnb : n ≤ 4000000000 := by omega
  clear hS hf hmono hn
  go_enter Try.func80, Try.ntmps80
  go_wp2_with (go_at_call 92; refine (HS.out _ _ _ (by (repeat (first | exact Below.refl _ _ | assumption | (refine Below.alloc ?_ (by first | exact Nat.le_refl _ | (simp; done) | (simp; omega)) _) | (refine below_drewN ?_ _) | (refine Below.trans ?_ (Below.mono (by assumption) (by first | exact Nat.le_refl _ | (simp; done) | (simp; omega) | omega)))))) (by first | exact Nat.le_refl _ | (simp; done) | (simp; omega) | omega) (by first | exact Nat.le_refl _ | (simp; done) | (simp; omega) | omega) (by go_simp) (by go_simp)).mono ?_; rintro e w1 ⟨k, rfl, hk, hv, hb1⟩; have HV := Lib.hid hv; clear hv; obtain ⟨hc1, hf1⟩ := bcell hb1)
  go_ret2
  refine ⟨?_, (((Below.refl _ _).alloc (Nat.le_refl _) _).alloc (by simp) _).trans (hb1.mono (by first | exact Nat.le_refl _ | (simp; done) | (simp; omega) | omega))⟩
  have e1 : decide ((k : Int) < high - low + 1) = decide (firstP p low n ≤ high) := by rw [HV.out]; exact Bool.eq_iff_iff.2 (by simp only [decide_eq_true_eq]; omega)
  rw [← e1, HV.out]
  rfl
def share (a b : Int) : Int := dr (1000 * rootI (1000000 * b)) (rootI (1000000 * a) + rootI (1000000 * b))
def shareR (a b : Int) : Int × Int := if isRes a = true ∧ isRes b = true then (share a b, 0) else (0, 2)
theorem mroot_bnd {a : Int} (h : isRes a = true) : 1000 ≤ rootI (1000000 * a) ∧ rootI (1000000 * a) ≤ 1000000 := by
  have h1 := isRes_t h
  exact ⟨(rootI_le (by omega)).2 (.inr (by omega)), (rootI_bnd (n := 1000000 * a) (M := 1000000) (m := 0) (by omega) (by omega)).2⟩
theorem share_bnd {a b : Int} (ha : isRes a = true) (hb : isRes b = true) : 0 ≤ share a b ∧ share a b ≤ 1000000000 := by
  have h1 := mroot_bnd ha
  have h2 := mroot_bnd hb
  exact ⟨dr_nonneg (by omega) (by omega), (dr_bnd (m := 1000000000) (by omega) (by omega) (by omega)).2⟩
end Go.Proofs.Ytapophggndlhaaa
