/- Contracts of the test of an airway, and of its ends. -/
import Derived.Test.YtpomecflbjedgaaRAwy
import Derived.Test.YtpomecflbjedgaaName
import Derived.Test.YtpomecflbjedgaaFanH
namespace Go.Proofs.Ytpomecflbjedgaa
set_option linter.unusedVariables false
set_option linter.unusedSimpArgs false
open Go.RowKit
theorem quietE' {P : Program} {f : FuncId} {args : Array Value} {w : World} {n : Nat} {b c : Bool}
    (h : Calls P f args (w.drewN n) fun e w' => e = .returned (.bool b) ∧ w.drewN n = w') (hb : b = c) : Calls P f args (w.drewN n) fun e w'' => e = .returned (.bool c) ∧ ∃ m, w'' = w.drewN m :=
  h.mono fun _ _ ⟨he, hm⟩ => ⟨by rw [he, hb], n, hm.symm⟩
theorem quietBD {P : Program} {f : FuncId} {args : Array Value} {w : World} {n : Nat} {b c : Bool}
    (h : Calls P f args (w.drewN n) fun e w' => e = .returned (.bool b) ∧ ∃ m, w' = (w.drewN n).drewN m) (hb : b = c) : Calls P f args (w.drewN n) fun e w'' => e = .returned (.bool c) ∧ ∃ m, w'' = w.drewN m :=
  Calls.quiet_of (h.mono fun _ _ ⟨he, hm⟩ => ⟨by rw [he, hb], hm⟩)
def awyOk (x : Awy) : Bool := isName x.s && inB x.a 0 15 && inB x.b 0 15 && !(x.a == x.b) && inB x.l 1 10000 && inB x.c 50 5000 && inB x.f 1 1000 && inB x.h 0 1000
theorem awyOk_t {x : Awy} (h : awyOk x = true) : (0 ≤ x.a ∧ x.a ≤ 15) ∧ (0 ≤ x.b ∧ x.b ≤ 15) ∧ x.a ≠ x.b ∧ (1 ≤ x.l ∧ x.l ≤ 10000) ∧ (50 ≤ x.c ∧ x.c ≤ 5000) ∧ (1 ≤ x.f ∧ x.f ≤ 1000) ∧ (0 ≤ x.h ∧ x.h ≤ 1000) := by
  unfold awyOk at h
  simp only [Bool.and_eq_true, Bool.not_eq_true', beq_eq_false_iff_ne, ne_eq] at h
  have h1 := inB_t h.1.1.1.1.1.1.2
  have h2 := inB_t h.1.1.1.1.1.2
  have h3 := inB_t h.1.1.1.2
  have h4 := inB_t h.1.1.2
  have h5 := inB_t h.1.2
  have h6 := inB_t h.2
  exact ⟨h1, h2, h.1.1.1.1.2, h3, h4, h5, h6⟩
end Go.Proofs.Ytpomecflbjedgaa
