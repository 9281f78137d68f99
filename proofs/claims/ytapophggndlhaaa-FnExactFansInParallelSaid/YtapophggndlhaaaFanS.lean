/- Contracts of equal fans. -/
import Derived.Test.YtapophggndlhaaaFanH
import Derived.Test.YtapophggndlhaaaFan
namespace Go.Proofs.Ytapophggndlhaaa
set_option linter.unusedVariables false
set_option linter.unusedSimpArgs false
open Go.RowKit
theorem take_same {α : Type} {xs ys : List α} {k : Nat} {x y : α} (h : xs.take k = ys.take k) (hx : xs[k]? = some x) (hy : ys[k]? = some y) (e : x = y) : xs.take (k + 1) = ys.take (k + 1) := by
  rw [take_snoc hx, take_snoc hy, h, e]
theorem not_same {α : Type} {xs ys : List α} {k : Nat} {x y : α} (hx : xs[k]? = some x) (hy : ys[k]? = some y) (e : x ≠ y) : xs ≠ ys := by
  intro h; rw [h, hy] at hx; exact e (Option.some.inj hx).symm
theorem all_same {α : Type} {xs ys : List α} {n : Nat} (h : xs.take n = ys.take n) (h1 : xs.length = n) (h2 : ys.length = n) : xs = ys := by
  rwa [List.take_of_length_le (by omega), List.take_of_length_le (by omega)] at h
def sameFan (s : ByteArray) (a : Int) (ls : List (List Int)) (t : ByteArray) (b : Int) (ms : List (List Int)) : Bool := (s.toList == t.toList) && (a == b) && decide (ls = ms)
end Go.Proofs.Ytapophggndlhaaa
