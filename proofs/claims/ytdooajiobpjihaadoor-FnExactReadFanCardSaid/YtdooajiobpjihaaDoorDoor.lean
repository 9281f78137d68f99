/- Contracts of the tests of a door. -/
import Derived.Test.YtdooajiobpjihaaDoorName
import Derived.Test.YtdooajiobpjihaaDoorRes
import Derived.Deep.RegionWith
namespace Go.Proofs.YtdooajiobpjihaaDoor
set_option linter.unusedVariables false
set_option linter.unusedSimpArgs false
open Go.RowKit
def doorOk (s : ByteArray) (a b c : Int) : Bool := isName s && inB a 0 23 && isRes c && inB b 1 c
theorem quietB {P : Program} {f : FuncId} {args : Array Value} {w : World} {n : Nat} {b c : Bool}
    (h : Calls P f args (w.drewN n) fun e w' => e = .returned (.bool b) ∧ w.drewN n = w') (hb : b = c) : Calls P f args (w.drewN n) fun e w'' => e = .returned (.bool c) ∧ ∃ m, w'' = w.drewN m :=
  h.mono fun _ _ ⟨he, hm⟩ => ⟨by rw [he, hb], n, hm.symm⟩
theorem l10One_any (s : ByteArray) (a b c : Int) (g : Nat) (w : World) (hs : s.size ≤ maxLen)
    (h0 : w.cell? ⟨g, 0, none⟩ = some (.string s)) (h1 : w.cell? ⟨g, 1, none⟩ = some (.int .i64 a)) (h2 : w.cell? ⟨g, 2, none⟩ = some (.int .i64 b)) (h3 : w.cell? ⟨g, 3, none⟩ = some (.int .i64 c)) :
    Calls Tryd.prog 47 #[.pointer (some ⟨g, 0, none⟩)] w fun e w' => e = .returned (.bool (doorOk s a b c)) ∧ ∃ n, w' = w.drewN n := by
  rcases Bool.eq_false_or_eq_true (isName s) with k0 | k0
  · rcases Bool.eq_false_or_eq_true (inB a 0 23) with k1 | k1
    · rcases Bool.eq_false_or_eq_true (isRes c) with k2 | k2
      · rcases Bool.eq_false_or_eq_true (inB b 1 c) with k3 | k3
        all_goals
          go_enter Tryd.func47, Tryd.ntmps47
          go_wp2
          go_quiet ((first | (go_at_call 58; exact quietB (l01Name_any _ _ hs) k0) | (go_at_call 70; exact quietB (l03Res_any _ _) k2) | (go_at_call_of 57 (Value.int .i64 23); exact quietB (l00In_any _ _ _ _) k1) | (go_at_call 57; exact quietB (l00In_any _ _ _ _) k3)))
          go_wp2
          go_ret
          exact ⟨ret_bool (by simp [doorOk, k0, k1, k2, k3]), _, rfl⟩
      · go_enter Tryd.func47, Tryd.ntmps47
        go_wp2
        go_quiet ((first | (go_at_call 58; exact quietB (l01Name_any _ _ hs) k0) | (go_at_call 70; exact quietB (l03Res_any _ _) k2) | (go_at_call 57; exact quietB (l00In_any _ _ _ _) k1)))
        go_wp2
        go_ret
        exact ⟨ret_bool (by simp [doorOk, k0, k1, k2]), _, rfl⟩
    · go_enter Tryd.func47, Tryd.ntmps47
      go_wp2
      go_quiet ((first | (go_at_call 58; exact quietB (l01Name_any _ _ hs) k0) | (go_at_call 57; exact quietB (l00In_any _ _ _ _) k1)))
      go_wp2
      go_ret
      exact ⟨ret_bool (by simp [doorOk, k0, k1]), _, rfl⟩
  · go_enter Tryd.func47, Tryd.ntmps47
    go_wp2
    go_quiet ((go_at_call 58; exact quietB (l01Name_any _ _ hs) k0))
    go_wp2
    go_ret
    exact ⟨ret_bool (by simp [doorOk, k0]), _, rfl⟩
theorem implValidDoor_any (s : ByteArray) (a b c : Int) (w : World) (hs : s.size ≤ maxLen) :
    Calls Tryd.prog 49 #[.agg #[.string s, .int .i64 a, .int .i64 b, .int .i64 c]] w fun e w' => e = .returned (.bool (doorOk s a b c)) ∧ Below w.heap.size w w' := by
  rcases Bool.eq_false_or_eq_true (isName s) with k0 | k0 <;> rcases Bool.eq_false_or_eq_true (inB a 0 23) with k1 | k1 <;> rcases Bool.eq_false_or_eq_true (isRes c) with k2 | k2 <;> rcases Bool.eq_false_or_eq_true (inB b 1 c) with k3 | k3
  all_goals
    go_enter Tryd.func49, Tryd.ntmps49
    go_wp2_with (first | (go_at_call 64; refine (isName_any _ _ hs).mono ?_; rintro e w' ⟨rfl, rfl⟩) | (go_at_call 65; refine (within_any _ _ _ _).mono ?_; rintro e w' ⟨rfl, rfl⟩) | (go_at_call 71; refine (resistanceOk_any _ _).mono ?_; rintro e w' ⟨rfl, rfl⟩))
    go_ret
    exact ⟨ret_bool (by simp [doorOk, k0, k1, k2, k3]), by first | exact Below.refl _ _ | exact (Below.refl _ _).alloc (Nat.le_refl _) _⟩
theorem szDoor_any (s : ByteArray) (a b c l : Int) (w : World) (hs : s.size ≤ maxLen) (h1 : 0 ≤ l) (h2 : l ≤ 1048576) :
    Calls Tryd.prog 24 #[.agg #[.string s, .int .i64 a, .int .i64 b, .int .i64 c], .int .i64 l] w fun e w' => e = .returned (.int .i64 (if l < s.size then -1 else l - s.size)) ∧ Below w.heap.size w w' := by
  unfold maxLen at hs
  by_cases h : l < s.size
  all_goals
    go_enter Tryd.func24, Tryd.ntmps24
    go_wp2
    go_ret
    exact ⟨ret_int (by simp [h]), (Below.refl _ _).alloc (Nat.le_refl _) _⟩
theorem toDoor_any (s : ByteArray) (a b c : Int) (w : World) (hs : s.size ≤ maxLen) :
    Calls Tryd.prog 26 #[.agg #[.string s, .int .i64 a, .int .i64 b, .int .i64 c]] w fun e w' => e = .returned (.agg #[.string s, .int .i64 a, .int .i64 b, .int .i64 c]) ∧ Below w.heap.size w w' := by
  go_enter Tryd.func26, Tryd.ntmps26
  go_wp2
  refine bodyPost_ret (v := .agg #[.string s, .int .i64 a, .int .i64 b, .int .i64 c]) (by simp [results, Tryd.results26, go_sem]) rfl ⟨rfl, ?_⟩
  (repeat (first | exact Below.refl _ _ | assumption | (refine Below.alloc ?_ (by first | exact Nat.le_refl _ | (simp; done) | (simp; omega)) _) | (refine below_drewN ?_ _) | (refine Below.trans ?_ (Below.mono (by assumption) (by first | exact Nat.le_refl _ | (simp; done) | (simp; omega) | omega)))))
end Go.Proofs.YtdooajiobpjihaaDoor
