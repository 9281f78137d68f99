/- Contracts of the laws' own helpers on slices of numbers and of bools: copy, compare, mark, held. -/
import Derived.Test.YtoghblpddbpimaaNum
import Derived.Test.YtoghblpddbpimaaMem
namespace Go.Proofs.Ytoghblpddbpimaa
set_option linter.unusedVariables false
set_option linter.unusedSimpArgs false
open Go.RowKit
def ints (xs : List Int) : List Value := xs.map (Value.int .i64)
def bools (xs : List Bool) : List Value := xs.map Value.bool
theorem bools_at {xs : List Bool} {k : Nat} {u : Value} (h : (bools xs)[k]? = some u) : ∃ b, xs[k]? = some b ∧ u = .bool b := by
  unfold bools at h
  rw [List.getElem?_map] at h
  cases e : xs[k]? with
  | none => rw [e] at h; simp at h
  | some b => rw [e] at h; simp at h; exact ⟨b, rfl, h.symm⟩
theorem ints_at {xs : List Int} {k : Nat} {u : Value} (h : (ints xs)[k]? = some u) : ∃ b, xs[k]? = some b ∧ u = .int .i64 b := by
  unfold ints at h
  rw [List.getElem?_map] at h
  cases e : xs[k]? with
  | none => rw [e] at h; simp at h
  | some b => rw [e] at h; simp at h; exact ⟨b, rfl, h.symm⟩
theorem bools_len {w : World} {B : Nat} {A : Option Addr} {n : Nat} {xs : List Bool} (h : Reads w B 1 A n (bools xs)) : xs.length = n := by have := h.1; simpa [bools] using this
theorem ints_len {w : World} {B : Nat} {A : Option Addr} {n : Nat} {xs : List Int} (h : Reads w B 1 A n (ints xs)) : xs.length = n := by have := h.1; simpa [ints] using this
theorem own_below {w w' : World} {base e size n : Nat} {v : Value} {xs : List Value} (h : w.ownsRow base e size v n xs) (hb : Below w.heap.size w w') : w'.ownsRow base e size v n xs := by
  refine h.kept (row := none) (only_of_below hb none) ?_
  cases hv : v.ownBlock with
  | none => exact .inl rfl
  | some k => exact .inr (by simp)
/-- A block of n cells that holds the list from its head. -/
theorem own_of_blk {w : World} {g e n : Nat} {cur : Array Value} {xs : List Value} (h : Blk w g e cur) (hl : xs.length = n) (hs : cur.size = n) (hm : n ≤ maxLen) (hx : ∀ j, j < n → cur[j]? = xs[j]?) :
    w.ownsRow g e 1 (.slice (some ⟨g, 0, none⟩) n n) n xs := by
  refine ⟨by omega, .inr ⟨g, n, cur, rfl, Nat.le_refl _, h, Nat.le_refl _, hm, by omega, ?_⟩⟩
  apply List.ext_getElem?
  intro j
  rw [List.getElem?_take]
  by_cases hj : j < n
  · rw [if_pos (by omega), Array.getElem?_toList, hx j hj]
  · rw [if_neg (by omega), List.getElem?_eq_none (by omega)]
theorem wfmax {n : Nat} (h : n ≤ 1048576) : n ≤ maxLen := by unfold maxLen; omega
theorem info_BoolS : (Try.prog.info? 4).map (fun i => (i.zero, i.size, i.bytes)) = some (some (.bool false), 1, 1) := by kernel_rfl
set_option maxHeartbeats 800000 in
theorem toBoolS_any (A : Option Addr) (n c : Nat) (xs : List Bool) (w : World) (hr : Reads w w.heap.size 1 A n (bools xs)) (hn : n ≤ 1048576) :
    Calls Try.prog 12 #[.slice A n c] w fun e w' => e = .returned (.slice (some ⟨w.heap.size, 0, none⟩) n n) ∧ w'.ownsRow w.heap.size 4 1 (.slice (some ⟨w.heap.size, 0, none⟩) n n) n (bools xs) ∧ Below w.heap.size w w' := by
  have HL := Lib.hid hr.1
  have hmk := run_make_row' (P := Try.prog) 25 4 (.bool false) 1 Try.underlying25 info_BoolS rfl .i64 .i64 n (by omega) (by omega)
  go_enter Try.func12, Try.ntmps12
  go_wp2
  go_loopw [4] (fun i wr => ∃ (k : Nat) (cur : Array Value), k ≤ n ∧ i = .int .i64 k ∧ Blk wr w.heap.size 4 cur ∧ Hid (cur.size = n ∧ ∀ j, j < k → cur[j]? = (bools xs)[j]?) ∧ Below w.heap.size w wr) (fun i _ => n - (intOf i).toNat)
  case atStart => exact ⟨0, _, by omega, rfl, Blk.new _ _ _, ⟨size_madeCells _ _, fun j hj => absurd hj (Nat.not_lt_zero _)⟩, by (repeat (first | exact Below.refl _ _ | assumption | (refine Below.alloc ?_ (by first | exact Nat.le_refl _ | (simp; done) | (simp; omega)) _) | (refine below_drewN ?_ _) | (refine Below.trans ?_ (Below.mono (by assumption) (by first | exact Nat.le_refl _ | (simp; done) | (simp; omega) | omega)))))⟩
  case round =>
    obtain ⟨k, cur, hk, rfl, hbk, HC, hbw⟩ := hrel
    have hz := hbw.size
    by_cases hlt : k < n
    · obtain ⟨ad, u, rfl, had, hx, hc⟩ := (hr.below hbw).at_ hlt
      have hcur : k < cur.size := by rw [HC.out.1]; exact hlt
      have hold : wr.cell? ⟨w.heap.size, k, none⟩ = some cur[k] := by rw [hbk.cell k]; exact Array.getElem?_eq_getElem hcur
      have hfz := hbk.frozen k
      obtain ⟨b, hb, rfl⟩ := bools_at hx
      have HX := Lib.hid hx
      clear hb hx
      go_wp2
      go_roundw
      case rel =>
        refine ⟨k + 1, _, by omega, by go_num, hbk.set_ k _, ⟨by simpa using HC.out.1, fun j hj => ?_⟩, hbw.setCell (by simp) _⟩
        rw [Array.getElem?_setIfInBounds]
        by_cases hjk : k = j
        · subst hjk
          rw [if_pos rfl, if_pos hcur]; exact HX.out.symm
        · rw [if_neg hjk]; exact HC.out.2 j (by omega)
      case measure => simp [intOf]; omega
    · have e : k = n := by omega
      subst e
      go_wp2
      go_ret
      exact ⟨rfl, own_of_blk hbk (by simpa using HL.out) HC.out.1 (wfmax hn) HC.out.2, hbw⟩
set_option maxHeartbeats 800000 in
/-- Two slices that read as one list are equal. -/
theorem eqBoolS_same (A B : Option Addr) (n c d : Nat) (xs : List Bool) (w : World) (hr : Reads w w.heap.size 1 A n (bools xs)) (hq : Reads w w.heap.size 1 B n (bools xs)) (hn : n ≤ 1099511627776) :
    Calls Try.prog 14 #[.slice A n c, .slice B n d] w fun e w' => e = .returned (.bool true) ∧ ∃ m, w' = w.drewN m := by
  go_enter Try.func14, Try.ntmps14
  go_wp2
  go_loopw [5] (fun i wr => ∃ (k m : Nat), k ≤ n ∧ i = .int .i64 k ∧ wr = w.drewN m) (fun i _ => n - (intOf i).toNat)
  case atStart => exact ⟨0, 0, by omega, rfl, rfl⟩
  case round =>
    obtain ⟨k, m, hk, rfl, rfl⟩ := hrel
    by_cases hlt : k < n
    · obtain ⟨ad, u, rfl, had, hx, hc⟩ := hr.at_ hlt
      obtain ⟨bd, u', rfl, hbd, hx', hc'⟩ := hq.at_ hlt
      obtain rfl : u = u' := by rw [hx] at hx'; exact Option.some.inj hx'
      obtain ⟨b, hb, rfl⟩ := bools_at hx
      clear hb hx hx'
      have hlt' : (k : Int) < (n : Int) := by omega
      go_wp2_with fail
      go_quiet (fail)
      go_wp2
      go_roundw
      case rel => exact ⟨k + 1, _, by omega, by go_num, rfl⟩
      case measure => simp [intOf]; omega
    · go_wp2
      go_ret
      exact ⟨rfl, _, rfl⟩
end Go.Proofs.Ytoghblpddbpimaa
