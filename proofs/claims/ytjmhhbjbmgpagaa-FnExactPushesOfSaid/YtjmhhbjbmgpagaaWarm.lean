/- Contracts of WarmAirways. -/
import Derived.Test.YtjmhhbjbmgpagaaLev
namespace Go.Proofs.Ytjmhhbjbmgpagaa
set_option linter.unusedVariables false
set_option linter.unusedSimpArgs false
open Go.RowKit
def incAt (as_ : List Int) (k : Nat) : Bool := decide (k = 0) || decide (as_.getD (k - 1) 0 < as_.getD k 0)
def incOk (as_ : List Int) : Bool := allUpto as_.length (incAt as_)
def riAt (as_ : List Int) (l h : Int) (k : Nat) : Bool := inB (as_.getD k 0) l h && incAt as_ k
def risesOk (as_ : List Int) (l h : Int) : Bool := allUpto as_.length (riAt as_ l h)
theorem getD_of {as_ : List Int} {k : Nat} {a : Int} (h : as_[k]? = some a) : as_.getD k 0 = a := by rw [List.getD_eq_getElem?_getD, h]; rfl
theorem incAt_z (as_ : List Int) : incAt as_ 0 = true := rfl
theorem incAt_s {as_ : List Int} {k j : Nat} {a b : Int} (hk : k = j + 1) (ha : as_[k]? = some a) (hb : as_[j]? = some b) : incAt as_ k = decide (b < a) := by
  unfold incAt
  rw [decide_eq_false (show ¬ k = 0 by omega), Bool.false_or, getD_of ha, show k - 1 = j by omega, getD_of hb]
theorem riAt_eq {as_ : List Int} {k : Nat} {a l h : Int} (ha : as_[k]? = some a) : riAt as_ l h k = (inB a l h && incAt as_ k) := by unfold riAt; rw [getD_of ha]
theorem rises_eq (as_ : List Int) (l h : Int) : risesOk as_ l h = (incOk as_ && allIn l h as_) := by
  rw [Bool.eq_iff_iff, Bool.and_eq_true]
  constructor
  · intro e
    refine ⟨allUpto_t fun k hk => ?_, ?_⟩
    · have := allUpto_get e hk
      unfold riAt at this
      rw [Bool.and_eq_true] at this
      exact this.2
    · unfold allIn
      rw [List.all_eq_true]
      intro x hx
      obtain ⟨k, hk⟩ := List.getElem?_of_mem hx
      have hkl : k < as_.length := by
        rcases Nat.lt_or_ge k as_.length with h1 | h1
        · exact h1
        · rw [List.getElem?_eq_none h1] at hk; cases hk
      have := allUpto_get e hkl
      rw [riAt_eq hk, Bool.and_eq_true] at this
      exact this.1
  · rintro ⟨h1, h2⟩
    refine allUpto_t fun k hk => ?_
    have hx : as_[k]? = some as_[k] := List.getElem?_eq_getElem hk
    rw [riAt_eq hx, Bool.and_eq_true]
    exact ⟨all_mem (p := fun x => inB x l h) h2 (List.getElem_mem hk), allUpto_get h1 hk⟩
theorem rises_mem {as_ : List Int} {l h : Int} (e : risesOk as_ l h = true) {k : Nat} {a : Int} (ha : as_[k]? = some a) : l ≤ a ∧ a ≤ h := by
  rw [rises_eq, Bool.and_eq_true] at e
  exact allIn_mem e.2 (List.mem_of_getElem? ha)
def wmTo (ts as_ : List Int) (q : Int) : Nat → List Int
  | 0 => ts
  | k + 1 => (wmTo ts as_ q k).set (as_.getD k 0).toNat ((wmTo ts as_ q k).getD (as_.getD k 0).toNat 0 + q)
theorem wmTo_len (ts as_ : List Int) (q : Int) : ∀ k, (wmTo ts as_ q k).length = ts.length
  | 0 => rfl
  | k + 1 => by simp only [wmTo]; rw [List.length_set]; exact wmTo_len ts as_ q k
theorem wmTo_snoc {ts as_ : List Int} {q a : Int} {k i : Nat} (h : as_[k]? = some a) (ha : a = (i : Int)) : wmTo ts as_ q (k + 1) = (wmTo ts as_ q k).set i ((wmTo ts as_ q k).getD i 0 + q) := by
  simp only [wmTo]; rw [getD_of h, ha, Int.toNat_natCast]
theorem wmTo_bnd {ts as_ : List Int} {q : Int} (hts : ∀ t ∈ ts, -300 ≤ t ∧ t ≤ 600) (q1 : -900 ≤ q) (q2 : q ≤ 900) : ∀ k i : Nat, -(600 + 900 * (k : Int)) ≤ (wmTo ts as_ q k).getD i 0 ∧ (wmTo ts as_ q k).getD i 0 ≤ 600 + 900 * k
  | 0, i => by
    simp only [wmTo, List.getD_eq_getElem?_getD]
    cases e : ts[i]? with
    | none => simp
    | some t => have := hts t (List.mem_of_getElem? e); simp; omega
  | k + 1, i => by
    have ih := wmTo_bnd (as_ := as_) hts q1 q2 k
    simp only [wmTo]
    have h1 := ih i
    have h2 := ih (as_.getD k 0).toNat
    rw [List.getD_eq_getElem?_getD (l := List.set _ _ _), List.getElem?_set]
    split
    · split
      · simp only [Option.getD_some]; omega
      · simp; omega
    · rw [← List.getD_eq_getElem?_getD]; omega
def wmR (J : Int) (xs : List Awy) (ts as_ : List Int) (q : Int) : List Int × Int :=
  if mineOk J xs = true then (if inB q (-900) 900 = true then (if (lstOk xs.length (-300) 600 ts && risesOk as_ 0 ((xs.length : Int) - 1)) = true then
    (if lstOk xs.length (-300) 600 (wmTo ts as_ q as_.length) = true then (wmTo ts as_ q as_.length, 0) else ([], 6)) else ([], 7)) else ([], 2)) else ([], 1)
section
variable {J : Int} {xs : List Awy} {ts as_ : List Int} {q : Int}
theorem wmR_1 (h : mineOk J xs = false) : wmR J xs ts as_ q = ([], 1) := by unfold wmR; rw [h]; rfl
theorem wmR_2 (h : mineOk J xs = true) (h1 : inB q (-900) 900 = false) : wmR J xs ts as_ q = ([], 2) := by unfold wmR; rw [h, h1]; rfl
theorem wmR_3 (h : mineOk J xs = true) (h1 : inB q (-900) 900 = true) (h2 : (lstOk xs.length (-300) 600 ts && risesOk as_ 0 ((xs.length : Int) - 1)) = false) : wmR J xs ts as_ q = ([], 7) := by unfold wmR; rw [h, h1, h2]; rfl
theorem wmR_4 (h : mineOk J xs = true) (h1 : inB q (-900) 900 = true) (h2 : (lstOk xs.length (-300) 600 ts && risesOk as_ 0 ((xs.length : Int) - 1)) = true) (h3 : lstOk xs.length (-300) 600 (wmTo ts as_ q as_.length) = false) : wmR J xs ts as_ q = ([], 6) := by unfold wmR; rw [h, h1, h2, h3]; rfl
theorem wmR_5 (h : mineOk J xs = true) (h1 : inB q (-900) 900 = true) (h2 : (lstOk xs.length (-300) 600 ts && risesOk as_ 0 ((xs.length : Int) - 1)) = true) (h3 : lstOk xs.length (-300) 600 (wmTo ts as_ q as_.length) = true) : wmR J xs ts as_ q = (wmTo ts as_ q as_.length, 0) := by unfold wmR; rw [h, h1, h2, h3]; rfl
end
/-- An owned row of numbers is a block. -/
theorem own_blk {w : World} {base e n c : Nat} {A : Option Addr} {xs : List Int} (h : w.ownsRow base e 1 (.slice A n c) n (ints xs)) (hn : 0 < n) :
    ∃ g cur, A = some ⟨g, 0, none⟩ ∧ base ≤ g ∧ Blk w g e cur ∧ n ≤ c ∧ c ≤ maxLen ∧ cur.size = c ∧ cur.toList.take n = ints xs := by
  rcases h.2 with ⟨_, h0⟩ | ⟨g, cap, cur, hv, hbg, hgb, hnc, hcm, hcs, htake⟩
  · omega
  · injection hv with hA _ hc
    subst hA
    subst hc
    exact ⟨g, cur, rfl, hbg, hgb, hnc, hcm, by omega, by simpa using htake⟩
theorem blk_own {w : World} {base g e n c : Nat} {cur : Array Value} {xs : List Int} (hb : Blk w g e cur) (hbg : base ≤ g) (hnc : n ≤ c) (hcm : c ≤ maxLen) (hcs : cur.size = c) (hl : xs.length = n) (ht : cur.toList.take n = ints xs) :
    w.ownsRow base e 1 (.slice (some ⟨g, 0, none⟩) n c) n (ints xs) := ⟨by simp [ints, hl], .inr ⟨g, c, cur, rfl, hbg, hb, hnc, hcm, by omega, by simpa using ht⟩⟩
theorem take_set_ints {cur : Array Value} {n j : Nat} {xs : List Int} {v : Int} (ht : cur.toList.take n = ints xs) : (cur.setIfInBounds j (.int .i64 v)).toList.take n = ints (xs.set j v) := by
  rw [Array.toList_setIfInBounds, List.take_set, ht]
  unfold ints
  rw [List.map_set]
theorem blk_int {w : World} {g e n j : Nat} {cur : Array Value} {xs : List Int} {v : Int} (hb : Blk w g e cur) (ht : cur.toList.take n = ints xs) (hl : xs.length = n) (hj : xs[j]? = some v) : w.cell? ⟨g, j, none⟩ = some (.int .i64 v) := by
  have hjl : j < n := by
    rcases Nat.lt_or_ge j n with h1 | h1
    · exact h1
    · rw [List.getElem?_eq_none (by omega)] at hj; cases hj
  have h1 : (cur.toList.take n)[j]? = (ints xs)[j]? := by rw [ht]
  rw [List.getElem?_take, if_pos hjl, Array.getElem?_toList] at h1
  rw [hb.cell j, h1]
  unfold ints
  rw [List.getElem?_map, hj]; rfl
set_option maxHeartbeats 400000 in
theorem l00Own_any (A : Option Addr) (n c : Nat) (xs : List Int) (w : World) (hr : Reads w w.heap.size 1 A n (ints xs)) (hn : n ≤ 1048576) :
    Calls Try.prog 78 #[.slice A n c] w fun e w' => ∃ A' c', e = .returned (.slice A' n c') ∧ w'.ownsRow w.heap.size 2 1 (.slice A' n c') n (ints xs) ∧ Below w.heap.size w w' := by
  obtain ⟨i0, hi0, hz0, hz1, hz2⟩ := info_parts info_Int64S
  have HL := Lib.hid (ints_len hr)
  have hrb := fun (o : Obj) => (hr.alloc (Nat.le_refl _) o)
  go_enter Try.func78, Try.ntmps78
  go_wp2_with (at_builtin; refine wpList_append_any _ rfl _ _ 25 rfl w.heap.size 2 i0 _ 1 8 Try.underlying25 hi0 hz0 hz1 hz2 rfl (by omega) _ 0 [] rfl (own_empty _ _ _) w.heap.size A n c (ints xs) rfl (hrb _) (ints_one xs) (by unfold maxLen; omega) (by omega) (by simp) ?_; intro v' w1 ho1 hg1 ha1)
  obtain ⟨A', c', rfl⟩ := own_shape ho1
  have hb1 : Below w.heap.size w w1 := ((Below.refl _ _).alloc (Nat.le_refl _) _).grown hg1 (by simp) fun k hk => ((own_empty w 2 1).lt k hk).1
  go_ret
  simp only [Nat.zero_add, List.nil_append] at ho1
  exact ⟨A', c', by simp, ho1, hb1⟩
end Go.Proofs.Ytjmhhbjbmgpagaa
