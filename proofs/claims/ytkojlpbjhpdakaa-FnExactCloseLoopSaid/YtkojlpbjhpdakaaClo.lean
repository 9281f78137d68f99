/- Contracts of a loop that is closed. -/
import Derived.Test.YtkojlpbjhpdakaaLst
namespace Go.Proofs.Ytkojlpbjhpdakaa
set_option linter.unusedVariables false
set_option linter.unusedSimpArgs false
open Go.RowKit
/-- What is left to share out ahead of place k of n. -/
def restAt (t : Int) (n : Nat) : Nat → Int
  | 0 => t
  | k + 1 => restAt t n k - (restAt t n k).tdiv ((n : Int) - (k : Int))
def cloP (t : Int) (n k : Nat) : Int := (restAt t n k).tdiv ((n : Int) - (k : Int))
def cloL (xs : List Int) : List Int := xs.zipIdx.map fun p => p.1 - cloP (sumI xs) xs.length p.2
theorem cloL_len (xs : List Int) : (cloL xs).length = xs.length := by simp [cloL]
theorem cloL_at {xs : List Int} {k : Nat} {x : Int} (h : xs[k]? = some x) : (cloL xs)[k]? = some (x - cloP (sumI xs) xs.length k) := by
  unfold cloL
  rw [List.getElem?_map, List.getElem?_zipIdx, h]; simp
theorem part_bnd {r m : Int} (hm : 1 ≤ m) : absI (r.tdiv m) ≤ absI r ∧ absI (r - r.tdiv m) ≤ absI r := by
  have e := Int.mul_tdiv_add_tmod r m
  have h1 := Int.natAbs_tdiv_le_natAbs r m
  unfold absI
  refine ⟨by omega, ?_⟩
  rcases Int.le_total 0 r with h0 | h0
  · have h2 := Int.tdiv_nonneg h0 (by omega : 0 ≤ m)
    omega
  · have h2 : r.tdiv m ≤ 0 := by
      have h3 := Int.tdiv_nonneg (show 0 ≤ -r by omega) (by omega : 0 ≤ m)
      rw [Int.neg_tdiv] at h3; omega
    omega
theorem rest_bnd {t M : Int} {n : Nat} (h : absI t ≤ M) : ∀ k : Nat, k ≤ n → absI (restAt t n k) ≤ M
  | 0, _ => h
  | k + 1, hk => by
    have h1 := rest_bnd (n := n) h k (by omega)
    have h2 := (part_bnd (r := restAt t n k) (m := (n : Int) - (k : Int)) (by omega)).2
    exact Int.le_trans h2 h1
def cloR (xs : List Int) : List Int × Int := if dropList xs = true then (cloL xs, 0) else ([], 2)
theorem cloR_y {xs : List Int} (h : dropList xs = true) : cloR xs = (cloL xs, 0) := by unfold cloR; rw [if_pos h]
theorem cloR_n {xs : List Int} (h : dropList xs = false) : cloR xs = ([], 2) := by unfold cloR; rw [h]; rfl
theorem drops_range {xs : List Int} (h : dropList xs = true) : ∀ x ∈ xs, -10000 ≤ x ∧ x ≤ 10000 := fun x hx => allIn_mem (dropList_t h).2 hx
theorem total_bnd {xs : List Int} (h : dropList xs = true) : absI (sumI xs) ≤ 640000 := by
  have h1 := sumI_bnd (M := 10000) (by omega) (drops_range h)
  have h2 := (dropList_t h).1
  unfold absI; omega
set_option maxHeartbeats 800000 in
theorem l05Drops_any (A : Option Addr) (n c : Nat) (xs : List Int) (w : World) (hr : Reads w w.heap.size 1 A n (ints xs)) (hn : n ≤ 1048576) :
    Calls Try.prog 57 #[.slice A n c] w fun e w' => e = .returned (.bool (dropList xs)) ∧ w = w' := by
  have HL := Lib.hid (ints_len hr)
  go_enter Try.func57, Try.ntmps57
  go_wp2
  go_loop [3] (fun i => ∃ k : Nat, k ≤ n ∧ i = .int .i64 k ∧ Hid ((xs.take k).all (fun x => inB x (-10000) 10000) = true)) (fun i => n - (intOf i).toNat)
  case atStart => exact ⟨0, by omega, rfl, rfl⟩
  case round =>
    obtain ⟨k, hk, rfl, HK⟩ := hrel
    by_cases hlt : k < n
    · obtain ⟨ad, u, rfl, had, hx, hc⟩ := hr.at_ hlt
      obtain ⟨b, hb, rfl⟩ := ints_at hx
      have HX := Lib.hid hb
      clear hb hx
      cases hp : inB b (-10000) 10000
      · have HP := Lib.hid hp
        go_wp2_with (go_at_call 50; refine (l00In_any _ _ _ _).mono ?_; rintro e w' ⟨rfl, rfl⟩)
        go_ret
        exact ⟨ret_bool (by unfold dropList allIn; rw [all_false (p := fun x => inB x (-10000) 10000) HX.out HP.out, Bool.and_false]), rfl⟩
      · have HP := Lib.hid hp
        go_wp2_with (go_at_call 50; refine (l00In_any _ _ _ _).mono ?_; rintro e w' ⟨rfl, rfl⟩)
        go_round
        case rel => exact ⟨k + 1, by omega, by go_num, all_take HX.out HK.out HP.out⟩
        case measure => simp [intOf]; omega
    · have e : k = n := by omega
      subst e
      have HA : Hid (allIn (-10000) 10000 xs = true) := all_whole HL.out HK.out
      have HR : Hid (dropList xs = decide (k ≤ 64)) := by show dropList xs = _; unfold dropList; rw [HA.out, HL.out, Bool.and_true]
      go_wp2
      go_ret
      exact ⟨ret_bool (by rw [HR.out]; exact Bool.eq_iff_iff.2 (by simp only [decide_eq_true_eq]; omega)), rfl⟩
theorem loopOk_any (A : Option Addr) (n c : Nat) (xs : List Int) (w : World) (hr : Reads w w.heap.size 1 A n (ints xs)) (hn : n ≤ 1048576) :
    Calls Try.prog 59 #[.slice A n c] w fun e w' => e = .returned (.bool (dropList xs)) ∧ Below w.heap.size w w' := by
  have HL := Lib.hid (ints_len hr)
  have HR : Hid (dropList xs = (decide (n ≤ 64) && allIn (-10000) 10000 xs)) := by show dropList xs = _; unfold dropList; rw [HL.out]
  by_cases h : n ≤ 64
  all_goals
    go_enter Try.func59, Try.ntmps59
    go_wp2_with (go_at_call 73; refine (allWithin_any A n c xs _ _ _ hr (by omega)).mono ?_; rintro e w1 ⟨rfl, hb1⟩)
    go_ret
    refine ⟨ret_bool ?_, by (repeat (first | exact Below.refl _ _ | assumption | (refine Below.alloc ?_ (by first | exact Nat.le_refl _ | (simp; done) | (simp; omega)) _) | (refine below_drewN ?_ _) | (refine Below.trans ?_ (Below.mono (by assumption) (by first | exact Nat.le_refl _ | (simp; done) | (simp; omega) | omega)))))⟩
    rw [HR.out]
    first
    | rw [decide_eq_true (show n ≤ 64 by omega), Bool.true_and]
    | rw [decide_eq_false (show ¬ n ≤ 64 by omega), Bool.false_and]
set_option maxHeartbeats 1600000 in
theorem specCloseLoop_any (A : Option Addr) (n c : Nat) (xs : List Int) (w : World) (hr : Reads w w.heap.size 1 A n (ints xs)) (hn : n ≤ 1048576) :
    Calls Try.prog 26 #[.slice A n c] w fun e w' => ∃ A' n' c', e = .returned (.tuple #[.slice A' n' c', .int .i64 (cloR xs).2]) ∧ w'.ownsRow w.heap.size 2 1 (.slice A' n' c') n' (ints (cloR xs).1) ∧ n' ≤ 1048576 ∧ Below w.heap.size w w' := by
  obtain ⟨i0, hi0, hz0, hz1, hz2⟩ := info_parts info_Int64S
  rcases Bool.eq_false_or_eq_true (dropList xs) with h | h
  · have HE := Lib.hid (cloR_y h)
    have HL := Lib.hid (ints_len hr)
    have hx0 := drops_range h
    have HD := Lib.hid hx0
    have hx : ∀ x ∈ xs, -1000000 ≤ x ∧ x ≤ 1000000 := fun x hx => by have := hx0 x hx; omega
    have HT := Lib.hid (total_bnd h)
    have hl := (dropList_t h).1
    rw [HL.out] at hl
    clear hx0
    go_enter Try.func26, Try.ntmps26
    go_wp2_with fail; ((with_reducible refine (l05Drops_any A n c xs _ hr hn).mono ?_); rintro e w' ⟨rfl, rfl⟩)
    go_wp2_with fail; ((with_reducible refine (l05Sum_any A n c xs _ hr hn hx).mono ?_); rintro e w' ⟨rfl, rfl⟩)
    clear hx
    go_wp2
    go_loopw [4, 5, 6] (fun r o i wr => ∃ (k : Nat) (A' : Option Addr) (c' : Nat), k ≤ n ∧ r = .int .i64 (restAt (sumI xs) n k) ∧ o = .slice A' k c' ∧ i = .int .i64 k ∧ wr.ownsRow w.heap.size 2 1 (.slice A' k c') k (ints ((cloL xs).take k)) ∧ Below w.heap.size w wr) (fun _ _ i _ => n - (intOf i).toNat)
    case atStart => exact ⟨0, _, 0, by omega, rfl, rfl, rfl, own_empty w _ _, (Below.refl _ _).alloc (Nat.le_refl _) _⟩
    case round =>
      obtain ⟨k, A', c', hk, rfl, rfl, rfl, hown, hbr⟩ := hrel
      by_cases hlt : k < n
      · obtain ⟨ad, u, rfl, had, hx, hc⟩ := (hr.below hbr).at_ hlt
        obtain ⟨b, hb, rfl⟩ := ints_at hx
        have hbb := HD.out b (mem_of_at hb)
        have hat := cloL_at hb
        rw [HL.out] at hat
        have HS := Lib.hid (take_snoc hat)
        have h0 := rest_bnd HT.out k (n := n) (by omega)
        have h1 := (part_bnd (r := restAt (sumI xs) n k) (m := (n : Int) - (k : Int)) (by omega))
        have hnk : (n : Int) - (k : Int) ≠ 0 := by omega
        have q1 : -640000 ≤ (restAt (sumI xs) n k).tdiv ((n : Int) - (k : Int)) := by have := h1.1; unfold absI at *; omega
        have q2 : (restAt (sumI xs) n k).tdiv ((n : Int) - (k : Int)) ≤ 640000 := by have := h1.1; unfold absI at *; omega
        have q3 : -640000 ≤ restAt (sumI xs) n k := by unfold absI at *; omega
        have q4 : restAt (sumI xs) n k ≤ 640000 := by unfold absI at *; omega
        clear hb hx hat h0 h1
        go_wp2_with (at_builtin; (refine wpList_app _ rfl _ _ 28 rfl w.heap.size 2 i0 _ 1 8 Try.underlying28 hi0 hz0 hz1 hz2 rfl (by omega) A' _ c' _ rfl ((hown).alloc _) ⟨_, 0, none⟩ 1 1 [.int .i64 (b - cloP (sumI xs) n k)] rfl rfl (cell_one_new _ _ _) (by simp [Value.oneCell']) (by unfold maxLen; omega) (by omega) (by have hz := (hbr).size; simp at hz ⊢; omega) ?_); intro A1 c1 w2 ho2 hb2)
        go_roundw
        case rel =>
          refine ⟨k + 1, A1, c1, by omega, rfl, by first | rfl | go_num, by go_num, ?_, (hbr.alloc hbr.size _).trans hb2⟩
          rw [HS.out]; simpa [ints] using ho2
        case measure => simp [intOf]; omega
      · have e : k = n := by omega
        have HT2 : Hid ((cloL xs).take k = cloL xs) := List.take_of_length_le (by rw [cloL_len, HL.out]; omega)
        rw [HT2.out] at hown
        subst e
        go_wp2
        go_ret2
        rw [HE.out]
        exact ⟨A', k, c', rfl, hown, hn, hbr⟩
  · have HE := Lib.hid (cloR_n h)
    go_enter Try.func26, Try.ntmps26
    go_wp2_with fail; ((with_reducible refine (l05Drops_any A n c xs _ hr hn).mono ?_); rintro e w' ⟨rfl, rfl⟩)
    go_wp2
    go_ret2
    rw [HE.out]
    exact ⟨none, 0, 0, rfl, own_nil _ _ _ _, by omega, Below.refl _ _⟩
set_option maxHeartbeats 1600000 in
theorem implCloseLoop_any (A : Option Addr) (n c : Nat) (xs : List Int) (w : World) (hr : Reads w w.heap.size 1 A n (ints xs)) (hn : n ≤ 1048576) :
    Calls Try.prog 27 #[.slice A n c] w fun e w' => ∃ A' n' c', e = .returned (.tuple #[.slice A' n' c', .int .i64 (cloR xs).2]) ∧ w'.ownsRow w.heap.size 2 1 (.slice A' n' c') n' (ints (cloR xs).1) ∧ n' ≤ 1048576 ∧ Below w.heap.size w w' := by
  rcases Bool.eq_false_or_eq_true (dropList xs) with h | h
  · have HE := Lib.hid (cloR_y h)
    have HL := Lib.hid (ints_len hr)
    have hx0 := drops_range h
    have HD := Lib.hid hx0
    have hx : ∀ x ∈ xs, -1000000 ≤ x ∧ x ≤ 1000000 := fun x hx => by have := hx0 x hx; omega
    have HT := Lib.hid (total_bnd h)
    have hl := (dropList_t h).1
    rw [HL.out] at hl
    clear hx0
    go_enter Try.func27, Try.ntmps27
    go_wp2_with fail; ((with_reducible refine (loopOk_any A n c xs _ hr hn).mono ?_); rintro e w1 ⟨rfl, hb1⟩)
    go_wp2_with fail; ((with_reducible refine (clone_any A n c xs _ ((hr.below hb1).more hb1.size) hn).mono ?_); rintro e w2 ⟨A', c', rfl, ho, hb2⟩)
    have B2 := hb1.trans (hb2.mono hb1.size)
    go_wp2_with fail; ((with_reducible refine (sumOf_any A n c xs _ ((hr.below B2).more B2.size) hn hx).mono ?_); rintro e w' ⟨rfl, rfl⟩)
    clear hx
    have ho2 := own_base ho hb1.size
    clear ho
    go_wp2
    rcases Nat.eq_zero_or_pos n with h0 | hpos
    · subst h0
      have hx : xs = [] := List.eq_nil_of_length_eq_zero HL.out
      subst hx
      go_loop [5, 17] (fun r i => r = .int .i64 0 ∧ i = .int .i64 0) (fun _ _ => 0)
      case atStart => exact ⟨rfl, rfl⟩
      case round =>
        obtain ⟨rfl, rfl⟩ := hrel
        go_wp2
        go_ret2
        rw [HE.out]
        exact ⟨A', 0, c', rfl, ho2, by omega, B2⟩
    · rcases ho2.2 with ⟨_, h0⟩ | ⟨g, cap, cur, hv, hbg, hgb, hnc, hcm, hcs, htake⟩
      · omega
      injection hv with hA _ hc
      subst hA
      subst hc
      have hBlk : Blk w2 g 2 cur := hgb
      have hcs' := Lib.hid hcs
      have HX0 : Hid (∀ j, j < n → cur[j]? = (ints xs)[j]?) := fun j hj => by
        rw [← htake, List.getElem?_take, if_pos (by omega), Array.getElem?_toList]
      clear hcs htake hgb
      have hgl := hBlk.lt
      go_loopw [5, 17] (fun r i wr => ∃ (k : Nat) (cu : Array Value), k ≤ n ∧ r = .int .i64 (restAt (sumI xs) n k) ∧ i = .int .i64 k ∧ Blk wr g 2 cu ∧
        Hid (cu.size = cur.size ∧ (∀ l, l < k → cu[l]? = (ints (cloL xs))[l]?) ∧ ∀ l, k ≤ l → l < n → cu[l]? = (ints xs)[l]?) ∧ Below w.heap.size w wr) (fun _ i _ => n - (intOf i).toNat)
      case atStart => exact ⟨0, cur, by omega, rfl, rfl, hBlk, ⟨rfl, fun j hj => absurd hj (Nat.not_lt_zero _), fun l _ hl => HX0.out l hl⟩, B2⟩
      case round =>
        obtain ⟨k, cu, hk, rfl, rfl, hbk, HC, hbr⟩ := hrel
        by_cases hlt : k < n
        · have hxk : xs[k]? = some (xs[k]'(by rw [HL.out]; exact hlt)) := List.getElem?_eq_getElem _
          generalize (xs[k]'(by rw [HL.out]; exact hlt)) = b at hxk
          have hbb := HD.out b (mem_of_at hxk)
          have hat := cloL_at hxk
          rw [HL.out] at hat
          have HS := Lib.hid hat
          have hcur : k < cu.size := by rw [HC.out.1, hcs'.out]; omega
          have hcell : wr.cell? ⟨g, k, none⟩ = some (.int .i64 b) := by
            rw [hbk.cell k, HC.out.2.2 k (Nat.le_refl _) hlt]
            unfold ints
            rw [List.getElem?_map, hxk]; rfl
          have hfz := hbk.frozen k
          have h0 := rest_bnd HT.out k (n := n) (by omega)
          have h1 := (part_bnd (r := restAt (sumI xs) n k) (m := (n : Int) - (k : Int)) (by omega))
          have hnk : (n : Int) - (k : Int) ≠ 0 := by omega
          have q1 : -640000 ≤ (restAt (sumI xs) n k).tdiv ((n : Int) - (k : Int)) := by have := h1.1; unfold absI at *; omega
          have q2 : (restAt (sumI xs) n k).tdiv ((n : Int) - (k : Int)) ≤ 640000 := by have := h1.1; unfold absI at *; omega
          have q3 : -640000 ≤ restAt (sumI xs) n k := by unfold absI at *; omega
          have q4 : restAt (sumI xs) n k ≤ 640000 := by unfold absI at *; omega
          clear hxk hat h0 h1
          go_wp2
          go_roundw
          case rel =>
            refine ⟨k + 1, _, by omega, by first | rfl | go_num, by go_num, hbk.set_ k _, ⟨by simpa using HC.out.1, fun l hl => ?_, fun l hl1 hl2 => ?_⟩, hbr.setCell hbg _⟩
            · rw [Array.getElem?_setIfInBounds]
              by_cases hkl : k = l
              · subst hkl
                rw [if_pos rfl, if_pos hcur]
                unfold ints
                rw [List.getElem?_map, HS.out]; rfl
              · rw [if_neg hkl]; exact HC.out.2.1 l (by omega)
            · rw [Array.getElem?_setIfInBounds, if_neg (by omega)]
              exact HC.out.2.2 l (by omega) hl2
          case measure => simp [intOf]; omega
        · have e : k = n := by omega
          subst e
          go_wp2
          go_ret2
          rw [HE.out]
          refine ⟨_, k, _, rfl, ⟨by simp [ints, cloL_len, HL.out], .inr ⟨g, _, cu, rfl, hbg, hbk, hnc, hcm, by rw [HC.out.1]; exact hcs'.out, ?_⟩⟩, hn, hbr⟩
          apply List.ext_getElem?
          intro l
          rw [List.getElem?_take]
          by_cases hl : l < k
          · rw [if_pos (by omega), Array.getElem?_toList, HC.out.2.1 l hl]
          · rw [if_neg (by omega), List.getElem?_eq_none (by simp [ints, cloL_len, HL.out]; omega)]
  · have HE := Lib.hid (cloR_n h)
    go_enter Try.func27, Try.ntmps27
    go_wp2_with fail; ((with_reducible refine (loopOk_any A n c xs _ hr hn).mono ?_); rintro e w1 ⟨rfl, hb1⟩)
    go_wp2
    go_ret2
    rw [HE.out]
    exact ⟨none, 0, 0, rfl, own_nil _ _ _ _, by omega, hb1⟩
end Go.Proofs.Ytkojlpbjhpdakaa
