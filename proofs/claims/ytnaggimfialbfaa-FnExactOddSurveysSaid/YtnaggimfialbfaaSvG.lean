/- Contracts of the surveys that agree: a list with some numbers struck out, the largest agreement. -/
import Derived.Test.YtnaggimfialbfaaSvC
namespace Go.Proofs.Ytnaggimfialbfaa
set_option linter.unusedVariables false
set_option linter.unusedSimpArgs false
open Go.RowKit
theorem blk_setCells {g : Nat} {t : TypeId} : ∀ (vs : List Value) (o : Nat) {w : World} {cs : Array Value}, Blk w g t cs → ∃ cs', Blk (w.setCells g o vs) g t cs' ∧ cs'.size = cs.size ∧ ∀ l, l < o → cs'[l]? = cs[l]?
  | [], o, w, cs, h => ⟨cs, h, rfl, fun _ _ => rfl⟩
  | v :: r, o, w, cs, h => by
    obtain ⟨cs', h1, h2, h3⟩ := blk_setCells r (o + 1) (h.set_ o v)
    refine ⟨cs', h1, by rw [h2]; simp, fun l hl => ?_⟩
    rw [h3 l (by omega), Array.getElem?_setIfInBounds, if_neg (by omega)]
theorem only_setCells {g : Nat} : ∀ (vs : List Value) (o : Nat) {a w : World}, a.grownBy w (some g) → a.grownBy (w.setCells g o vs) (some g)
  | [], _, _, _, h => h
  | v :: r, o, a, w, h => only_setCells r (o + 1) (only_setCell h (.inl rfl) v)
def outL (p : Int → Bool) (xs : List Int) : List Int := xs.filter fun x => !p x
theorem out_y {p : Int → Bool} {xs : List Int} {k : Nat} {x : Int} (h : xs[k]? = some x) (hp : p x = false) : outL p (xs.take (k + 1)) = outL p (xs.take k) ++ [x] := by
  rw [take_snoc h]; simp [outL, hp]
theorem out_n {p : Int → Bool} {xs : List Int} {k : Nat} {x : Int} (h : xs[k]? = some x) (hp : p x = true) : outL p (xs.take (k + 1)) = outL p (xs.take k) := by
  rw [take_snoc h]; simp [outL, hp]
theorem out_all {p : Int → Bool} {xs : List Int} (h : xs.any p = false) : outL p xs = xs := by
  unfold outL
  rw [List.filter_eq_self]
  intro x hx
  rw [List.any_eq_false] at h
  simpa using h x hx
theorem out_len (p : Int → Bool) (xs : List Int) : (outL p xs).length ≤ xs.length := List.length_filter_le _ _
theorem ints_ext {ys : List Int} {n : Nat} {cs : Array Value} (hl : ys.length = n) (h : ∀ l, l < n → cs[l]? = (ints ys)[l]?) : cs.toList.take n = ints ys := by
  apply List.ext_getElem?
  intro l
  rw [List.getElem?_take]
  by_cases hln : l < n
  · rw [if_pos hln, Array.getElem?_toList, h l hln]
  · rw [if_neg hln, List.getElem?_eq_none (by simp [ints]; omega)]
/-- Where the first number stands that is to be struck out. -/
theorem idx_cases (p : Int → Bool) (xs : List Int) : (idxI p xs = -1 ∧ xs.any p = false) ∨ ∃ (k : Nat) (x : Int), idxI p xs = k ∧ xs[k]? = some x ∧ p x = true ∧ (xs.take k).any p = false := by
  unfold idxI
  cases e : xs.findIdx? p with
  | none =>
    refine .inl ⟨rfl, ?_⟩
    rw [List.findIdx?_eq_none_iff] at e
    rw [List.any_eq_false]; intro x hx; rw [e x hx]; exact Bool.false_ne_true
  | some k =>
    rw [List.findIdx?_eq_some_iff_getElem] at e
    obtain ⟨hk, hp, hj⟩ := e
    refine .inr ⟨k, xs[k], rfl, List.getElem?_eq_getElem hk, hp, ?_⟩
    rw [List.any_eq_false]
    intro x hx
    obtain ⟨j, hj1, rfl⟩ := List.mem_take_iff_getElem.1 hx
    have := hj j (by omega)
    simpa using this
theorem zero_Int64 (w : World) : (zeroValue 2).run Try.prog w = .ok (.int .i64 0) w := by kernel_rfl
set_option maxHeartbeats 3200000 in
set_option maxRecDepth 100000 in
theorem deleteFunc_any (A : Option Addr) (n c : Nat) (xs : List Int) (g : Nat) (cb : Array Value) (p : Int → Bool) (base : Nat) (w : World) (eg : ∀ args W, (callFunc g args).run Try.prog W = .ok (.enter g args) W)
    (hown : w.ownsRow base 2 1 (.slice A n c) n (ints xs)) (hn : n ≤ 1048576)
    (hf : ∀ (W : World) (x : Int), w.grownBy W (Value.ownBlock (.slice A n c)) → x ∈ xs → Calls Try.prog g (#[.int .i64 x] ++ cb) W fun e w' => e = .returned (.bool (p x)) ∧ Below W.heap.size W w') :
    Calls Try.prog 91 #[.slice A n c, .func (.func g) #[] cb] w fun e w' => ∃ A' n' c', e = .returned (.slice A' n' c') ∧ w'.ownsRow base 2 1 (.slice A' n' c') n' (ints (outL p xs)) ∧ n' ≤ n ∧ w.grownBy w' (Value.ownBlock (.slice A n c)) := by
  have HL := Lib.hid (ints_len (Reads.of_own hown))
  have ci := indexFunc_any A n c xs g cb p w eg (Reads.of_own hown) (by omega) fun W x hb hx => hf W x (only_of_below hb _) hx
  have HF := Lib.hid hf
  clear hf
  rcases idx_cases p xs with ⟨hi, ha⟩ | ⟨i, y, hi, hy, hpy, ha⟩
  · rw [hi] at ci
    have HA := Lib.hid (out_all ha)
    clear hi ha
    go_enter Try.func91, Try.ntmps91
    go_wp2_with fail; ((with_reducible refine ci.mono ?_); rintro e w1 ⟨rfl, hb1⟩)
    go_wp2
    go_ret
    exact ⟨A, n, c, rfl, by rw [HA.out]; exact own_below hown hb1, Nat.le_refl _, only_of_below hb1 _⟩
  · rw [hi] at ci
    have hin : i < n := by
      rcases Nat.lt_or_ge i xs.length with h | h
      · have := HL.out; omega
      · rw [List.getElem?_eq_none h] at hy; cases hy
    rcases hown.2 with ⟨h0, _⟩ | ⟨b, cap, cur, hv, hbg, hgb, hnc, hcm, hcs, htake⟩
    · injection h0 with _ h0; omega
    injection hv with hA _ hc
    subst hA
    subst hc
    have hBlk : Blk w b 2 cur := hgb
    have HC : Hid (cur.size = c ∧ ∀ l, l < n → cur[l]? = (ints xs)[l]?) := by
      refine ⟨by simpa using hcs, fun l hl => ?_⟩
      rw [← htake, List.getElem?_take, if_pos (by simpa using hl), Array.getElem?_toList]
    have H0 : Hid (outL p (xs.take (i + 1)) = xs.take i) := show _ = _ by rw [out_n hy hpy, out_all ha]
    have HI : Hid (i ≤ xs.length) := show i ≤ xs.length by have := HL.out; omega
    clear hi ha hy hpy htake hcs hgb
    have hgl := hBlk.lt
    have hne : ((i : Int) == -1) = false := beq_eq_false_iff_ne.2 (by omega)
    go_enter Try.func91, Try.ntmps91
    go_wp2_with fail; ((with_reducible refine ci.mono ?_); rintro e w1 ⟨rfl, hb1⟩)
    go_wp2
    go_loopw [5, 6] (fun a j wr => ∃ (m k : Nat) (cu : Array Value), m < k ∧ k ≤ n ∧ a = .int .i64 m ∧ j = .int .i64 k ∧ Blk wr b 2 cu ∧ Hid (cu.size = c ∧ (outL p (xs.take k)).length = m ∧ (∀ l, l < m → cu[l]? = (ints (outL p (xs.take k)))[l]?) ∧ ∀ l, k ≤ l → l < n → cu[l]? = (ints xs)[l]?) ∧ w.grownBy wr (some b)) (fun _ j _ => n - (intOf j).toNat)
    case atStart =>
      refine ⟨i, i + 1, cur, by omega, by omega, rfl, by go_num, hBlk.below hb1 hgl, ⟨HC.out.1, ?_, ?_, fun l _ h2 => HC.out.2 l h2⟩, only_of_below hb1 _⟩
      · rw [H0.out, List.length_take, Nat.min_eq_left HI.out]
      · intro l hl
        rw [HC.out.2 l (by omega), H0.out]
        unfold ints
        rw [List.map_take, List.getElem?_take, if_pos hl]
    case round =>
      obtain ⟨m, k, cu, hmk, hk, rfl, rfl, hbk, HI2, hgr⟩ := hrel
      have hgw := hbk.lt
      by_cases hlt : k < n
      · obtain ⟨x, hx⟩ : ∃ x, xs[k]? = some x := ⟨xs[k]'(by have := HL.out; omega), List.getElem?_eq_getElem _⟩
        have hcell : wr.cell? ⟨b, k, none⟩ = some (.int .i64 x) := by
          rw [hbk.cell k, HI2.out.2.2.2 k (Nat.le_refl _) hlt]
          unfold ints; rw [List.getElem?_map, hx]; rfl
        have hcall := HF.out wr x hgr (mem_of_at hx)
        have HX := Lib.hid hx
        clear hx
        have hkc : k < cu.size := by have := HI2.out.1; omega
        cases hp : p x <;> rw [hp] at hcall
        · have HO := Lib.hid (out_y HX.out hp)
          clear hp
          go_wp2_with (go_at_fn g; refine hcall.mono ?_; rintro e w2 ⟨rfl, hb2⟩; have hbk2 := hbk.below hb2 hgw; have hold : w2.cell? ⟨b, m, none⟩ = some (cu[m]'(by omega)) := (hbk2.cell m).trans (Array.getElem?_eq_getElem (by omega)); have hfz := hbk2.frozen m)
          go_roundw
          case rel =>
            refine ⟨m + 1, k + 1, _, by omega, by omega, by go_num, by go_num, hbk2.set_ m _, ⟨by simpa using HI2.out.1, ?_, ?_, ?_⟩, only_setCell (grown_below hgr hb2) (.inl rfl) _⟩
            · rw [HO.out, List.length_append, HI2.out.2.1]; rfl
            · intro l hl
              rw [HO.out, Array.getElem?_setIfInBounds]
              unfold ints
              rw [List.map_append]
              by_cases hlm : m = l
              · subst hlm
                rw [if_pos rfl, if_pos (by omega), List.getElem?_append_right (by rw [List.length_map, HI2.out.2.1]; omega), List.length_map, HI2.out.2.1]; simp
              · rw [if_neg hlm, HI2.out.2.2.1 l (by omega), List.getElem?_append_left (by rw [List.length_map, HI2.out.2.1]; omega)]; rfl
            · intro l h1 h2
              rw [Array.getElem?_setIfInBounds, if_neg (by omega)]
              exact HI2.out.2.2.2 l (by omega) h2
          case measure => simp [intOf]; omega
        · have HO := Lib.hid (out_n HX.out hp)
          clear hp
          go_wp2_with (go_at_fn g; refine hcall.mono ?_; rintro e w2 ⟨rfl, hb2⟩)
          go_roundw
          case rel =>
            exact ⟨m, k + 1, cu, by omega, by omega, rfl, by go_num, hbk.below hb2 hgw, ⟨HI2.out.1, by rw [HO.out]; exact HI2.out.2.1, by rw [HO.out]; exact HI2.out.2.2.1, fun l h1 h2 => HI2.out.2.2.2 l (by omega) h2⟩, grown_below hgr hb2⟩
          case measure => simp [intOf]; omega
      · have e : k = n := by omega
        subst e
        have hclr := Lib.run_clear_slice (P := Try.prog) wr 41 2 0 (.int .i64 0) Try.underlying41 zero_Int64 rfl rfl b m (k - m) (c - m) (by omega) (fun j hj => by rw [hbk.cell, Array.getElem?_eq_getElem (by have := HI2.out.1; omega)]; rfl) (fun j _ => hbk.frozen _)
        obtain ⟨cs', k1, k2, k3⟩ := blk_setCells (List.replicate (k - m) (.int .i64 0)) m hbk
        have HW := Lib.hid (⟨k1, k2, k3⟩ : _ ∧ _ ∧ _)
        clear k1 k2 k3
        go_wp2
        go_ret
        have HT : outL p (xs.take k) = outL p xs := by rw [List.take_of_length_le (by have := HL.out; omega)]
        obtain ⟨q1, q2, q3, q4⟩ := HI2.out
        rw [HT] at q2 q3
        refine ⟨some ⟨b, 0, none⟩, m, c, rfl, ⟨by simp [ints, q2], .inr ⟨b, c, cs', rfl, hbg, HW.out.1, by omega, hcm, by rw [HW.out.2.1, q1]; omega, ?_⟩⟩, by omega, only_setCells _ _ hgr⟩
        rw [Nat.mul_one]
        exact ints_ext q2 fun l hl => (HW.out.2.2 l hl).trans (q3 l hl)
def agr (xs : List Svy) (is : List Int) (v : Int) : List Int := is.filter fun i => inB v (lowOf (svAt xs i)) (highOf (svAt xs i))
theorem agr_y {xs : List Svy} {is : List Int} {v i : Int} {k : Nat} (h : is[k]? = some i) (hp : inB v (lowOf (svAt xs i)) (highOf (svAt xs i)) = true) : agr xs (is.take (k + 1)) v = agr xs (is.take k) v ++ [i] := by
  rw [take_snoc h]; simp [agr, hp]
theorem agr_n {xs : List Svy} {is : List Int} {v i : Int} {k : Nat} (h : is[k]? = some i) (hp : inB v (lowOf (svAt xs i)) (highOf (svAt xs i)) = false) : agr xs (is.take (k + 1)) v = agr xs (is.take k) v := by
  rw [take_snoc h]; simp [agr, hp]
theorem agr_out (xs : List Svy) (is : List Int) (v : Int) : outL (fun i => !inB v (lowOf (svAt xs i)) (highOf (svAt xs i))) is = agr xs is v := by
  unfold outL agr; simp
theorem agr_len (xs : List Svy) (is : List Int) (v : Int) : (agr xs is v).length ≤ is.length := List.length_filter_le _ _
def lgAt (xs : List Svy) (is : List Int) : Nat → List Int
  | 0 => []
  | k + 1 => if (lgAt xs is k).length < (agr xs is (lowOf (svAt xs (is.getD k 0)))).length then agr xs is (lowOf (svAt xs (is.getD k 0))) else lgAt xs is k
theorem lgAt_y {xs : List Svy} {is : List Int} {k : Nat} {i : Int} {x : Svy} (h : is[k]? = some i) (hx : svAt xs i = x) (hl : (lgAt xs is k).length < (agr xs is (lowOf x)).length) : lgAt xs is (k + 1) = agr xs is (lowOf x) := by
  have e : is.getD k 0 = i := by rw [List.getD_eq_getElem?_getD, h]; rfl
  simp only [lgAt, e, hx, if_pos hl]
theorem lgAt_n {xs : List Svy} {is : List Int} {k : Nat} {i : Int} {x : Svy} (h : is[k]? = some i) (hx : svAt xs i = x) (hl : ¬ (lgAt xs is k).length < (agr xs is (lowOf x)).length) : lgAt xs is (k + 1) = lgAt xs is k := by
  have e : is.getD k 0 = i := by rw [List.getD_eq_getElem?_getD, h]; rfl
  simp only [lgAt, e, hx, if_neg hl]
theorem lgAt_len (xs : List Svy) (is : List Int) : ∀ k, (lgAt xs is k).length ≤ is.length
  | 0 => by simp [lgAt]
  | k + 1 => by
    simp only [lgAt]
    split
    · exact agr_len _ _ _
    · exact lgAt_len xs is k
def lgL (xs : List Svy) (s : ByteArray) : List Int := lgAt xs (svOf xs s) (svOf xs s).length
theorem low_high {x : Svy} (h : svyOk x = true) : lowOf x ≤ highOf x := by
  obtain ⟨b1, b2, b3, b4, b5, b6, b7, b8, _⟩ := svyOk_t h
  have e1 : (x.f - x.g) * (x.f - x.g) ≤ (x.f + x.g) * (x.f + x.g) := Int.mul_le_mul (by omega) (by omega) (by omega) (by omega)
  have q := (sq_bnd (m := x.f - x.g) (M := 100000) (by omega) (by omega)).1
  unfold lowOf highOf
  generalize (x.f - x.g) * (x.f - x.g) = S at *
  generalize (x.f + x.g) * (x.f + x.g) = T at *
  have h1 : max (x.d - x.e) 0 * 10000000000 ≤ (x.d + x.e) * 10000000000 := by omega
  have h0 : 0 ≤ max (x.d - x.e) 0 * 10000000000 := by omega
  generalize max (x.d - x.e) 0 * 10000000000 = U at *
  generalize (x.d + x.e) * 10000000000 = V at *
  have h2 : U / T ≤ (V + S - 1) / S := by
    have a1 : U / T * S ≤ U := by
      have c1 := Int.ediv_nonneg h0 (by omega : 0 ≤ T)
      have c2 : U / T * S ≤ U / T * T := Int.mul_le_mul_of_nonneg_left e1 c1
      have c3 := Int.ediv_mul_le U (by omega : T ≠ 0)
      omega
    exact Int.le_ediv_of_mul_le (by omega) (by omega)
  unfold asR; omega
theorem lgAt_pos {xs : List Svy} {is : List Int} (hok : ∀ x ∈ xs, svyOk x = true) (hi : ∀ i ∈ is, ∃ (j : Nat) (x : Svy), i = j ∧ xs[j]? = some x) (h : 1 ≤ is.length) : ∀ k, 1 ≤ k → 1 ≤ (lgAt xs is k).length
  | 0, h0 => by omega
  | 1, _ => by
    have hm : is[0]? = some (is[0]'(by omega)) := List.getElem?_eq_getElem (by omega)
    obtain ⟨j, x, e1, hx⟩ := hi _ (mem_of_at hm)
    have hsv : svAt xs (is[0]'(by omega)) = x := by rw [e1]; exact svAt_eq hx
    have hin : is[0]'(by omega) ∈ agr xs is (lowOf x) := by
      unfold agr
      rw [List.mem_filter]
      refine ⟨mem_of_at hm, ?_⟩
      rw [hsv]
      exact decide_eq_true ⟨Int.le_refl _, low_high (hok x (mem_of_at hx))⟩
    have hp := List.length_pos_of_mem hin
    rw [lgAt_y hm hsv (by simp only [lgAt, List.length_nil]; exact hp)]
    exact hp
  | k + 2, _ => by
    have ih := lgAt_pos hok hi h (k + 1) (by omega)
    show 1 ≤ (if (lgAt xs is (k + 1)).length < (agr xs is (lowOf (svAt xs (is.getD (k + 1) 0)))).length then agr xs is (lowOf (svAt xs (is.getD (k + 1) 0))) else lgAt xs is (k + 1)).length
    split
    · omega
    · exact ih
theorem lg_zero {xs : List Svy} {s : ByteArray} (h : svysOk xs = true) : (lgL xs s).length = 0 ↔ (svOf xs s).length = 0 := by
  unfold lgL
  constructor
  · intro h1
    rcases Nat.eq_zero_or_pos (svOf xs s).length with h2 | h2
    · exact h2
    · have := lgAt_pos (svysOk_t h).1 (fun i hi => svOf_mem (s := s) hi) h2 _ h2
      omega
  · intro h1
    rw [h1]; rfl
def laR (xs : List Svy) (s : ByteArray) : List Int × Int := if svysOk xs = true then (if (svOf xs s).length = 0 then ([], 3) else (lgL xs s, 0)) else ([], 1)
theorem laR_1 {xs : List Svy} {s : ByteArray} (h : svysOk xs = false) : laR xs s = ([], 1) := by unfold laR; rw [h]; rfl
theorem laR_2 {xs : List Svy} {s : ByteArray} (h : svysOk xs = true) (h0 : (svOf xs s).length = 0) : laR xs s = ([], 3) := by unfold laR; rw [if_pos h, if_pos h0]
theorem laR_3 {xs : List Svy} {s : ByteArray} (h : svysOk xs = true) (h0 : (svOf xs s).length ≠ 0) : laR xs s = (lgL xs s, 0) := by unfold laR; rw [if_pos h, if_neg h0]
theorem l05Bounds_b (x : Svy) (p : Addr) (w : World) (hok : svyOk x = true) (hc : Cells w p x.cells) :
    Calls Try.prog 83 #[.pointer (some p)] w fun e w' => e = .returned (.tuple #[.int .i64 (lowOf x), .int .i64 (highOf x)]) ∧ Below w.heap.size w w' :=
  (l05Bounds_any x p w hok hc).mono fun _ _ ⟨h, n, hw⟩ => ⟨h, hw ▸ below_drewN (Below.refl _ _) n⟩
set_option maxHeartbeats 3200000 in
set_option maxRecDepth 100000 in
theorem l05Largest_any (A : Option Addr) (n c : Nat) (xs : List Svy) (s : ByteArray) (w : World) (hr : Reads w w.heap.size 5 A n (Svy.recs xs)) (hn : n ≤ 1048576) (hok : ∀ x ∈ xs, svyOk x = true) :
    Calls Try.prog 68 #[.slice A n c, .string s] w fun e w' => ∃ A' n' c', e = .returned (.slice A' n' c') ∧ w'.ownsRow w.heap.size 2 1 (.slice A' n' c') n' (ints (lgL xs s)) ∧ n' ≤ n ∧ Below w.heap.size w w' := by
  obtain ⟨i0, hi0, hz0, hz1, hz2⟩ := info_parts info_Int64S
  have HO := Lib.hid hok
  clear hok
  go_enter Try.func68, Try.ntmps68
  go_wp2_with fail; ((with_reducible refine (l05Of_any A n c xs s _ hr hn).mono ?_); rintro e w1 ⟨A1, n1, c1, rfl, ho1, hn1, hb1⟩)
  have hz1' := hb1.size
  have hs1 := Reads.of_own ho1
  have HL := Lib.hid (ints_len hs1)
  have HI : Hid (∀ i ∈ svOf xs s, ∃ (j : Nat) (x : Svy), i = j ∧ xs[j]? = some x) := fun i hi => svOf_mem hi
  go_wp2
  go_loopw [6, 7] (fun o i wr => ∃ (k m : Nat) (A' : Option Addr) (c' : Nat), k ≤ n1 ∧ m ≤ n1 ∧ o = .slice A' m c' ∧ i = .int .i64 k ∧ wr.ownsRow w.heap.size 2 1 (.slice A' m c') m (ints (lgAt xs (svOf xs s) k)) ∧ Below w1.heap.size w1 wr) (fun _ i _ => n1 - (intOf i).toNat)
  case atStart => exact ⟨0, 0, _, 0, by omega, by omega, rfl, rfl, own_base (own_empty _ _ _) hz1', by (repeat (first | exact Below.refl _ _ | assumption | (refine Below.alloc ?_ (by first | exact Nat.le_refl _ | (simp; done) | (simp; omega)) _) | (refine below_drewN ?_ _) | (refine Below.trans ?_ (Below.mono (by assumption) (by first | exact Nat.le_refl _ | (simp; done) | (simp; omega) | omega)))))⟩
  case round =>
    obtain ⟨k, m, A', c', hk, hm, rfl, rfl, hown, hbr⟩ := hrel
    obtain ⟨wo, rfl⟩ : ∃ wo : World, wo = wr := ⟨_, rfl⟩
    have B2 := hb1.trans (hbr.mono hz1')
    have hz2' := hbr.size
    by_cases hlt : k < n1
    · obtain ⟨sd, ad, j, x, rfl, rfl, hj, hik, hck, hxj, hsv, hc⟩ := open_at ((hr.below B2).more hz1') (hs1.below hbr) HI.out hlt
      have cc := l05Bounds_b x (ad.add (j * 5)) wo (HO.out x (mem_of_at hxj)) hc
      have HX := Lib.hid (And.intro hik hsv)
      have lb := low_bnd x
      clear hik hxj hsv hc
      go_wp2_with fail; ((with_reducible refine cc.mono ?_); rintro e w3 ⟨rfl, hb3⟩)
      clear cc
      have hz3 := hb3.size
      have B3 := hbr.trans (hb3.mono hz2')
      have own3 := own_below hown hb3
      go_wp2
      go_loopw [10, 11] (fun o i wr => ∃ (q r : Nat) (A3 : Option Addr) (c3 : Nat), q ≤ n1 ∧ r ≤ q ∧ o = .slice A3 r c3 ∧ i = .int .i64 q ∧ wr.ownsRow w3.heap.size 2 1 (.slice A3 r c3) r (ints (agr xs ((svOf xs s).take q) (lowOf x))) ∧ Below w3.heap.size w3 wr) (fun _ i _ => n1 - (intOf i).toNat)
      case atStart => exact ⟨0, 0, _, 0, by omega, by omega, rfl, rfl, own_empty _ _ _, by (repeat (first | exact Below.refl _ _ | assumption | (refine Below.alloc ?_ (by first | exact Nat.le_refl _ | (simp; done) | (simp; omega)) _) | (refine below_drewN ?_ _) | (refine Below.trans ?_ (Below.mono (by assumption) (by first | exact Nat.le_refl _ | (simp; done) | (simp; omega) | omega)))))⟩
      case round =>
        obtain ⟨q, r, A3, c3, hq, hrq, rfl, rfl, hown3, hbq⟩ := hrel
        obtain ⟨wi, rfl⟩ : ∃ wi : World, wi = wr := ⟨_, rfl⟩
        have hz4 := hbq.size
        have B4 := B3.trans (hbq.mono (Nat.le_trans hz2' hz3))
        have B5 := hb1.trans (B4.mono hz1')
        by_cases hlt2 : q < n1
        · obtain ⟨sd', ad', j', x', e1, e2, hj', hik', hck', hxj', hsv', hc'⟩ := open_at ((hr.below B5).more hz1') (hs1.below B4) HI.out hlt2
          injection e1 with e1
          injection e2 with e2
          subst e1 e2
          have cc := l05Bounds_b x' (ad.add (j' * 5)) wi (HO.out x' (mem_of_at hxj')) hc'
          cases hp : inB (lowOf x) (lowOf x') (highOf x')
          · have HP := Lib.hid (agr_n hik' (by rw [hsv']; exact hp))
            clear hik' hxj' hsv' hc'
            go_wp2_with fail; ((with_reducible refine cc.mono ?_); rintro e w5 ⟨rfl, hb5⟩)
            go_wp2_with fail; ((with_reducible refine (l00In_any _ _ _ _).mono ?_); rintro e w' ⟨rfl, rfl⟩)
            rw [hp]
            go_wp2
            go_roundw
            case rel => exact ⟨q + 1, r, A3, c3, by omega, by omega, rfl, by go_num, by rw [HP.out]; exact own_below hown3 hb5, hbq.trans (hb5.mono hz4)⟩
            case measure => simp [intOf]; omega
          · have HP := Lib.hid (agr_y hik' (by rw [hsv']; exact hp))
            clear hik' hxj' hsv' hc'
            go_wp2_with fail; ((with_reducible refine cc.mono ?_); rintro e w5 ⟨rfl, hb5⟩)
            go_wp2_with fail; ((with_reducible refine (l00In_any _ _ _ _).mono ?_); rintro e w' ⟨rfl, rfl⟩)
            rw [hp]
            have own5 := own_below hown3 hb5
            have hb5' := hbq.trans (hb5.mono hz4)
            have hck5 := (hb5.cell (block_lt_of_cell hck')).trans hck'
            go_wp2_with (at_builtin; (refine wpList_app _ rfl _ _ 41 rfl w3.heap.size 2 i0 _ 1 8 Try.underlying41 hi0 hz0 hz1 hz2 rfl (by omega) A3 _ c3 _ rfl ((own5).alloc _) ⟨_, 0, none⟩ 1 1 [.int .i64 (j' : Int)] rfl rfl (cell_one_at (by simp) _ _) (by simp [Value.oneCell']) (by unfold maxLen; omega) (by omega) (by have hz := (hb5').size; simp at hz ⊢; omega) ?_); intro A6 c6 w6 ho6 hb6)
            go_roundw
            case rel => exact ⟨q + 1, r + 1, A6, c6, by omega, by omega, by first | rfl | go_num, by go_num, by rw [HP.out]; simpa [ints] using ho6, (hb5'.alloc hb5'.size _).trans hb6⟩
            case measure => simp [intOf]; omega
        · have e : q = n1 := by omega
          subst e
          have HA : Hid ((svOf xs s).take q = svOf xs s) := List.take_of_length_le (by rw [HL.out]; omega)
          rw [HA.out] at hown3
          have own4 := own_below own3 hbq
          have l1 := ints_len (Reads.of_own hown3)
          have l2 := ints_len (Reads.of_own own4)
          by_cases hcmp : m < r
          · have HV := Lib.hid (lgAt_y HX.out.1 HX.out.2 (by rw [l1, l2]; exact hcmp))
            clear l1 l2
            go_wp2
            go_roundw
            case rel => exact ⟨k + 1, r, A3, c3, by omega, by omega, rfl, by go_num, by rw [HV.out]; exact own_base hown3 (by omega), B4⟩
            case measure => simp [intOf]; omega
          · have HV := Lib.hid (lgAt_n HX.out.1 HX.out.2 (by rw [l1, l2]; exact hcmp))
            clear l1 l2
            go_wp2
            go_roundw
            case rel => exact ⟨k + 1, m, A', c', by omega, by omega, rfl, by go_num, by rw [HV.out]; exact own4, B4⟩
            case measure => simp [intOf]; omega
    · have e : k = n1 := by omega
      subst e
      have HV : Hid (lgAt xs (svOf xs s) k = lgL xs s) := show _ = _ by unfold lgL; rw [HL.out]
      rw [HV.out] at hown
      go_wp2
      go_ret
      exact ⟨A', m, c', rfl, hown, by omega, B2⟩
theorem agrClosure_any (A : Option Addr) (n c : Nat) (xs : List Svy) (j : Nat) (v : Int) (b1 b2 : Nat) (w : World) (hj : j < n) (hn : n ≤ 1048576) (hr : Reads w w.heap.size 5 A n (Svy.recs xs)) (hok : ∀ x ∈ xs, svyOk x = true)
    (l2 : b2 < w.heap.size) (h1 : w.cell? ⟨b1, 0, none⟩ = some (.slice A n c)) (h2 : w.cell? ⟨b2, 0, none⟩ = some (.int .i64 v)) :
    Calls Try.prog 92 #[.int .i64 j, .pointer (some ⟨b1, 0, none⟩), .pointer (some ⟨b2, 0, none⟩)] w fun e w' => e = .returned (.bool (!inB v (lowOf (svAt xs j)) (highOf (svAt xs j)))) ∧ Below w.heap.size w w' := by
  obtain ⟨ad, x, rfl, had, hx, hc⟩ := hr.rec_at Svy.clen (by omega) hj
  obtain ⟨g0, g1, g2, g3, g4⟩ := Svy.open_ hc
  have cc := bounds_any x w (hok x (mem_of_at hx))
  have HV := Lib.hid (svAt_eq hx)
  clear hx hc hok
  go_enter Try.func92, Try.ntmps92
  go_wp2_with fail; ((with_reducible refine cc.mono ?_); rintro e w1 ⟨rfl, hb1⟩)
  have h2' := (hb1.cell (p := ⟨b2, 0, none⟩) l2).trans h2
  go_wp2_with fail; ((with_reducible refine (within_any _ _ _ _).mono ?_); rintro e w' ⟨rfl, rfl⟩)
  go_wp2
  go_ret
  exact ⟨ret_bool (by rw [HV.out]), hb1⟩
set_option maxHeartbeats 3200000 in
set_option maxRecDepth 100000 in
theorem largestAgreement_any (A : Option Addr) (n c : Nat) (xs : List Svy) (s : ByteArray) (w : World) (hr : Reads w w.heap.size 5 A n (Svy.recs xs)) (hn : n ≤ 1048576) (hok : ∀ x ∈ xs, svyOk x = true) :
    Calls Try.prog 69 #[.slice A n c, .string s] w fun e w' => ∃ A' n' c', e = .returned (.slice A' n' c') ∧ w'.ownsRow w.heap.size 2 1 (.slice A' n' c') n' (ints (lgL xs s)) ∧ n' ≤ n ∧ Below w.heap.size w w' := by
  have HO := Lib.hid hok
  have HLn := Lib.hid (recs_rlen Svy.clen (by omega) hr)
  clear hok
  have hr0 : Reads (w.alloc (.cells #[.slice A n c] 37)) (w.alloc (.cells #[.slice A n c] 37)).heap.size 5 A n (Svy.recs xs) := (hr.alloc (Nat.le_refl _) _).more (by simp)
  have HR0 := Lib.hid hr0
  clear hr0
  have HI : Hid (∀ i ∈ svOf xs s, ∃ (j : Nat) (x : Svy), i = j ∧ xs[j]? = some x) := fun i hi => svOf_mem hi
  go_enter Try.func69, Try.ntmps69
  go_wp2_with fail; ((with_reducible refine (surveysOf_any A n c xs s _ HR0.out hn).mono ?_); rintro e w1 ⟨A1, n1, c1, rfl, ho1, hn1, hb1⟩)
  have B1 : Below w.heap.size w w1 := ((Below.refl _ _).alloc (Nat.le_refl _) _).trans (hb1.mono (by simp))
  have hz1 : w.heap.size + 1 ≤ w1.heap.size := by have h := hb1.size; simpa using h
  have hbox : w1.cell? ⟨w.heap.size, 0, none⟩ = some (.slice A n c) := (hb1.cell (p := ⟨w.heap.size, 0, none⟩) (by simp)).trans (cell_new1 _ _ _)
  have hs1 := Reads.of_own ho1
  have HL := Lib.hid (ints_len hs1)
  go_wp2
  go_loopw [5, 15] (fun o i wr => ∃ (k m : Nat) (A' : Option Addr) (c' : Nat), k ≤ n1 ∧ m ≤ n1 ∧ o = .slice A' m c' ∧ i = .int .i64 k ∧ wr.ownsRow w.heap.size 2 1 (.slice A' m c') m (ints (lgAt xs (svOf xs s) k)) ∧ Below w1.heap.size w1 wr) (fun _ i _ => n1 - (intOf i).toNat)
  case atStart => exact ⟨0, 0, none, 0, by omega, by omega, rfl, rfl, own_nil _ _ _ _, Below.refl _ _⟩
  case round =>
    obtain ⟨k, m, A', c', hk, hm, rfl, rfl, hown, hbr⟩ := hrel
    obtain ⟨wo, rfl⟩ : ∃ wo : World, wo = wr := ⟨_, rfl⟩
    have B2 := B1.trans (hbr.mono (by omega))
    have hz2 := hbr.size
    by_cases hlt : k < n1
    · obtain ⟨sd, ad, j, x, rfl, rfl, hj, hik, hck, hxj, hsv, hc⟩ := open_at ((hr.below B2).more (by omega : w.heap.size ≤ w1.heap.size)) (hs1.below hbr) HI.out hlt
      have hbox2 := (hbr.cell (p := ⟨w.heap.size, 0, none⟩) (by show w.heap.size < _; omega)).trans hbox
      have cc := bounds_any x wo (HO.out x (mem_of_at hxj))
      have HX := Lib.hid (And.intro hik hsv)
      obtain ⟨g0, g1, g2, g3, g4⟩ := Svy.open_ hc
      clear hik hxj hsv hc
      go_wp2_with fail; ((with_reducible refine cc.mono ?_); rintro e w3 ⟨rfl, hb3⟩)
      clear cc
      have hz3 := hb3.size
      have B3 := hbr.trans (hb3.mono hz2)
      have own3 := own_below hown hb3
      have hbox3 := (hb3.cell (block_lt_of_cell hbox2)).trans hbox2
      have zz : w.heap.size < w3.heap.size := by omega
      have hr4 : Reads (w3.alloc (.cells #[.int .i64 (lowOf x)] 2)) (w3.alloc (.cells #[.int .i64 (lowOf x)] 2)).heap.size 5 (some ad) n (Svy.recs xs) :=
        ((hr.below (B1.trans (B3.mono (by omega)))).alloc (by omega) _).more (by simp; omega)
      have HR4 := Lib.hid hr4
      clear hr4
      go_wp2_with fail; ((with_reducible refine (surveysOf_any (some ad) n c xs s _ HR4.out hn).mono ?_); rintro e w5 ⟨A5, n5, c5, rfl, ho5, hn5, hb5⟩)
      have hz5 : w3.heap.size + 1 ≤ w5.heap.size := by have h := hb5.size; simpa using h
      have ho5' : w5.ownsRow (w3.heap.size + 1) 2 1 (.slice A5 n5 c5) n5 (ints (svOf xs s)) := by simpa using ho5
      have B35 : Below w3.heap.size w3 w5 := ((Below.refl _ _).alloc (Nat.le_refl _) _).trans (hb5.mono (by simp))
      have hbox5 := (B35.cell (block_lt_of_cell hbox3)).trans hbox3
      have hlow5 : w5.cell? ⟨w3.heap.size, 0, none⟩ = some (.int .i64 (lowOf x)) := (hb5.cell (p := ⟨w3.heap.size, 0, none⟩) (by simp)).trans (cell_new1 _ _ _)
      have B05 := B1.trans ((B3.trans (B35.mono (by omega))).mono (by omega))
      have cd := deleteFunc_any A5 n5 c5 (svOf xs s) 92 #[.pointer (some ⟨w.heap.size, 0, none⟩), .pointer (some ⟨w3.heap.size, 0, none⟩)] (fun i => !inB (lowOf x) (lowOf (svAt xs i)) (highOf (svAt xs i))) (w3.heap.size + 1) w5 (fun _ _ => rfl) ho5' (by omega) (fun W i hg hi => by
        obtain ⟨q, y, rfl, hy⟩ := HI.out i hi
        have hq : q < n := by
          rcases Nat.lt_or_ge q xs.length with h | h
          · have := HLn.out; omega
          · rw [List.getElem?_eq_none h] at hy; cases hy
        have hne : ∀ b : Nat, b ≤ w3.heap.size → W.heap[b]? = w5.heap[b]? := fun b hb => hg.block b (by omega) (fun e => by have := (ho5'.lt b e.symm).1; omega)
        have hcell : ∀ p : Addr, p.block ≤ w3.heap.size → W.cell? p = w5.cell? p := fun p hp => World.cell?_of_block (hne p.block hp)
        exact agrClosure_any (some ad) n c xs q (lowOf x) w.heap.size w3.heap.size W hq hn (((hr.below B05).keep fun p hp => hcell p (by omega)).more (by have := hg.size; omega)) HO.out (by have := hg.size; omega) ((hcell _ (by show w.heap.size ≤ _; omega)).trans hbox5) ((hcell _ (Nat.le_refl _)).trans hlow5))
      rw [agr_out] at cd
      have CD := Lib.hid cd
      clear cd
      go_wp2_with fail; ((with_reducible refine CD.out.mono ?_); rintro e w6 ⟨A6, n6, c6, rfl, ho6, hn6, hg6⟩)
      have B36 : Below w3.heap.size w3 w6 := B35.grown hg6 (by omega) (fun b hb => by have := (ho5'.lt b hb).1; omega)
      have own6 := own_below own3 B36
      have B6 := B3.trans (B36.mono (by omega))
      have l1 := ints_len (Reads.of_own ho6)
      have l2 := ints_len (Reads.of_own own6)
      have l3 := ints_len (Reads.of_own ho5')
      by_cases hcmp : m < n6
      · have HV := Lib.hid (lgAt_y HX.out.1 HX.out.2 (by rw [l1, l2]; exact hcmp))
        have hn51 : n5 = n1 := by have := HL.out; omega
        have hn6' : n6 ≤ n1 := by omega
        clear l1 l2 l3 hn51
        go_wp2
        go_roundw
        case rel => exact ⟨k + 1, n6, A6, c6, by omega, by omega, rfl, by go_num, by rw [HV.out]; exact own_base ho6 (by omega), B6⟩
        case measure => simp [intOf]; omega
      · have HV := Lib.hid (lgAt_n HX.out.1 HX.out.2 (by rw [l1, l2]; exact hcmp))
        clear l1 l2 l3
        go_wp2
        go_roundw
        case rel => exact ⟨k + 1, m, A', c', by omega, by omega, rfl, by go_num, by rw [HV.out]; exact own6, B6⟩
        case measure => simp [intOf]; omega
    · have e : k = n1 := by omega
      subst e
      have HV : Hid (lgAt xs (svOf xs s) k = lgL xs s) := show _ = _ by unfold lgL; rw [HL.out]
      rw [HV.out] at hown
      go_wp2
      go_ret
      exact ⟨A', m, c', rfl, hown, by omega, B2⟩
end Go.Proofs.Ytnaggimfialbfaa
