/- Contracts of WarmAirways. -/
import Derived.Test.YtgbmpadlfcbcaaaLev
namespace Go.Proofs.Ytgbmpadlfcbcaaa
set_option linter.unusedVariables false
set_option linter.unusedSimpArgs false
open Go.RowKit
def incAt (as_ : List Int) (k : Nat) : Bool := decide (k = 0) || decide (as_.getD (k - 1) 0 < as_.getD k 0)
def incOk (as_ : List Int) : Bool := allUpto as_.length (incAt as_)
def riAt (as_ : List Int) (l h : Int) (k : Nat) : Bool := inB (as_.getD k 0) l h && incAt as_ k
def risesOk (as_ : List Int) (l h : Int) : Bool := allUpto as_.length (riAt as_ l h)
theorem getD_of {as_ : List Int} {k : Nat} {a : Int} (h : as_[k]? = some a) : as_.getD k 0 = a := by rw [List.getD_eq_getElem?_getD, h]; rfl
theorem incAt_z (as_ : List Int) : incAt as_ 0 = true := rfl
theorem incAt_s {as_ : List Int} {k j : Nat} {a b : Int} (hk : k = j + 1) (ha : as_[k]? = some a) (hb : as_[j]? = some b) : incAt as_ k = decide (b < a) := by
  unfold incAt
  rw [decide_eq_false (show ¬ k = 0 by omega), Bool.false_or, getD_of ha, show k - 1 = j by omega, getD_of hb]
theorem riAt_eq {as_ : List Int} {k : Nat} {a l h : Int} (ha : as_[k]? = some a) : riAt as_ l h k = (inB a l h && incAt as_ k) := by unfold riAt; rw [getD_of ha]
theorem rises_eq (as_ : List Int) (l h : Int) : risesOk as_ l h = (incOk as_ && allIn l h as_) := by
  rw [Bool.eq_iff_iff, Bool.and_eq_true]
  constructor
  · intro e
    refine ⟨allUpto_t fun k hk => ?_, ?_⟩
    · have := allUpto_get e hk
      unfold riAt at this
      rw [Bool.and_eq_true] at this
      exact this.2
    · unfold allIn
      rw [List.all_eq_true]
      intro x hx
      obtain ⟨k, hk⟩ := List.getElem?_of_mem hx
      have hkl : k < as_.length := by
        rcases Nat.lt_or_ge k as_.length with h1 | h1
        · exact h1
        · rw [List.getElem?_eq_none h1] at hk; cases hk
      have := allUpto_get e hkl
      rw [riAt_eq hk, Bool.and_eq_true] at this
      exact this.1
  · rintro ⟨h1, h2⟩
    refine allUpto_t fun k hk => ?_
    have hx : as_[k]? = some as_[k] := List.getElem?_eq_getElem hk
    rw [riAt_eq hx, Bool.and_eq_true]
    exact ⟨all_mem (p := fun x => inB x l h) h2 (List.getElem_mem hk), allUpto_get h1 hk⟩
theorem rises_mem {as_ : List Int} {l h : Int} (e : risesOk as_ l h = true) {k : Nat} {a : Int} (ha : as_[k]? = some a) : l ≤ a ∧ a ≤ h := by
  rw [rises_eq, Bool.and_eq_true] at e
  exact allIn_mem e.2 (List.mem_of_getElem? ha)
def wmTo (ts as_ : List Int) (q : Int) : Nat → List Int
  | 0 => ts
  | k + 1 => (wmTo ts as_ q k).set (as_.getD k 0).toNat ((wmTo ts as_ q k).getD (as_.getD k 0).toNat 0 + q)
theorem wmTo_len (ts as_ : List Int) (q : Int) : ∀ k, (wmTo ts as_ q k).length = ts.length
  | 0 => rfl
  | k + 1 => by simp only [wmTo]; rw [List.length_set]; exact wmTo_len ts as_ q k
theorem wmTo_snoc {ts as_ : List Int} {q a : Int} {k i : Nat} (h : as_[k]? = some a) (ha : a = (i : Int)) : wmTo ts as_ q (k + 1) = (wmTo ts as_ q k).set i ((wmTo ts as_ q k).getD i 0 + q) := by
  simp only [wmTo]; rw [getD_of h, ha, Int.toNat_natCast]
theorem wmTo_bnd {ts as_ : List Int} {q : Int} (hts : ∀ t ∈ ts, -300 ≤ t ∧ t ≤ 600) (q1 : -900 ≤ q) (q2 : q ≤ 900) : ∀ k i : Nat, -(600 + 900 * (k : Int)) ≤ (wmTo ts as_ q k).getD i 0 ∧ (wmTo ts as_ q k).getD i 0 ≤ 600 + 900 * k
  | 0, i => by
    simp only [wmTo, List.getD_eq_getElem?_getD]
    cases e : ts[i]? with
    | none => simp
    | some t => have := hts t (List.mem_of_getElem? e); simp; omega
  | k + 1, i => by
    have ih := wmTo_bnd (as_ := as_) hts q1 q2 k
    simp only [wmTo]
    have h1 := ih i
    have h2 := ih (as_.getD k 0).toNat
    rw [List.getD_eq_getElem?_getD (l := List.set _ _ _), List.getElem?_set]
    split
    · split
      · simp only [Option.getD_some]; omega
      · simp; omega
    · rw [← List.getD_eq_getElem?_getD]; omega
def wmR (J : Int) (xs : List Awy) (ts as_ : List Int) (q : Int) : List Int × Int :=
  if mineOk J xs = true then (if inB q (-900) 900 = true then (if (lstOk xs.length (-300) 600 ts && risesOk as_ 0 ((xs.length : Int) - 1)) = true then
    (if lstOk xs.length (-300) 600 (wmTo ts as_ q as_.length) = true then (wmTo ts as_ q as_.length, 0) else ([], 6)) else ([], 7)) else ([], 2)) else ([], 1)
section
variable {J : Int} {xs : List Awy} {ts as_ : List Int} {q : Int}
theorem wmR_1 (h : mineOk J xs = false) : wmR J xs ts as_ q = ([], 1) := by unfold wmR; rw [h]; rfl
theorem wmR_2 (h : mineOk J xs = true) (h1 : inB q (-900) 900 = false) : wmR J xs ts as_ q = ([], 2) := by unfold wmR; rw [h, h1]; rfl
theorem wmR_3 (h : mineOk J xs = true) (h1 : inB q (-900) 900 = true) (h2 : (lstOk xs.length (-300) 600 ts && risesOk as_ 0 ((xs.length : Int) - 1)) = false) : wmR J xs ts as_ q = ([], 7) := by unfold wmR; rw [h, h1, h2]; rfl
theorem wmR_4 (h : mineOk J xs = true) (h1 : inB q (-900) 900 = true) (h2 : (lstOk xs.length (-300) 600 ts && risesOk as_ 0 ((xs.length : Int) - 1)) = true) (h3 : lstOk xs.length (-300) 600 (wmTo ts as_ q as_.length) = false) : wmR J xs ts as_ q = ([], 6) := by unfold wmR; rw [h, h1, h2, h3]; rfl
theorem wmR_5 (h : mineOk J xs = true) (h1 : inB q (-900) 900 = true) (h2 : (lstOk xs.length (-300) 600 ts && risesOk as_ 0 ((xs.length : Int) - 1)) = true) (h3 : lstOk xs.length (-300) 600 (wmTo ts as_ q as_.length) = true) : wmR J xs ts as_ q = (wmTo ts as_ q as_.length, 0) := by unfold wmR; rw [h, h1, h2, h3]; rfl
end
/-- An owned row of numbers is a block. -/
theorem own_blk {w : World} {base e n c : Nat} {A : Option Addr} {xs : List Int} (h : w.ownsRow base e 1 (.slice A n c) n (ints xs)) (hn : 0 < n) :
    ∃ g cur, A = some ⟨g, 0, none⟩ ∧ base ≤ g ∧ Blk w g e cur ∧ n ≤ c ∧ c ≤ maxLen ∧ cur.size = c ∧ cur.toList.take n = ints xs := by
  rcases h.2 with ⟨_, h0⟩ | ⟨g, cap, cur, hv, hbg, hgb, hnc, hcm, hcs, htake⟩
  · omega
  · injection hv with hA _ hc
    subst hA
    subst hc
    exact ⟨g, cur, rfl, hbg, hgb, hnc, hcm, by omega, by simpa using htake⟩
theorem blk_own {w : World} {base g e n c : Nat} {cur : Array Value} {xs : List Int} (hb : Blk w g e cur) (hbg : base ≤ g) (hnc : n ≤ c) (hcm : c ≤ maxLen) (hcs : cur.size = c) (hl : xs.length = n) (ht : cur.toList.take n = ints xs) :
    w.ownsRow base e 1 (.slice (some ⟨g, 0, none⟩) n c) n (ints xs) := ⟨by simp [ints, hl], .inr ⟨g, c, cur, rfl, hbg, hb, hnc, hcm, by omega, by simpa using ht⟩⟩
theorem take_set_ints {cur : Array Value} {n j : Nat} {xs : List Int} {v : Int} (ht : cur.toList.take n = ints xs) : (cur.setIfInBounds j (.int .i64 v)).toList.take n = ints (xs.set j v) := by
  rw [Array.toList_setIfInBounds, List.take_set, ht]
  unfold ints
  rw [List.map_set]
theorem blk_int {w : World} {g e n j : Nat} {cur : Array Value} {xs : List Int} {v : Int} (hb : Blk w g e cur) (ht : cur.toList.take n = ints xs) (hl : xs.length = n) (hj : xs[j]? = some v) : w.cell? ⟨g, j, none⟩ = some (.int .i64 v) := by
  have hjl : j < n := by
    rcases Nat.lt_or_ge j n with h1 | h1
    · exact h1
    · rw [List.getElem?_eq_none (by omega)] at hj; cases hj
  have h1 : (cur.toList.take n)[j]? = (ints xs)[j]? := by rw [ht]
  rw [List.getElem?_take, if_pos hjl, Array.getElem?_toList] at h1
  rw [hb.cell j, h1]
  unfold ints
  rw [List.getElem?_map, hj]; rfl
set_option maxHeartbeats 400000 in
theorem l00Own_any (A : Option Addr) (n c : Nat) (xs : List Int) (w : World) (hr : Reads w w.heap.size 1 A n (ints xs)) (hn : n ≤ 1048576) :
    Calls Try.prog 88 #[.slice A n c] w fun e w' => ∃ A' c', e = .returned (.slice A' n c') ∧ w'.ownsRow w.heap.size 2 1 (.slice A' n c') n (ints xs) ∧ Below w.heap.size w w' := by
  obtain ⟨i0, hi0, hz0, hz1, hz2⟩ := info_parts info_Int64S
  have HL := Lib.hid (ints_len hr)
  have hrb := fun (o : Obj) => (hr.alloc (Nat.le_refl _) o)
  go_enter Try.func88, Try.ntmps88
  go_wp2_with (at_builtin; refine wpList_append_any _ rfl _ _ 25 rfl w.heap.size 2 i0 _ 1 8 Try.underlying25 hi0 hz0 hz1 hz2 rfl (by omega) _ 0 [] rfl (own_empty _ _ _) w.heap.size A n c (ints xs) rfl (hrb _) (ints_one xs) (by unfold maxLen; omega) (by omega) (by simp) ?_; intro v' w1 ho1 hg1 ha1)
  obtain ⟨A', c', rfl⟩ := own_shape ho1
  have hb1 : Below w.heap.size w w1 := ((Below.refl _ _).alloc (Nat.le_refl _) _).grown hg1 (by simp) fun k hk => ((own_empty w 2 1).lt k hk).1
  go_ret
  simp only [Nat.zero_add, List.nil_append] at ho1
  exact ⟨A', c', by simp, ho1, hb1⟩
set_option maxHeartbeats 1600000 in
theorem l00Rises_any (A : Option Addr) (n c : Nat) (as_ : List Int) (l h : Int) (w : World) (hr : Reads w w.heap.size 1 A n (ints as_)) (hn : n ≤ 1048576) :
    Calls Try.prog 87 #[.slice A n c, .int .i64 l, .int .i64 h] w fun e w' => e = .returned (.bool (risesOk as_ l h)) ∧ Below w.heap.size w w' := by
  have HL := Lib.hid (ints_len hr)
  go_enter Try.func87, Try.ntmps87
  go_wp2
  go_loopw [7] (fun i wr => ∃ (k : Nat), k ≤ n ∧ i = .int .i64 k ∧ Hid (∀ j, j < k → riAt as_ l h j = true) ∧ Below w.heap.size w wr) (fun i _ => n - (intOf i).toNat)
  case atStart => exact ⟨0, by omega, rfl, fun j hj => absurd hj (Nat.not_lt_zero _), Below.refl _ _⟩
  case round =>
    obtain ⟨k, hk, rfl, HK, hbw⟩ := hrel
    by_cases hlt : k < n
    · obtain ⟨ad, u, rfl, had, hx, hc⟩ := (hr.below hbw).at_ hlt
      obtain ⟨a, ha, rfl⟩ := ints_at hx
      have HX := Lib.hid ha
      have HQ := Lib.hid (riAt_eq (l := l) (h := h) ha)
      have hlx : Hid (k < as_.length) := show k < as_.length by rw [HL.out]; exact hlt
      have hltI : (k : Int) < (n : Int) := by omega
      clear hx ha
      rcases Bool.eq_false_or_eq_true (inB a l h) with k1 | k1
      · have HI := Lib.hid (fun m => quietE' (w := wr) (n := m) (l00In_any a l h _) k1)
        rcases Nat.eq_zero_or_pos k with h0 | hpos
        · have HY : Hid (riAt as_ l h k = true) := show _ = _ by rw [HQ.out, k1, h0]; rfl
          subst h0
          have hcz : wr.cell? ad = some (.int .i64 a) := hc
          go_wp2
          go_quiet ((go_at_call 84; exact HI.out _))
          go_wp2
          go_roundw
          case rel => exact ⟨1, by omega, by go_num, upto_succ1 HK.out HY.out, below_drewN hbw _⟩
          case measure => simp [intOf]; omega
        · obtain ⟨j, hj⟩ : ∃ j, Hid (k = j + 1) := ⟨k - 1, show k = k - 1 + 1 by omega⟩
          have hjn : j < n := by have := hj.out; omega
          have hwj : IntKind.i64.wrap ((k : Int) - 1) = (j : Int) := by have := hj.out; rw [IntWalk.i64_in _ (by omega)]; omega
          have hk0 : decide ((0 : Int) < (k : Int)) = true := decide_eq_true (by omega)
          have hjI : (j : Int) < (n : Int) := by omega
          obtain ⟨ad', u', e1, had', hx', hc'⟩ := (hr.below hbw).at_ hjn
          injection e1 with e1
          subst e1
          obtain ⟨b, hb, rfl⟩ := ints_at hx'
          have HS := Lib.hid (incAt_s hj.out HX.out hb)
          clear hb hx'
          by_cases hg : b < a
          · have HY : Hid (riAt as_ l h k = true) := show _ = _ by rw [HQ.out, k1, HS.out, decide_eq_true hg]; rfl
            have hg' : decide (a ≤ b) = false := decide_eq_false (by omega)
            go_wp2
            go_quiet ((go_at_call 84; exact HI.out _))
            go_wp2
            go_roundw
            case rel => exact ⟨k + 1, by omega, by go_num, upto_succ1 HK.out HY.out, below_drewN hbw _⟩
            case measure => simp [intOf]; omega
          · have HY : Hid (riAt as_ l h k = false) := show _ = _ by rw [HQ.out, k1, HS.out, decide_eq_false hg]; rfl
            have hg' : decide (a ≤ b) = true := decide_eq_true (by omega)
            go_wp2
            go_quiet ((go_at_call 84; exact HI.out _))
            go_wp2
            go_ret
            exact ⟨ret_bool (allUpto_f hlx.out HY.out).symm, below_drewN hbw _⟩
      · have HI := Lib.hid (fun m => quietE' (w := wr) (n := m) (l00In_any a l h _) k1)
        have HY : Hid (riAt as_ l h k = false) := show _ = _ by rw [HQ.out, k1]; rfl
        go_wp2
        go_quiet ((go_at_call 84; exact HI.out _))
        go_wp2
        go_ret
        exact ⟨ret_bool (allUpto_f hlx.out HY.out).symm, below_drewN hbw _⟩
    · have e : k = n := by omega
      have HV : Hid (risesOk as_ l h = true) := allUpto_t (by rw [HL.out, ← e]; exact HK.out)
      clear e
      go_wp2
      go_ret
      exact ⟨ret_bool HV.out.symm, hbw⟩
set_option maxHeartbeats 1600000 in
theorem increasing_any (A : Option Addr) (n c : Nat) (as_ : List Int) (w : World) (hr : Reads w w.heap.size 1 A n (ints as_)) (hn : n ≤ 1048576) :
    Calls Try.prog 115 #[.slice A n c] w fun e w' => e = .returned (.bool (incOk as_)) ∧ Below w.heap.size w w' := by
  have HL := Lib.hid (ints_len hr)
  go_enter Try.func115, Try.ntmps115
  go_wp2
  go_loopw [3] (fun i wr => ∃ (k : Nat), 1 ≤ k ∧ (k ≤ n ∨ k = 1) ∧ i = .int .i64 k ∧ Hid (∀ j, j < k → incAt as_ j = true) ∧ Below w.heap.size w wr) (fun i _ => n - (intOf i).toNat)
  case atStart => exact ⟨1, by omega, .inr rfl, rfl, fun j hj => (by obtain rfl : j = 0 := by omega
                                                                     rfl), Below.refl _ _⟩
  case round =>
    obtain ⟨k, hk1, hk, rfl, HK, hbw⟩ := hrel
    by_cases hlt : k < n
    · obtain ⟨ad, u, rfl, had, hx, hc⟩ := (hr.below hbw).at_ hlt
      obtain ⟨a, ha, rfl⟩ := ints_at hx
      have hlx : Hid (k < as_.length) := show k < as_.length by rw [HL.out]; exact hlt
      have hltI : (k : Int) < (n : Int) := by omega
      obtain ⟨j, hj⟩ : ∃ j, Hid (k = j + 1) := ⟨k - 1, show k = k - 1 + 1 by omega⟩
      have hjn : j < n := by have := hj.out; omega
      have hwj : IntKind.i64.wrap ((k : Int) - 1) = (j : Int) := by have := hj.out; rw [IntWalk.i64_in _ (by omega)]; omega
      have hjI : (j : Int) < (n : Int) := by omega
      obtain ⟨ad', u', e1, had', hx', hc'⟩ := (hr.below hbw).at_ hjn
      injection e1 with e1
      subst e1
      obtain ⟨b, hb, rfl⟩ := ints_at hx'
      have HS := Lib.hid (incAt_s hj.out ha hb)
      clear hb hx' hx ha
      by_cases hg : b < a
      · have HY : Hid (incAt as_ k = true) := show _ = _ by rw [HS.out, decide_eq_true hg]
        have hg' : decide (a ≤ b) = false := decide_eq_false (by omega)
        go_wp2
        go_quiet (fail)
        go_wp2
        go_roundw
        case rel => exact ⟨k + 1, by omega, .inl (by omega), by go_num, upto_succ1 HK.out HY.out, below_drewN hbw _⟩
        case measure => simp [intOf]; omega
      · have HY : Hid (incAt as_ k = false) := show _ = _ by rw [HS.out, decide_eq_false hg]
        have hg' : decide (a ≤ b) = true := decide_eq_true (by omega)
        go_wp2
        go_quiet (fail)
        go_wp2
        go_ret
        exact ⟨ret_bool (allUpto_f hlx.out HY.out).symm, below_drewN hbw _⟩
    · have HV : Hid (incOk as_ = true) := allUpto_t (by intro j hj; exact HK.out j (by rw [HL.out] at hj; omega))
      clear hk
      go_wp2
      go_ret
      exact ⟨ret_bool HV.out.symm, hbw⟩
theorem hasAirways_any (J : Int) (B : Option Addr) (m d : Nat) (A : Option Addr) (n c : Nat) (as_ : List Int) (w : World) (hr : Reads w w.heap.size 1 A n (ints as_)) (hn : n ≤ 1048576) (hm : m ≤ 1048576) :
    Calls Try.prog 89 #[.agg #[.int .i64 J, .slice B m d], .slice A n c] w fun e w' => e = .returned (.bool (risesOk as_ 0 ((m : Int) - 1))) ∧ Below w.heap.size w w' := by
  have hb : Below w.heap.size w (w.alloc (.cells #[.int .i64 J, .slice B m d] 31)) := (Below.refl _ _).alloc (Nat.le_refl _) _
  have cc := increasing_any A n c as_ _ ((hr.below hb).more hb.size) hn
  have HE := Lib.hid (rises_eq as_ 0 ((m : Int) - 1))
  rcases Bool.eq_false_or_eq_true (incOk as_) with hi | hi
  all_goals
    have HI := Lib.hid hi
    rw [hi] at cc
    clear hi
    go_enter Try.func89, Try.ntmps89
    go_wp2_with fail; ((with_reducible refine (cc).mono ?_); rintro e w1 ⟨rfl, hb1⟩)
    have B1 : Below w.heap.size w w1 := hb.trans (hb1.mono (by simp))
    have g1 : w1.cell? ⟨w.heap.size, 1, none⟩ = some (.slice B m d) := (hb1.cell (p := ⟨w.heap.size, 1, none⟩) (by simp)).trans (by go_simp)
    clear cc
  · have ca := allWithin_any A n c as_ 0 ((m : Int) - 1) w1 ((hr.below B1).more B1.size) (by omega)
    go_wp2_with fail; ((with_reducible refine (ca).mono ?_); rintro e w2 ⟨rfl, hb2⟩)
    go_wp2
    go_ret
    exact ⟨ret_bool (by rw [HE.out, HI.out, Bool.true_and]), B1.trans (hb2.mono B1.size)⟩
  · go_wp2
    go_ret
    exact ⟨ret_bool (by rw [HE.out, HI.out, Bool.false_and]), B1⟩
set_option maxHeartbeats 1600000 in
set_option maxRecDepth 100000 in
theorem specWarmAirways_any (J : Int) (M : Option Addr) (m d : Nat) (xs : List Awy) (A1 : Option Addr) (n1 c1 : Nat) (fs1 : List Int) (A2 : Option Addr) (n2 c2 : Nat) (fs2 : List Int) (q : Int) (w : World) (hm : Reads w w.heap.size 7 M m (Awy.recs xs)) (hmn : m ≤ 1048576) (hxs : ∀ x ∈ xs, x.s.size ≤ maxLen) (hr1 : Reads w w.heap.size 1 A1 n1 (ints fs1)) (hn1 : n1 ≤ 1048576) (hr2 : Reads w w.heap.size 1 A2 n2 (ints fs2)) (hn2 : n2 ≤ 1048576) :
    Calls Try.prog 39 #[.agg #[.int .i64 J, .slice M m d], .slice A1 n1 c1, .slice A2 n2 c2, .int .i64 q] w fun e w' => ∃ A' n' c', e = .returned (.tuple #[.slice A' n' c', .int .i64 (wmR J xs fs1 fs2 q).2]) ∧ w'.ownsRow w.heap.size 2 1 (.slice A' n' c') n' (ints (wmR J xs fs1 fs2 q).1) ∧ n' ≤ 1048576 ∧ Below w.heap.size w w' := by
  obtain ⟨i0, hi0, hz0, hz1, hz2⟩ := info_parts info_Int64S
  have HLm := Lib.hid (recs_rlen Awy.clen (by omega) hm)
  have hb : Below w.heap.size w (w.alloc (.cells #[.int .i64 J, .slice M m d] 31)) := (Below.refl _ _).alloc (Nat.le_refl _) _
  have cc := l04Ok_any J M m d xs ⟨w.heap.size, 0, none⟩ _ ((hm.below hb).more hb.size) hmn hxs (Cells.new w _ _)
  have HXX := Lib.hid hxs
  clear hxs
  go_enter Try.func39, Try.ntmps39
  go_wp2_with fail; ((with_reducible refine (cc).mono ?_); rintro e w1 ⟨rfl, hb1⟩)
  have B1 : Below w.heap.size w w1 := hb.trans (hb1.mono (by simp))
  have z1 : w.heap.size < w1.heap.size := by have h := hb1.size; simp at h; omega
  have g0_1 : w1.cell? ⟨w.heap.size, 0, none⟩ = some (.int .i64 J) := (hb1.cell (p := ⟨w.heap.size, 0, none⟩) (by simp)).trans (by go_simp)
  have g1_1 : w1.cell? ⟨w.heap.size, 1, none⟩ = some (.slice M m d) := (hb1.cell (p := ⟨w.heap.size, 1, none⟩) (by simp)).trans (by go_simp)
  clear cc hb hb1
  rcases Bool.eq_false_or_eq_true (mineOk J xs) with hok | hok
  · have HO := Lib.hid (mineOk_t hok)
    have HOK := Lib.hid hok
    have hm24 : m ≤ 24 := by have := HO.out.2.1; rw [HLm.out] at this; exact this
    have HQ0 := Lib.hid (ints_len hr1)
    have cq := l00In_any q (-900) 900 w1
    rcases Bool.eq_false_or_eq_true (inB q (-900) 900) with hq | hq
    · rw [hq] at cq
      have HQ := Lib.hid hq
      obtain ⟨q1, q2⟩ := inB_t hq
      clear hq
      go_wp2_with fail; ((with_reducible refine (cq).mono ?_); rintro e w' ⟨rfl, rfl⟩)
      have ct := l09Temps_any m M d ⟨w.heap.size, 0, none⟩ A1 n1 c1 fs1 w1 ((hr1.below B1).more B1.size) hn1 g1_1
      have cr := l00Rises_any A2 n2 c2 fs2 0 ((m : Int) - 1) w1 ((hr2.below B1).more B1.size) hn2
      rcases Bool.eq_false_or_eq_true (lstOk m (-300) 600 fs1) with hl | hl
      · have HL := Lib.hid hl
        rw [hl] at ct
        clear hl
        go_wp2_with fail; ((with_reducible refine (ct).mono ?_); rintro e w' ⟨rfl, rfl⟩)
        rcases Bool.eq_false_or_eq_true (risesOk fs2 0 ((m : Int) - 1)) with hs | hs
        · have HS := Lib.hid hs
          have H2 : Hid ((lstOk xs.length (-300) 600 fs1 && risesOk fs2 0 ((xs.length : Int) - 1)) = true) := show _ = _ by rw [HLm.out, HL.out, hs]; rfl
          rw [hs] at cr
          clear hs
          go_wp2_with fail; ((with_reducible refine (cr).mono ?_); rintro e w2 ⟨rfl, hb2⟩)
          clear cq ct cr
          have B2 : Below w.heap.size w w2 := B1.trans (hb2.mono B1.size)
          have z2 : w.heap.size < w2.heap.size := by have h := hb2.size; omega
          have g0_2 : w2.cell? ⟨w.heap.size, 0, none⟩ = some (.int .i64 J) := (hb2.cell (p := ⟨w.heap.size, 0, none⟩) z1).trans g0_1
          have g1_2 : w2.cell? ⟨w.heap.size, 1, none⟩ = some (.slice M m d) := (hb2.cell (p := ⟨w.heap.size, 1, none⟩) z1).trans g1_1
          clear hb2 g0_1 g1_1
          have ccp := l00Own_any A1 n1 c1 fs1 w2 ((hr1.below B2).more B2.size) hn1
          go_wp2_with fail; ((with_reducible refine (ccp).mono ?_); rintro e w3 ⟨A3, c3, rfl, hoc, hb3⟩)
          clear ccp
          have B3 : Below w.heap.size w w3 := B2.trans (hb3.mono B2.size)
          have z3 : w.heap.size < w3.heap.size := by have h := hb3.size; omega
          have g0_3 : w3.cell? ⟨w.heap.size, 0, none⟩ = some (.int .i64 J) := (hb3.cell (p := ⟨w.heap.size, 0, none⟩) z2).trans g0_2
          have g1_3 : w3.cell? ⟨w.heap.size, 1, none⟩ = some (.slice M m d) := (hb3.cell (p := ⟨w.heap.size, 1, none⟩) z2).trans g1_2
          have hbc := hb3
          clear hb3
          have hn1m : n1 = m := by have h1 := (lstOk_t HL.out).1; have h2 := HQ0.out; omega
          have HB := Lib.hid (wmTo_bnd (as_ := fs2) (lstOk_t HL.out).2 q1 q2)
          have HL2 := Lib.hid (ints_len hr2)
          have R2 := (hr2.below B3).more B3.size
          subst hn1m
          go_wp2
          go_loopw [11] (fun i wr => ∃ (k : Nat), k ≤ n2 ∧ i = .int .i64 k ∧ wr.ownsRow w2.heap.size 2 1 (.slice A3 n1 c3) n1 (ints (wmTo fs1 fs2 q k)) ∧ Below w2.heap.size w2 wr) (fun i _ => n2 - (intOf i).toNat)
          case atStart => exact ⟨0, by omega, rfl, hoc, hbc⟩
          case round =>
            obtain ⟨k, hk, rfl, hown, hbr⟩ := hrel
            obtain ⟨wo, rfl⟩ : ∃ wo : World, wo = wr := ⟨_, rfl⟩
            have Bo := B2.trans (hbr.mono B2.size)
            by_cases hlt : k < n2
            · obtain ⟨ad, u, rfl, had, hx, hc⟩ := (hr2.below Bo).at_ hlt
              obtain ⟨a, ha, rfl⟩ := ints_at hx
              obtain ⟨ra1, ra2⟩ := rises_mem HS.out ha
              obtain ⟨i, rfl⟩ : ∃ i : Nat, a = i := ⟨a.toNat, by omega⟩
              have him : i < n1 := by omega
              have hlen : (wmTo fs1 fs2 q k).length = n1 := by rw [wmTo_len]; exact HQ0.out
              obtain ⟨g, cur, rfl, hbg, hblk, hnc, hcm, hcs, htk⟩ := own_blk hown (by omega)
              obtain ⟨v, hv⟩ : ∃ v, (wmTo fs1 fs2 q k)[i]? = some v := ⟨_, List.getElem?_eq_getElem (by omega)⟩
              have hvb := HB.out k i
              rw [getD_of hv] at hvb
              obtain ⟨v1, v2⟩ := hvb
              have hcv := blk_int hblk htk hlen hv
              have HY := Lib.hid (wmTo_snoc (ts := fs1) (q := q) ha rfl)
              have HG := Lib.hid (getD_of hv)
              have HT := Lib.hid htk
              have HLN := Lib.hid hlen
              have HNC := Lib.hid hnc
              have HCM := Lib.hid hcm
              have HCS := Lib.hid hcs
              have hfz := hblk.frozen i
              have himI : (i : Int) < (n1 : Int) := by omega
              clear hx ha hv htk hlen hnc hcm hcs hown
              go_wp2
              go_roundw
              case rel =>
                refine ⟨k + 1, by omega, by go_num, ?_, hbr.setCell hbg _⟩
                rw [HY.out, HG.out]
                exact blk_own (hblk.set_ i _) hbg HNC.out HCM.out (by rw [Array.size_setIfInBounds]; exact HCS.out) (by rw [List.length_set]; exact HLN.out) (take_set_ints HT.out)
              case measure => simp [intOf]; omega
            · have e : k = n2 := by omega
              have HW : Hid (wmTo fs1 fs2 q fs2.length = wmTo fs1 fs2 q k) := show _ = _ by rw [HL2.out, e]
              have zo : w.heap.size < wo.heap.size := by have h := hbr.size; omega
              have go0 : wo.cell? ⟨w.heap.size, 0, none⟩ = some (.int .i64 J) := (hbr.cell (p := ⟨w.heap.size, 0, none⟩) z2).trans g0_2
              have go1 : wo.cell? ⟨w.heap.size, 1, none⟩ = some (.slice M n1 d) := (hbr.cell (p := ⟨w.heap.size, 1, none⟩) z2).trans g1_2
              have cz := l09Temps_any n1 M d ⟨w.heap.size, 0, none⟩ A3 n1 c3 (wmTo fs1 fs2 q k) wo (Reads.of_own hown) (by omega) go1
              clear e
              rcases Bool.eq_false_or_eq_true (lstOk n1 (-300) 600 (wmTo fs1 fs2 q k)) with hf | hf
              · have HV := Lib.hid (wmR_5 HOK.out HQ.out H2.out (by rw [HLm.out, HW.out]; exact hf))
                rw [hf] at cz
                clear hf
                go_wp2_with fail; ((with_reducible refine (cz).mono ?_); rintro e w' ⟨rfl, rfl⟩)
                go_wp2
                go_ret2
                rw [HV.out, HW.out]
                exact ⟨A3, n1, c3, rfl, own_base hown B2.size, by omega, Bo⟩
              · have HV := Lib.hid (wmR_4 HOK.out HQ.out H2.out (by rw [HLm.out, HW.out]; exact hf))
                rw [hf] at cz
                clear hf
                go_wp2_with fail; ((with_reducible refine (cz).mono ?_); rintro e w' ⟨rfl, rfl⟩)
                go_wp2
                go_ret2
                rw [HV.out]
                exact ⟨none, 0, 0, rfl, own_nil _ _ _ _, by omega, Bo⟩
        · have HV := Lib.hid (wmR_3 (ts := fs1) (as_ := fs2) HOK.out HQ.out (by rw [HLm.out, hs, Bool.and_false]))
          rw [hs] at cr
          clear hs
          go_wp2_with fail; ((with_reducible refine (cr).mono ?_); rintro e w2 ⟨rfl, hb2⟩)
          go_wp2
          go_ret2
          rw [HV.out]
          exact ⟨none, 0, 0, rfl, own_nil _ _ _ _, by omega, B1.trans (hb2.mono B1.size)⟩
      · have HV := Lib.hid (wmR_3 (ts := fs1) (as_ := fs2) HOK.out HQ.out (by rw [HLm.out, hl, Bool.false_and]))
        rw [hl] at ct
        clear hl
        go_wp2_with fail; ((with_reducible refine (ct).mono ?_); rintro e w' ⟨rfl, rfl⟩)
        go_wp2
        go_ret2
        rw [HV.out]
        exact ⟨none, 0, 0, rfl, own_nil _ _ _ _, by omega, B1⟩
    · have HV := Lib.hid (wmR_2 (xs := xs) (ts := fs1) (as_ := fs2) HOK.out hq)
      rw [hq] at cq
      clear hq
      go_wp2_with fail; ((with_reducible refine (cq).mono ?_); rintro e w' ⟨rfl, rfl⟩)
      go_wp2
      go_ret2
      rw [HV.out]
      exact ⟨none, 0, 0, rfl, own_nil _ _ _ _, by omega, B1⟩
  · have HV : Hid (wmR J xs fs1 fs2 q = ([], 1)) := wmR_1 hok
    go_wp2
    go_ret2
    rw [HV.out]
    exact ⟨none, 0, 0, rfl, own_nil _ _ _ _, by omega, B1⟩
set_option maxHeartbeats 1600000 in
set_option maxRecDepth 100000 in
theorem implWarmAirways_any (J : Int) (M : Option Addr) (m d : Nat) (xs : List Awy) (A1 : Option Addr) (n1 c1 : Nat) (fs1 : List Int) (A2 : Option Addr) (n2 c2 : Nat) (fs2 : List Int) (q : Int) (w : World) (hm : Reads w w.heap.size 7 M m (Awy.recs xs)) (hmn : m ≤ 1048576) (hxs : ∀ x ∈ xs, x.s.size ≤ maxLen) (hr1 : Reads w w.heap.size 1 A1 n1 (ints fs1)) (hn1 : n1 ≤ 1048576) (hr2 : Reads w w.heap.size 1 A2 n2 (ints fs2)) (hn2 : n2 ≤ 1048576) :
    Calls Try.prog 40 #[.agg #[.int .i64 J, .slice M m d], .slice A1 n1 c1, .slice A2 n2 c2, .int .i64 q] w fun e w' => ∃ A' n' c', e = .returned (.tuple #[.slice A' n' c', .int .i64 (wmR J xs fs1 fs2 q).2]) ∧ w'.ownsRow w.heap.size 2 1 (.slice A' n' c') n' (ints (wmR J xs fs1 fs2 q).1) ∧ n' ≤ 1048576 ∧ Below w.heap.size w w' := by
  obtain ⟨i0, hi0, hz0, hz1, hz2⟩ := info_parts info_Int64S
  have HLm := Lib.hid (recs_rlen Awy.clen (by omega) hm)
  have hb : Below w.heap.size w (w.alloc (.cells #[.int .i64 J, .slice M m d] 31)) := (Below.refl _ _).alloc (Nat.le_refl _) _
  have cc := implValidMine_any J M m d xs _ ((hm.below hb).more hb.size) hmn hxs
  have HXX := Lib.hid hxs
  clear hxs
  go_enter Try.func40, Try.ntmps40
  go_wp2_with fail; ((with_reducible refine (cc).mono ?_); rintro e w1 ⟨rfl, hb1⟩)
  have B1 : Below w.heap.size w w1 := hb.trans (hb1.mono (by simp))
  have z1 : w.heap.size < w1.heap.size := by have h := hb1.size; simp at h; omega
  have g0_1 : w1.cell? ⟨w.heap.size, 0, none⟩ = some (.int .i64 J) := (hb1.cell (p := ⟨w.heap.size, 0, none⟩) (by simp)).trans (by go_simp)
  have g1_1 : w1.cell? ⟨w.heap.size, 1, none⟩ = some (.slice M m d) := (hb1.cell (p := ⟨w.heap.size, 1, none⟩) (by simp)).trans (by go_simp)
  clear cc hb hb1
  rcases Bool.eq_false_or_eq_true (mineOk J xs) with hok | hok
  · have HO := Lib.hid (mineOk_t hok)
    have HOK := Lib.hid hok
    have hm24 : m ≤ 24 := by have := HO.out.2.1; rw [HLm.out] at this; exact this
    have HQ0 := Lib.hid (ints_len hr1)
    have cq := within_any q (-900) 900 w1
    rcases Bool.eq_false_or_eq_true (inB q (-900) 900) with hq | hq
    · rw [hq] at cq
      have HQ := Lib.hid hq
      obtain ⟨q1, q2⟩ := inB_t hq
      clear hq
      go_wp2_with fail; ((with_reducible refine (cq).mono ?_); rintro e w' ⟨rfl, rfl⟩)
      have ct := hasList_any J M m d A1 n1 c1 (-300) 600 fs1 w1 ((hr1.below B1).more B1.size) hn1
      rcases Bool.eq_false_or_eq_true (lstOk m (-300) 600 fs1) with hl | hl
      · have HL := Lib.hid hl
        rw [hl] at ct
        clear hl
        go_wp2_with fail; ((with_reducible refine (ct).mono ?_); rintro e w2 ⟨rfl, hb2⟩)
        have B2 : Below w.heap.size w w2 := B1.trans (hb2.mono B1.size)
        have z2 : w.heap.size < w2.heap.size := by have h := hb2.size; omega
        have g0_2 : w2.cell? ⟨w.heap.size, 0, none⟩ = some (.int .i64 J) := (hb2.cell (p := ⟨w.heap.size, 0, none⟩) z1).trans g0_1
        have g1_2 : w2.cell? ⟨w.heap.size, 1, none⟩ = some (.slice M m d) := (hb2.cell (p := ⟨w.heap.size, 1, none⟩) z1).trans g1_1
        clear hb2 g0_1 g1_1
        have cr := hasAirways_any J M m d A2 n2 c2 fs2 w2 ((hr2.below B2).more B2.size) hn2 (by omega)
        rcases Bool.eq_false_or_eq_true (risesOk fs2 0 ((m : Int) - 1)) with hs | hs
        · have HS := Lib.hid hs
          have H2 : Hid ((lstOk xs.length (-300) 600 fs1 && risesOk fs2 0 ((xs.length : Int) - 1)) = true) := show _ = _ by rw [HLm.out, HL.out, hs]; rfl
          rw [hs] at cr
          clear hs
          go_wp2_with fail; ((with_reducible refine (cr).mono ?_); rintro e w3 ⟨rfl, hb3⟩)
          clear cq ct cr
          have B3 : Below w.heap.size w w3 := B2.trans (hb3.mono B2.size)
          have z3 : w.heap.size < w3.heap.size := by have h := hb3.size; omega
          have g0_3 : w3.cell? ⟨w.heap.size, 0, none⟩ = some (.int .i64 J) := (hb3.cell (p := ⟨w.heap.size, 0, none⟩) z2).trans g0_2
          have g1_3 : w3.cell? ⟨w.heap.size, 1, none⟩ = some (.slice M m d) := (hb3.cell (p := ⟨w.heap.size, 1, none⟩) z2).trans g1_2
          clear hb3 g0_2 g1_2
          have ccp := clone_any A1 n1 c1 fs1 w3 ((hr1.below B3).more B3.size) hn1
          go_wp2_with fail; ((with_reducible refine (ccp).mono ?_); rintro e w4 ⟨A3, c3, rfl, hoc, hb4⟩)
          clear ccp
          have B4 : Below w.heap.size w w4 := B3.trans (hb4.mono B3.size)
          have z4 : w.heap.size < w4.heap.size := by have h := hb4.size; omega
          have g0_4 : w4.cell? ⟨w.heap.size, 0, none⟩ = some (.int .i64 J) := (hb4.cell (p := ⟨w.heap.size, 0, none⟩) z3).trans g0_3
          have g1_4 : w4.cell? ⟨w.heap.size, 1, none⟩ = some (.slice M m d) := (hb4.cell (p := ⟨w.heap.size, 1, none⟩) z3).trans g1_3
          have hbc := hb4
          clear hb4
          have hn1m : n1 = m := by have h1 := (lstOk_t HL.out).1; have h2 := HQ0.out; omega
          have HB := Lib.hid (wmTo_bnd (as_ := fs2) (lstOk_t HL.out).2 q1 q2)
          have HL2 := Lib.hid (ints_len hr2)
          have R2 := (hr2.below B4).more B4.size
          subst hn1m
          go_wp2
          go_loopw [36] (fun i wr => ∃ (k : Nat), k ≤ n2 ∧ i = .int .i64 k ∧ wr.ownsRow w3.heap.size 2 1 (.slice A3 n1 c3) n1 (ints (wmTo fs1 fs2 q k)) ∧ Below w3.heap.size w3 wr) (fun i _ => n2 - (intOf i).toNat)
          case atStart => exact ⟨0, by omega, rfl, hoc, hbc⟩
          case round =>
            obtain ⟨k, hk, rfl, hown, hbr⟩ := hrel
            obtain ⟨wo, rfl⟩ : ∃ wo : World, wo = wr := ⟨_, rfl⟩
            have Bo := B3.trans (hbr.mono B3.size)
            by_cases hlt : k < n2
            · obtain ⟨ad, u, rfl, had, hx, hc⟩ := (hr2.below Bo).at_ hlt
              obtain ⟨a, ha, rfl⟩ := ints_at hx
              obtain ⟨ra1, ra2⟩ := rises_mem HS.out ha
              obtain ⟨i, rfl⟩ : ∃ i : Nat, a = i := ⟨a.toNat, by omega⟩
              have him : i < n1 := by omega
              have hlen : (wmTo fs1 fs2 q k).length = n1 := by rw [wmTo_len]; exact HQ0.out
              obtain ⟨g, cur, rfl, hbg, hblk, hnc, hcm, hcs, htk⟩ := own_blk hown (by omega)
              obtain ⟨v, hv⟩ : ∃ v, (wmTo fs1 fs2 q k)[i]? = some v := ⟨_, List.getElem?_eq_getElem (by omega)⟩
              have hvb := HB.out k i
              rw [getD_of hv] at hvb
              obtain ⟨v1, v2⟩ := hvb
              have hcv := blk_int hblk htk hlen hv
              have HY := Lib.hid (wmTo_snoc (ts := fs1) (q := q) ha rfl)
              have HG := Lib.hid (getD_of hv)
              have HT := Lib.hid htk
              have HLN := Lib.hid hlen
              have HNC := Lib.hid hnc
              have HCM := Lib.hid hcm
              have HCS := Lib.hid hcs
              have hfz := hblk.frozen i
              have himI : (i : Int) < (n1 : Int) := by omega
              clear hx ha hv htk hlen hnc hcm hcs hown
              go_wp2
              go_roundw
              case rel =>
                refine ⟨k + 1, by omega, by go_num, ?_, hbr.setCell hbg _⟩
                rw [HY.out, HG.out]
                exact blk_own (hblk.set_ i _) hbg HNC.out HCM.out (by rw [Array.size_setIfInBounds]; exact HCS.out) (by rw [List.length_set]; exact HLN.out) (take_set_ints HT.out)
              case measure => simp [intOf]; omega
            · have e : k = n2 := by omega
              have HW : Hid (wmTo fs1 fs2 q fs2.length = wmTo fs1 fs2 q k) := show _ = _ by rw [HL2.out, e]
              have zo : w.heap.size < wo.heap.size := by have h := hbr.size; omega
              have go0 : wo.cell? ⟨w.heap.size, 0, none⟩ = some (.int .i64 J) := (hbr.cell (p := ⟨w.heap.size, 0, none⟩) z3).trans g0_3
              have go1 : wo.cell? ⟨w.heap.size, 1, none⟩ = some (.slice M n1 d) := (hbr.cell (p := ⟨w.heap.size, 1, none⟩) z3).trans g1_3
              have cz := hasList_any J M n1 d A3 n1 c3 (-300) 600 (wmTo fs1 fs2 q k) wo (Reads.of_own hown) (by omega)
              clear e
              rcases Bool.eq_false_or_eq_true (lstOk n1 (-300) 600 (wmTo fs1 fs2 q k)) with hf | hf
              · have HV := Lib.hid (wmR_5 HOK.out HQ.out H2.out (by rw [HLm.out, HW.out]; exact hf))
                rw [hf] at cz
                clear hf
                go_wp2_with fail; ((with_reducible refine (cz).mono ?_); rintro e w9 ⟨rfl, hb9⟩)
                go_wp2
                go_ret2
                rw [HV.out, HW.out]
                exact ⟨A3, n1, c3, rfl, own_base (own_below hown hb9) B3.size, by omega, Bo.trans (hb9.mono Bo.size)⟩
              · have HV := Lib.hid (wmR_4 HOK.out HQ.out H2.out (by rw [HLm.out, HW.out]; exact hf))
                rw [hf] at cz
                clear hf
                go_wp2_with fail; ((with_reducible refine (cz).mono ?_); rintro e w9 ⟨rfl, hb9⟩)
                go_wp2
                go_ret2
                rw [HV.out]
                exact ⟨none, 0, 0, rfl, own_nil _ _ _ _, by omega, Bo.trans (hb9.mono Bo.size)⟩
        · have HV := Lib.hid (wmR_3 (ts := fs1) (as_ := fs2) HOK.out HQ.out (by rw [HLm.out, hs, Bool.and_false]))
          rw [hs] at cr
          clear hs
          go_wp2_with fail; ((with_reducible refine (cr).mono ?_); rintro e w3 ⟨rfl, hb3⟩)
          go_wp2
          go_ret2
          rw [HV.out]
          exact ⟨none, 0, 0, rfl, own_nil _ _ _ _, by omega, B2.trans (hb3.mono B2.size)⟩
      · have HV := Lib.hid (wmR_3 (ts := fs1) (as_ := fs2) HOK.out HQ.out (by rw [HLm.out, hl, Bool.false_and]))
        rw [hl] at ct
        clear hl
        go_wp2_with fail; ((with_reducible refine (ct).mono ?_); rintro e w2 ⟨rfl, hb2⟩)
        go_wp2
        go_ret2
        rw [HV.out]
        exact ⟨none, 0, 0, rfl, own_nil _ _ _ _, by omega, B1.trans (hb2.mono B1.size)⟩
    · have HV := Lib.hid (wmR_2 (xs := xs) (ts := fs1) (as_ := fs2) HOK.out hq)
      rw [hq] at cq
      clear hq
      go_wp2_with fail; ((with_reducible refine (cq).mono ?_); rintro e w' ⟨rfl, rfl⟩)
      go_wp2
      go_ret2
      rw [HV.out]
      exact ⟨none, 0, 0, rfl, own_nil _ _ _ _, by omega, B1⟩
  · have HV : Hid (wmR J xs fs1 fs2 q = ([], 1)) := wmR_1 hok
    go_wp2
    go_ret2
    rw [HV.out]
    exact ⟨none, 0, 0, rfl, own_nil _ _ _ _, by omega, B1⟩
end Go.Proofs.Ytgbmpadlfcbcaaa
