/- Contracts of lists of surveys: validity, the surveys of an airway, common bounds. -/
import Derived.Test.YtnaggimfialbfaaSvs
import Derived.Lib.SliceRun
namespace Go.Proofs.Ytnaggimfialbfaa
set_option linter.unusedVariables false
set_option linter.unusedSimpArgs false
open Go.RowKit
def svysOk (xs : List Svy) : Bool := xs.all svyOk && decide (xs.length ≤ 16)
theorem svysOk_t {xs : List Svy} (h : svysOk xs = true) : (∀ x ∈ xs, svyOk x = true) ∧ xs.length ≤ 16 := by
  unfold svysOk at h
  simp only [Bool.and_eq_true, decide_eq_true_eq, List.all_eq_true] at h
  exact h
def strEq (a b : ByteArray) : Bool := a.toList == b.toList
def hitS (xs : List Svy) (s : ByteArray) (k : Nat) : Bool := match xs[k]? with | some x => strEq x.s s | none => false
def ofAt (xs : List Svy) (s : ByteArray) : Nat → List Int
  | 0 => []
  | k + 1 => if hitS xs s k = true then ofAt xs s k ++ [(k : Int)] else ofAt xs s k
theorem hit_of {xs : List Svy} {s : ByteArray} {k : Nat} {x : Svy} (h : xs[k]? = some x) : hitS xs s k = strEq x.s s := by unfold hitS; rw [h]
theorem ofAt_y {xs : List Svy} {s : ByteArray} {k : Nat} (h : hitS xs s k = true) : ofAt xs s (k + 1) = ofAt xs s k ++ [(k : Int)] := by simp [ofAt, h]
theorem ofAt_n {xs : List Svy} {s : ByteArray} {k : Nat} (h : hitS xs s k = false) : ofAt xs s (k + 1) = ofAt xs s k := by simp [ofAt, h]
theorem ofAt_len (xs : List Svy) (s : ByteArray) : ∀ k, (ofAt xs s k).length ≤ k
  | 0 => by simp [ofAt]
  | k + 1 => by
    have h := ofAt_len xs s k
    simp only [ofAt]
    split <;> simp <;> omega
theorem ofAt_mem {xs : List Svy} {s : ByteArray} {i : Int} : ∀ k, i ∈ ofAt xs s k → ∃ j : Nat, i = j ∧ j < k ∧ hitS xs s j = true
  | 0, h => by simp [ofAt] at h
  | k + 1, h => by
    simp only [ofAt] at h
    split at h
    · rename_i hk
      rw [List.mem_append, List.mem_singleton] at h
      rcases h with h | h
      · obtain ⟨j, h1, h2, h3⟩ := ofAt_mem k h
        exact ⟨j, h1, by omega, h3⟩
      · exact ⟨k, h, by omega, hk⟩
    · obtain ⟨j, h1, h2, h3⟩ := ofAt_mem k h
      exact ⟨j, h1, by omega, h3⟩
/-- The surveys of an airway, by their indices. -/
def svOf (xs : List Svy) (s : ByteArray) : List Int := ofAt xs s xs.length
theorem svOf_mem {xs : List Svy} {s : ByteArray} {i : Int} (h : i ∈ svOf xs s) : ∃ (j : Nat) (x : Svy), i = j ∧ xs[j]? = some x := by
  obtain ⟨j, h1, h2, h3⟩ := ofAt_mem _ h
  exact ⟨j, xs[j], h1, List.getElem?_eq_getElem h2⟩
/-- The survey with an index. -/
def svAt (xs : List Svy) (i : Int) : Svy := xs.getD i.toNat default
theorem svAt_eq {xs : List Svy} {j : Nat} {x : Svy} (h : xs[j]? = some x) : svAt xs j = x := by
  unfold svAt; rw [Int.toNat_natCast, List.getD_eq_getElem?_getD, h]; rfl
def cmAt (xs : List Svy) (is : List Int) : Nat → Int × Int
  | 0 => (1, 1000000)
  | k + 1 => (max (cmAt xs is k).1 (lowOf (svAt xs (is.getD k 0))), min (cmAt xs is k).2 (highOf (svAt xs (is.getD k 0))))
theorem cmAt_at {xs : List Svy} {is : List Int} {k : Nat} {i : Int} {x : Svy} (h : is[k]? = some i) (hx : svAt xs i = x) :
    cmAt xs is (k + 1) = (max (cmAt xs is k).1 (lowOf x), min (cmAt xs is k).2 (highOf x)) := by
  have e : is.getD k 0 = i := by rw [List.getD_eq_getElem?_getD, h]; rfl
  simp only [cmAt, e, hx]
def comR (xs : List Svy) (s : ByteArray) : Int × Int × Int :=
  if svysOk xs = true then (if (svOf xs s).length = 0 then (0, 0, 3) else
    if (cmAt xs (svOf xs s) (svOf xs s).length).2 < (cmAt xs (svOf xs s) (svOf xs s).length).1 then (0, 0, 6) else ((cmAt xs (svOf xs s) (svOf xs s).length).1, (cmAt xs (svOf xs s) (svOf xs s).length).2, 0)) else (0, 0, 1)
theorem comR_1 {xs : List Svy} {s : ByteArray} (h : svysOk xs = false) : comR xs s = (0, 0, 1) := by unfold comR; rw [h]; rfl
theorem comR_2 {xs : List Svy} {s : ByteArray} (h : svysOk xs = true) (h0 : (svOf xs s).length = 0) : comR xs s = (0, 0, 3) := by unfold comR; rw [if_pos h, if_pos h0]
theorem comR_3 {xs : List Svy} {s : ByteArray} (h : svysOk xs = true) (h0 : (svOf xs s).length ≠ 0) (h1 : (cmAt xs (svOf xs s) (svOf xs s).length).2 < (cmAt xs (svOf xs s) (svOf xs s).length).1) : comR xs s = (0, 0, 6) := by
  unfold comR; rw [if_pos h, if_neg h0, if_pos h1]
theorem comR_4 {xs : List Svy} {s : ByteArray} (h : svysOk xs = true) (h0 : (svOf xs s).length ≠ 0) (h1 : ¬ (cmAt xs (svOf xs s) (svOf xs s).length).2 < (cmAt xs (svOf xs s) (svOf xs s).length).1) :
    comR xs s = ((cmAt xs (svOf xs s) (svOf xs s).length).1, (cmAt xs (svOf xs s) (svOf xs s).length).2, 0) := by
  unfold comR; rw [if_pos h, if_neg h0, if_neg h1]
theorem ret_int3 {a b c a' b' c' : Int} (h : a = a') (h' : b = b') (h'' : c = c') : Ending.returned (.tuple #[.int .i64 a, .int .i64 b, .int .i64 c]) = .returned (.tuple #[.int .i64 a', .int .i64 b', .int .i64 c']) := by rw [h, h', h'']
set_option maxHeartbeats 800000 in
theorem l05Ok_any (A : Option Addr) (n c : Nat) (xs : List Svy) (w : World) (hr : Reads w w.heap.size 5 A n (Svy.recs xs)) (hn : n ≤ 1048576) (hxs : ∀ x ∈ xs, x.s.size ≤ maxLen) :
    Calls Try.prog 60 #[.slice A n c] w fun e w' => e = .returned (.bool (svysOk xs)) ∧ Below w.heap.size w w' := by
  have HM := Lib.hid hxs
  have HL := Lib.hid (recs_rlen Svy.clen (by omega) hr)
  clear hxs
  go_enter Try.func60, Try.ntmps60
  go_wp2
  go_loopw [3] (fun i wr => ∃ k : Nat, k ≤ n ∧ i = .int .i64 k ∧ Hid ((xs.take k).all svyOk = true) ∧ Below w.heap.size w wr) (fun i _ => n - (intOf i).toNat)
  case atStart => exact ⟨0, by omega, rfl, rfl, Below.refl _ _⟩
  case round =>
    obtain ⟨k, hk, rfl, HK, hbr⟩ := hrel
    by_cases hlt : k < n
    · obtain ⟨ad, x, rfl, had, hx, hc⟩ := (hr.below hbr).rec_at Svy.clen (by omega) hlt
      have hm := HM.out x (List.mem_of_getElem? hx)
      have cc := l05One_any x (ad.add (k * 5)) wr hm hc
      have HX := Lib.hid hx
      clear hx hc
      cases hp : svyOk x <;> rw [hp] at cc
      · have HP := Lib.hid hp
        clear hp
        go_wp2_with fail; ((with_reducible refine cc.mono ?_); rintro e w' ⟨rfl, m, rfl⟩)
        go_wp2
        go_ret
        exact ⟨ret_bool (by unfold svysOk; rw [all_false HX.out HP.out, Bool.false_and]), below_drewN hbr _⟩
      · have HP := Lib.hid hp
        clear hp
        go_wp2_with fail; ((with_reducible refine cc.mono ?_); rintro e w' ⟨rfl, m, rfl⟩)
        go_wp2
        go_roundw
        case rel => exact ⟨k + 1, by omega, by go_num, all_take HX.out HK.out HP.out, below_drewN hbr _⟩
        case measure => simp [intOf]; omega
    · have e : k = n := by omega
      have HA : Hid (xs.all svyOk = true) := all_whole HL.out (e ▸ HK.out)
      have HR : Hid (svysOk xs = decide (n ≤ 16)) := by show svysOk xs = _; unfold svysOk; rw [HA.out, HL.out, Bool.true_and]
      clear e
      go_wp2
      go_ret
      exact ⟨ret_bool (by rw [HR.out]; exact Bool.eq_iff_iff.2 (by simp only [decide_eq_true_eq]; omega)), hbr⟩
theorem svyClosure_any (x : Svy) (w : World) (hs : x.s.size ≤ maxLen) :
    Calls Try.prog 87 #[.agg #[.string x.s, .int .i64 x.d, .int .i64 x.e, .int .i64 x.f, .int .i64 x.g]] w fun e w' => e = .returned (.bool (!svyOk x)) ∧ Below w.heap.size w w' := by
  go_enter Try.func87, Try.ntmps87
  go_wp2_with fail; ((with_reducible refine (ValidSurvey_any x _ hs).mono ?_); rintro e w1 ⟨rfl, hb1⟩)
  go_wp2
  go_ret
  exact ⟨rfl, ((Below.refl _ _).alloc (Nat.le_refl _) _).trans (hb1.mono (by simp))⟩
set_option maxHeartbeats 800000 in
theorem indexSvy_any (A : Option Addr) (n c : Nat) (xs : List Svy) (g : Nat) (cb : Array Value) (p : Svy → Bool) (w : World) (eg : ∀ args W, (callFunc g args).run Try.prog W = .ok (.enter g args) W)
    (hr : Reads w w.heap.size 5 A n (Svy.recs xs)) (hn : n ≤ 1099511627776)
    (hf : ∀ (W : World) (x : Svy), Below w.heap.size w W → x ∈ xs → Calls Try.prog g (#[.agg #[.string x.s, .int .i64 x.d, .int .i64 x.e, .int .i64 x.f, .int .i64 x.g]] ++ cb) W fun e w' => e = .returned (.bool (p x)) ∧ Below W.heap.size W w') :
    Calls Try.prog 100 #[.slice A n c, .func (.func g) #[] cb] w fun e w' => e = .returned (.int .i64 (idxI p xs)) ∧ Below w.heap.size w w' := by
  have HF := Lib.hid hf
  have HL := Lib.hid (recs_rlen Svy.clen (by omega) hr)
  clear hf
  go_enter Try.func100, Try.ntmps100
  go_wp2
  go_loopw [8] (fun i wr => ∃ k : Nat, k ≤ n ∧ i = .int .i64 k ∧ Hid ((xs.take k).any p = false) ∧ Below w.heap.size w wr) (fun i _ => n - (intOf i).toNat)
  case atStart => exact ⟨0, by omega, rfl, by simp [Hid], Below.refl _ _⟩
  case round =>
    obtain ⟨k, hk, rfl, HK, hbw⟩ := hrel
    by_cases hlt : k < n
    · obtain ⟨ad, x, rfl, had, hx, hc⟩ := (hr.below hbw).rec_at Svy.clen (by omega) hlt
      have hcall := HF.out wr x hbw (mem_of_at hx)
      have HX := Lib.hid hx
      obtain ⟨h0, h1, h2, h3, h4⟩ := Svy.open_ hc
      clear hx hc
      cases hp : p x <;> rw [hp] at hcall
      · have HP := Lib.hid hp
        clear hp
        go_wp2_with (go_at_fn g; refine hcall.mono ?_; rintro e w' ⟨rfl, hb1⟩)
        go_roundw
        case rel => exact ⟨k + 1, by omega, by go_num, any_take HX.out HK.out HP.out, hbw.trans (hb1.mono hbw.size)⟩
        case measure => simp [intOf]; omega
      · have HP := Lib.hid hp
        clear hp
        go_wp2_with (go_at_fn g; refine hcall.mono ?_; rintro e w' ⟨rfl, hb1⟩)
        go_ret
        exact ⟨ret_int (idx_at HX.out HP.out HK.out).symm, hbw.trans (hb1.mono hbw.size)⟩
    · have e : k = n := by omega
      subst e
      go_wp2
      go_ret
      have hall : xs.any p = false := by have := HK.out; rwa [List.take_of_length_le (by rw [HL.out]; omega)] at this
      exact ⟨ret_int (idx_none hall).symm, hbw⟩
theorem containsSvy_any (A : Option Addr) (n c : Nat) (xs : List Svy) (g : Nat) (cb : Array Value) (p : Svy → Bool) (w : World) (eg : ∀ args W, (callFunc g args).run Try.prog W = .ok (.enter g args) W)
    (hr : Reads w w.heap.size 5 A n (Svy.recs xs)) (hn : n ≤ 1099511627776)
    (hf : ∀ (W : World) (x : Svy), Below w.heap.size w W → x ∈ xs → Calls Try.prog g (#[.agg #[.string x.s, .int .i64 x.d, .int .i64 x.e, .int .i64 x.f, .int .i64 x.g]] ++ cb) W fun e w' => e = .returned (.bool (p x)) ∧ Below W.heap.size W w') :
    Calls Try.prog 86 #[.slice A n c, .func (.func g) #[] cb] w fun e w' => e = .returned (.bool (xs.any p)) ∧ Below w.heap.size w w' := by
  have hc := indexSvy_any A n c xs g cb p w eg hr hn hf
  have HD := Lib.hid (idx_any (p := p) (xs := xs))
  clear hf
  go_enter Try.func86, Try.ntmps86
  go_wp2_with fail; ((with_reducible refine hc.mono ?_); rintro e w1 ⟨rfl, hb1⟩)
  go_wp2
  go_ret
  exact ⟨ret_bool HD.out, hb1⟩
set_option maxRecDepth 100000 in
theorem surveysOk_any (A : Option Addr) (n c : Nat) (xs : List Svy) (w : World) (hr : Reads w w.heap.size 5 A n (Svy.recs xs)) (hn : n ≤ 1048576) (hxs : ∀ x ∈ xs, x.s.size ≤ maxLen) :
    Calls Try.prog 64 #[.slice A n c] w fun e w' => e = .returned (.bool (svysOk xs)) ∧ Below w.heap.size w w' := by
  have cc := containsSvy_any A n c xs 87 #[] (fun x => !svyOk x) w (fun _ _ => rfl) hr (by omega) fun W x hb hx => svyClosure_any x W (hxs x hx)
  have HL := recs_rlen Svy.clen (by omega) hr
  rw [show (xs.any fun x => !svyOk x) = !xs.all svyOk by rw [← any_not]; simp] at cc
  have HV : Hid (svysOk xs = (xs.all svyOk && decide (n ≤ 16))) := show svysOk xs = _ by unfold svysOk; rw [HL]
  clear hxs HL
  by_cases h16 : n ≤ 16
  all_goals
    go_enter Try.func64, Try.ntmps64
    first
    | (go_wp2_with fail; ((with_reducible refine cc.mono ?_); rintro e w1 ⟨rfl, hb1⟩)
       go_wp2
       go_ret
       exact ⟨ret_bool (by rw [HV.out, decide_eq_true h16]; simp), hb1⟩)
    | (go_wp2
       go_ret
       exact ⟨ret_bool (by rw [HV.out, decide_eq_false h16]; simp), Below.refl _ _⟩)
set_option maxHeartbeats 1600000 in
theorem l05Of_any (A : Option Addr) (n c : Nat) (xs : List Svy) (s : ByteArray) (w : World) (hr : Reads w w.heap.size 5 A n (Svy.recs xs)) (hn : n ≤ 1048576) :
    Calls Try.prog 61 #[.slice A n c, .string s] w fun e w' => ∃ A' n' c', e = .returned (.slice A' n' c') ∧ w'.ownsRow w.heap.size 2 1 (.slice A' n' c') n' (ints (svOf xs s)) ∧ n' ≤ n ∧ Below w.heap.size w w' := by
  obtain ⟨i0, hi0, hz0, hz1, hz2⟩ := info_parts info_Int64S
  have HL := Lib.hid (recs_rlen Svy.clen (by omega) hr)
  go_enter Try.func61, Try.ntmps61
  go_wp2
  go_loopw [5, 6] (fun o i wr => ∃ (k m : Nat) (A' : Option Addr) (c' : Nat), k ≤ n ∧ m ≤ k ∧ o = .slice A' m c' ∧ i = .int .i64 k ∧ wr.ownsRow w.heap.size 2 1 (.slice A' m c') m (ints (ofAt xs s k)) ∧ Below w.heap.size w wr) (fun _ i _ => n - (intOf i).toNat)
  case atStart => exact ⟨0, 0, _, 0, by omega, by omega, rfl, rfl, own_empty _ _ _, by (repeat (first | exact Below.refl _ _ | assumption | (refine Below.alloc ?_ (by first | exact Nat.le_refl _ | (simp; done) | (simp; omega)) _) | (refine below_drewN ?_ _) | (refine Below.trans ?_ (Below.mono (by assumption) (by first | exact Nat.le_refl _ | (simp; done) | (simp; omega) | omega)))))⟩
  case round =>
    obtain ⟨k, m, A', c', hk, hm, rfl, rfl, hown, hbr⟩ := hrel
    by_cases hlt : k < n
    · obtain ⟨ad, x, rfl, had, hx, hc⟩ := (hr.below hbr).rec_at Svy.clen (by omega) hlt
      obtain ⟨h0, h1, h2, h3, h4⟩ := Svy.open_ hc
      have HH := Lib.hid (hit_of (s := s) hx)
      clear hx hc
      cases he : strEq x.s s
      · have he' : (x.s.toList == s.toList) = false := he
        have HN := Lib.hid (ofAt_n (HH.out.trans he))
        clear he
        go_wp2
        go_roundw
        case rel => exact ⟨k + 1, m, A', c', by omega, by omega, rfl, by go_num, by rw [HN.out]; exact hown, hbr⟩
        case measure => simp [intOf]; omega
      · have he' : (x.s.toList == s.toList) = true := he
        have HN := Lib.hid (ofAt_y (HH.out.trans he))
        clear he
        go_wp2_with (at_builtin; (refine wpList_app _ rfl _ _ 41 rfl w.heap.size 2 i0 _ 1 8 Try.underlying41 hi0 hz0 hz1 hz2 rfl (by omega) A' _ c' _ rfl ((hown).alloc _) ⟨_, 0, none⟩ 1 1 [.int .i64 (k : Int)] rfl rfl (cell_one_at (by simp) _ _) (by simp [Value.oneCell']) (by unfold maxLen; omega) (by omega) (by have hz := (hbr).size; simp at hz ⊢; omega) ?_); intro A1 c1 w2 ho2 hb2)
        go_roundw
        case rel => exact ⟨k + 1, m + 1, A1, c1, by omega, by omega, by first | rfl | go_num, by go_num, by rw [HN.out]; simpa [ints] using ho2, (hbr.alloc hbr.size _).trans hb2⟩
        case measure => simp [intOf]; omega
    · have e : k = n := by omega
      subst e
      have HV : Hid (ofAt xs s k = svOf xs s) := show _ = _ by unfold svOf; rw [HL.out]
      rw [HV.out] at hown
      go_wp2
      go_ret
      exact ⟨A', m, c', rfl, hown, hm, hbr⟩
set_option maxHeartbeats 1600000 in
set_option maxRecDepth 100000 in
theorem surveysOf_any (A : Option Addr) (n c : Nat) (xs : List Svy) (s : ByteArray) (w : World) (hr : Reads w w.heap.size 5 A n (Svy.recs xs)) (hn : n ≤ 1048576) :
    Calls Try.prog 65 #[.slice A n c, .string s] w fun e w' => ∃ A' n' c', e = .returned (.slice A' n' c') ∧ w'.ownsRow w.heap.size 2 1 (.slice A' n' c') n' (ints (svOf xs s)) ∧ n' ≤ n ∧ Below w.heap.size w w' := by
  obtain ⟨i0, hi0, hz0, hz1, hz2⟩ := info_parts info_Int64S
  have HL := Lib.hid (recs_rlen Svy.clen (by omega) hr)
  go_enter Try.func65, Try.ntmps65
  go_wp2
  go_loopw [5, 10] (fun o i wr => ∃ (k m : Nat) (A' : Option Addr) (c' : Nat), k ≤ n ∧ m ≤ k ∧ o = .slice A' m c' ∧ i = .int .i64 k ∧ wr.ownsRow w.heap.size 2 1 (.slice A' m c') m (ints (ofAt xs s k)) ∧ Below w.heap.size w wr) (fun _ i _ => n - (intOf i).toNat)
  case atStart => exact ⟨0, 0, none, 0, by omega, by omega, rfl, rfl, own_nil _ _ _ _, Below.refl _ _⟩
  case round =>
    obtain ⟨k, m, A', c', hk, hm, rfl, rfl, hown, hbr⟩ := hrel
    by_cases hlt : k < n
    · obtain ⟨ad, x, rfl, had, hx, hc⟩ := (hr.below hbr).rec_at Svy.clen (by omega) hlt
      obtain ⟨h0, h1, h2, h3, h4⟩ := Svy.open_ hc
      have HH := Lib.hid (hit_of (s := s) hx)
      have hz := hbr.size
      clear hx hc
      cases he : strEq x.s s
      · have he' : (x.s.toList == s.toList) = false := he
        have HN := Lib.hid (ofAt_n (HH.out.trans he))
        clear he
        go_wp2
        go_roundw
        case rel => exact ⟨k + 1, m, A', c', by omega, by omega, rfl, by go_num, by rw [HN.out]; exact own_below hown (by (repeat (first | exact Below.refl _ _ | assumption | (refine Below.alloc ?_ (by first | exact Nat.le_refl _ | (simp; done) | (simp; omega)) _) | (refine below_drewN ?_ _) | (refine Below.trans ?_ (Below.mono (by assumption) (by first | exact Nat.le_refl _ | (simp; done) | (simp; omega) | omega)))))), hbr.alloc hbr.size _⟩
        case measure => simp [intOf]; omega
      · have he' : (x.s.toList == s.toList) = true := he
        have HN := Lib.hid (ofAt_y (HH.out.trans he))
        clear he
        go_wp2_with (at_builtin; (refine wpList_app _ rfl _ _ 41 rfl w.heap.size 2 i0 _ 1 8 Try.underlying41 hi0 hz0 hz1 hz2 rfl (by omega) A' _ c' _ rfl ((hown.alloc _).alloc _) ⟨_, 0, none⟩ 1 1 [.int .i64 (k : Int)] rfl rfl (cell_one_at (by simp) _ _) (by simp [Value.oneCell']) (by unfold maxLen; omega) (by omega) (by have hz := (hbr).size; simp at hz ⊢; omega) ?_); intro A1 c1 w2 ho2 hb2)
        go_roundw
        case rel => exact ⟨k + 1, m + 1, A1, c1, by omega, by omega, by first | rfl | go_num, by go_num, by rw [HN.out]; simpa [ints] using ho2, ((hbr.alloc hbr.size _).alloc (by simp; omega) _).trans hb2⟩
        case measure => simp [intOf]; omega
    · have e : k = n := by omega
      subst e
      have HV : Hid (ofAt xs s k = svOf xs s) := show _ = _ by unfold svOf; rw [HL.out]
      rw [HV.out] at hown
      go_wp2
      go_ret
      exact ⟨A', m, c', rfl, hown, hm, hbr⟩
end Go.Proofs.Ytnaggimfialbfaa
