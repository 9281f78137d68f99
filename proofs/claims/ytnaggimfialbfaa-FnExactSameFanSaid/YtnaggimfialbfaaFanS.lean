/- Contracts of equal fans. -/
import Derived.Test.YtnaggimfialbfaaFanH
import Derived.Test.YtnaggimfialbfaaFan
namespace Go.Proofs.Ytnaggimfialbfaa
set_option linter.unusedVariables false
set_option linter.unusedSimpArgs false
open Go.RowKit
theorem take_same {α : Type} {xs ys : List α} {k : Nat} {x y : α} (h : xs.take k = ys.take k) (hx : xs[k]? = some x) (hy : ys[k]? = some y) (e : x = y) : xs.take (k + 1) = ys.take (k + 1) := by
  rw [take_snoc hx, take_snoc hy, h, e]
theorem not_same {α : Type} {xs ys : List α} {k : Nat} {x y : α} (hx : xs[k]? = some x) (hy : ys[k]? = some y) (e : x ≠ y) : xs ≠ ys := by
  intro h; rw [h, hy] at hx; exact e (Option.some.inj hx).symm
theorem all_same {α : Type} {xs ys : List α} {n : Nat} (h : xs.take n = ys.take n) (h1 : xs.length = n) (h2 : ys.length = n) : xs = ys := by
  rwa [List.take_of_length_le (by omega), List.take_of_length_le (by omega)] at h
def sameFan (s : ByteArray) (a : Int) (ls : List (List Int)) (t : ByteArray) (b : Int) (ms : List (List Int)) : Bool := (s.toList == t.toList) && (a == b) && decide (ls = ms)
set_option maxHeartbeats 1600000 in
theorem l00Same_any (A B : Option Addr) (n c m d : Nat) (xs ys : List Int) (w : World) (hr : Reads w w.heap.size 1 A n (ints xs)) (hq : Reads w w.heap.size 1 B m (ints ys)) (hn : n ≤ 1099511627776) (hm : m ≤ 1099511627776) :
    Calls Try.prog 102 #[.slice A n c, .slice B m d] w fun e w' => e = .returned (.bool (decide (xs = ys))) ∧ ∃ q, w' = w.drewN q := by
  have HL := Lib.hid (ints_len hr)
  have HM := Lib.hid (ints_len hq)
  by_cases hnm : n = m
  · subst hnm
    go_enter Try.func102, Try.ntmps102
    go_wp2
    go_loopw [5] (fun i wr => ∃ (k q : Nat), k ≤ n ∧ i = .int .i64 k ∧ Hid (xs.take k = ys.take k) ∧ wr = w.drewN q) (fun i _ => n - (intOf i).toNat)
    case atStart => exact ⟨0, 0, by omega, rfl, by simp [Hid], rfl⟩
    case round =>
      obtain ⟨k, q, hk, rfl, HK, rfl⟩ := hrel
      by_cases hlt : k < n
      · obtain ⟨ad, u, rfl, had, hx, hc⟩ := hr.at_ hlt
        obtain ⟨bd, v, rfl, hbd, hy, hc'⟩ := hq.at_ hlt
        obtain ⟨x, hx1, rfl⟩ := ints_at hx
        obtain ⟨y, hy1, rfl⟩ := ints_at hy
        have HX := Lib.hid (And.intro hx1 hy1)
        clear hx hy hx1 hy1
        have hlt' : (k : Int) < (n : Int) := by omega
        cases hp : x == y
        · have hp' : (x != y) = true := by simp [bne, hp]
          have HN := Lib.hid (not_same HX.out.1 HX.out.2 (by simpa using hp))
          clear hp
          go_wp2_with fail
          go_quiet (fail)
          go_wp2
          go_ret
          exact ⟨ret_bool (decide_eq_false HN.out).symm, q + nq, by first | rfl | exact World.drewN_drewN _ _ _⟩
        · have hp' : (x != y) = false := by simp [bne, hp]
          have HN := Lib.hid (take_same HK.out HX.out.1 HX.out.2 (by simpa using hp))
          clear hp
          go_wp2_with fail
          go_quiet (fail)
          go_wp2
          go_roundw
          case rel => exact ⟨k + 1, q + nq, by omega, by go_num, HN.out, by first | rfl | exact World.drewN_drewN _ _ _⟩
          case measure => simp [intOf]; omega
      · have e : k = n := by omega
        subst e
        have HN := Lib.hid (all_same HK.out HL.out HM.out)
        go_wp2
        go_ret
        exact ⟨ret_bool (decide_eq_true HN.out).symm, _, rfl⟩
  · have hne : ((n : Int) != (m : Int)) = true := by rw [bne_iff_ne]; omega
    have HN : Hid (xs ≠ ys) := fun h => hnm (by rw [← HL.out, ← HM.out, h])
    go_enter Try.func102, Try.ntmps102
    go_wp2
    go_ret
    exact ⟨ret_bool (decide_eq_false HN.out).symm, 0, rfl⟩
set_option maxHeartbeats 1600000 in
theorem slicesEqual_any (A B : Option Addr) (n c m d : Nat) (xs ys : List Int) (w : World) (hr : Reads w w.heap.size 1 A n (ints xs)) (hq : Reads w w.heap.size 1 B m (ints ys)) (hn : n ≤ 1099511627776) (hm : m ≤ 1099511627776) :
    Calls Try.prog 75 #[.slice A n c, .slice B m d] w fun e w' => e = .returned (.bool (decide (xs = ys))) ∧ ∃ q, w' = w.drewN q := by
  have HL := Lib.hid (ints_len hr)
  have HM := Lib.hid (ints_len hq)
  by_cases hnm : n = m
  · subst hnm
    go_enter Try.func75, Try.ntmps75
    go_wp2
    go_loopw [13] (fun i wr => ∃ (k q : Nat), k ≤ n ∧ i = .int .i64 k ∧ Hid (xs.take k = ys.take k) ∧ wr = w.drewN q) (fun i _ => n - (intOf i).toNat)
    case atStart => exact ⟨0, 0, by omega, rfl, by simp [Hid], rfl⟩
    case round =>
      obtain ⟨k, q, hk, rfl, HK, rfl⟩ := hrel
      by_cases hlt : k < n
      · obtain ⟨ad, u, rfl, had, hx, hc⟩ := hr.at_ hlt
        obtain ⟨bd, v, rfl, hbd, hy, hc'⟩ := hq.at_ hlt
        obtain ⟨x, hx1, rfl⟩ := ints_at hx
        obtain ⟨y, hy1, rfl⟩ := ints_at hy
        have HX := Lib.hid (And.intro hx1 hy1)
        clear hx hy hx1 hy1
        have hlt' : (k : Int) < (n : Int) := by omega
        cases hp : x == y
        · have hp' : (x != y) = true := by simp [bne, hp]
          have HN := Lib.hid (not_same HX.out.1 HX.out.2 (by simpa using hp))
          clear hp
          go_wp2_with fail
          go_quiet (fail)
          go_wp2
          go_ret
          exact ⟨ret_bool (decide_eq_false HN.out).symm, q + nq, by first | rfl | exact World.drewN_drewN _ _ _⟩
        · have hp' : (x != y) = false := by simp [bne, hp]
          have HN := Lib.hid (take_same HK.out HX.out.1 HX.out.2 (by simpa using hp))
          clear hp
          go_wp2_with fail
          go_quiet (fail)
          go_wp2
          go_roundw
          case rel => exact ⟨k + 1, q + nq, by omega, by go_num, HN.out, by first | rfl | exact World.drewN_drewN _ _ _⟩
          case measure => simp [intOf]; omega
      · have e : k = n := by omega
        subst e
        have HN := Lib.hid (all_same HK.out HL.out HM.out)
        go_wp2
        go_ret
        exact ⟨ret_bool (decide_eq_true HN.out).symm, _, rfl⟩
  · have hne : ((n : Int) != (m : Int)) = true := by rw [bne_iff_ne]; omega
    have HN : Hid (xs ≠ ys) := fun h => hnm (by rw [← HL.out, ← HM.out, h])
    go_enter Try.func75, Try.ntmps75
    go_wp2
    go_ret
    exact ⟨ret_bool (decide_eq_false HN.out).symm, 0, rfl⟩
set_option maxHeartbeats 1600000 in
theorem l06Rows_any (A B : Option Addr) (n c m d : Nat) (rs qs : List Row) (w : World) (hr : RSS w w.heap.size A n rs) (hq : RSS w w.heap.size B m qs) (hn : n ≤ 1048576) (hm : m ≤ 1048576) (hrn : ∀ r ∈ rs, r.n ≤ 1048576) (hqn : ∀ r ∈ qs, r.n ≤ 1048576) :
    Calls Try.prog 94 #[.slice A n c, .slice B m d] w fun e w' => e = .returned (.bool (decide (dat rs = dat qs))) ∧ ∃ q, w' = w.drewN q := by
  have HL : Hid ((dat rs).length = n) := show _ = _ by rw [dat_len]; exact hr.len
  have HM : Hid ((dat qs).length = m) := show _ = _ by rw [dat_len]; exact hq.len
  have HB := Lib.hid (And.intro hrn hqn)
  clear hrn hqn
  by_cases hnm : n = m
  · subst hnm
    go_enter Try.func94, Try.ntmps94
    go_wp2
    go_loopw [5] (fun i wr => ∃ (k q : Nat), k ≤ n ∧ i = .int .i64 k ∧ Hid ((dat rs).take k = (dat qs).take k) ∧ wr = w.drewN q) (fun i _ => n - (intOf i).toNat)
    case atStart => exact ⟨0, 0, by omega, rfl, by simp [Hid], rfl⟩
    case round =>
      obtain ⟨k, q, hk, rfl, HK, rfl⟩ := hrel
      by_cases hlt : k < n
      · obtain ⟨ad, x, rfl, hx, hc, hxx⟩ := hr.at_ hlt
        obtain ⟨bd, y, rfl, hy, hc', hyy⟩ := hq.at_ hlt
        have HX := Lib.hid (And.intro (dat_at hx) (dat_at hy))
        have b1 := HB.out.1 x (mem_of_at hx)
        have b2 := HB.out.2 y (mem_of_at hy)
        clear hx hy
        have hlt' : (k : Int) < (n : Int) := by omega
        have HC : Hid (∀ p, Calls Try.prog 102 #[.slice x.A x.n x.c, .slice y.A y.n y.c] ((w.drewN q).drewN p) fun e w' => e = .returned (.bool (decide (x.xs = y.xs))) ∧ ∃ j, w' = ((w.drewN q).drewN p).drewN j) :=
          fun p => l00Same_any x.A y.A x.n x.c y.n y.c x.xs y.xs _ ((hxx.drewN q).drewN p) ((hyy.drewN q).drewN p) (by omega) (by omega)
        obtain ⟨W, hW⟩ : ∃ W : World, Hid (W = w.drewN q) := ⟨_, rfl⟩
        have hcW : W.cell? (ad.add k) = some (.slice x.A x.n x.c) := by rw [hW.out]; exact hc
        have hcW' : W.cell? (bd.add k) = some (.slice y.A y.n y.c) := by rw [hW.out]; exact hc'
        rw [← hW.out] at HC ⊢
        by_cases hp : x.xs = y.xs
        · have HN := Lib.hid (take_same HK.out HX.out.1 HX.out.2 hp)
          have HC2 : Hid (∀ p, Calls Try.prog 102 #[.slice x.A x.n x.c, .slice y.A y.n y.c] (W.drewN p) fun e w' => e = .returned (.bool true) ∧ ∃ j, w' = (W.drewN p).drewN j) := fun p => by
            have := HC.out p; rwa [decide_eq_true hp] at this
          clear hp HC
          go_wp2_with fail
          go_quiet ((go_at_call 102; exact Calls.quiet_of (HC2.out _)))
          go_wp2
          go_roundw
          case rel => exact ⟨k + 1, q + nq, by omega, by go_num, HN.out, by rw [hW.out, World.drewN_drewN]⟩
          case measure => simp [intOf]; omega
        · have HN := Lib.hid (not_same HX.out.1 HX.out.2 hp)
          have HC2 : Hid (∀ p, Calls Try.prog 102 #[.slice x.A x.n x.c, .slice y.A y.n y.c] (W.drewN p) fun e w' => e = .returned (.bool false) ∧ ∃ j, w' = (W.drewN p).drewN j) := fun p => by
            have := HC.out p; rwa [decide_eq_false hp] at this
          clear hp HC
          go_wp2_with fail
          go_quiet ((go_at_call 102; exact Calls.quiet_of (HC2.out _)))
          go_wp2
          go_ret
          exact ⟨ret_bool (decide_eq_false HN.out).symm, q + nq, by rw [hW.out, World.drewN_drewN]⟩
      · have e : k = n := by omega
        subst e
        have HN := Lib.hid (all_same HK.out HL.out HM.out)
        go_wp2
        go_ret
        exact ⟨ret_bool (decide_eq_true HN.out).symm, _, rfl⟩
  · have hne : ((n : Int) != (m : Int)) = true := by rw [bne_iff_ne]; omega
    have HN : Hid (dat rs ≠ dat qs) := fun h => hnm (by rw [← HL.out, ← HM.out, h])
    go_enter Try.func94, Try.ntmps94
    go_wp2
    go_ret
    exact ⟨ret_bool (decide_eq_false HN.out).symm, 0, rfl⟩
set_option maxHeartbeats 1600000 in
set_option maxRecDepth 100000 in
theorem equalFunc_any (A B : Option Addr) (n c m d : Nat) (rs qs : List Row) (w : World) (hr : RSS w w.heap.size A n rs) (hq : RSS w w.heap.size B m qs) (hn : n ≤ 1048576) (hm : m ≤ 1048576) (hrn : ∀ r ∈ rs, r.n ≤ 1048576) (hqn : ∀ r ∈ qs, r.n ≤ 1048576) :
    Calls Try.prog 74 #[.slice A n c, .slice B m d, .func (.func 75) #[] #[]] w fun e w' => e = .returned (.bool (decide (dat rs = dat qs))) ∧ ∃ q, w' = w.drewN q := by
  have HL : Hid ((dat rs).length = n) := show _ = _ by rw [dat_len]; exact hr.len
  have HM : Hid ((dat qs).length = m) := show _ = _ by rw [dat_len]; exact hq.len
  have HB := Lib.hid (And.intro hrn hqn)
  have eg : ∀ args W, (callFunc 75 args).run Try.prog W = .ok (.enter 75 args) W := fun _ _ => rfl
  clear hrn hqn
  by_cases hnm : n = m
  · subst hnm
    go_enter Try.func74, Try.ntmps74
    go_wp2
    go_loopw [17] (fun i wr => ∃ (k q : Nat), k ≤ n ∧ i = .int .i64 k ∧ Hid ((dat rs).take k = (dat qs).take k) ∧ wr = w.drewN q) (fun i _ => n - (intOf i).toNat)
    case atStart => exact ⟨0, 0, by omega, rfl, by simp [Hid], rfl⟩
    case round =>
      obtain ⟨k, q, hk, rfl, HK, rfl⟩ := hrel
      by_cases hlt : k < n
      · obtain ⟨ad, x, rfl, hx, hc, hxx⟩ := hr.at_ hlt
        obtain ⟨bd, y, rfl, hy, hc', hyy⟩ := hq.at_ hlt
        have HX := Lib.hid (And.intro (dat_at hx) (dat_at hy))
        have b1 := HB.out.1 x (mem_of_at hx)
        have b2 := HB.out.2 y (mem_of_at hy)
        clear hx hy
        have cc := slicesEqual_any x.A y.A x.n x.c y.n y.c x.xs y.xs (w.drewN q) (hxx.drewN q) (hyy.drewN q) (by omega) (by omega)
        by_cases hp : x.xs = y.xs
        · have HN := Lib.hid (take_same HK.out HX.out.1 HX.out.2 hp)
          rw [decide_eq_true hp] at cc
          clear hp
          go_wp2_with (go_at_fn 75; refine cc.mono ?_; rintro e w' ⟨rfl, j, rfl⟩)
          go_roundw
          case rel => exact ⟨k + 1, q + j, by omega, by go_num, HN.out, by first | rfl | exact World.drewN_drewN _ _ _⟩
          case measure => simp [intOf]; omega
        · have HN := Lib.hid (not_same HX.out.1 HX.out.2 hp)
          rw [decide_eq_false hp] at cc
          clear hp
          go_wp2_with (go_at_fn 75; refine cc.mono ?_; rintro e w' ⟨rfl, j, rfl⟩)
          go_ret
          exact ⟨ret_bool (decide_eq_false HN.out).symm, q + j, by first | rfl | exact World.drewN_drewN _ _ _⟩
      · have e : k = n := by omega
        subst e
        have HN := Lib.hid (all_same HK.out HL.out HM.out)
        go_wp2
        go_ret
        exact ⟨ret_bool (decide_eq_true HN.out).symm, _, rfl⟩
  · have hne : ((n : Int) != (m : Int)) = true := by rw [bne_iff_ne]; omega
    have HN : Hid (dat rs ≠ dat qs) := fun h => hnm (by rw [← HL.out, ← HM.out, h])
    go_enter Try.func74, Try.ntmps74
    go_wp2
    go_ret
    exact ⟨ret_bool (decide_eq_false HN.out).symm, 0, rfl⟩
set_option maxHeartbeats 1600000 in
set_option maxRecDepth 100000 in
theorem l06Same_any (s : ByteArray) (a : Int) (A : Option Addr) (n c : Nat) (rs : List Row) (t : ByteArray) (b : Int) (B : Option Addr) (m d : Nat) (qs : List Row) (p q : Addr) (w : World) (hr : RSS w w.heap.size A n rs) (hq : RSS w w.heap.size B m qs) (hn : n ≤ 1048576) (hm : m ≤ 1048576) (hrn : ∀ r ∈ rs, r.n ≤ 1048576) (hqn : ∀ r ∈ qs, r.n ≤ 1048576)
    (hc : Cells w p [.string s, .int .i64 a, .slice A n c]) (hd : Cells w q [.string t, .int .i64 b, .slice B m d]) :
    Calls Try.prog 73 #[.pointer (some p), .pointer (some q)] w fun e w' => e = .returned (.bool (sameFan s a (dat rs) t b (dat qs))) ∧ ∃ j, w' = w.drewN j := by
  have h0 := hc.z rfl
  have h1 := hc.at_ 0 rfl
  have h2 := hc.at_ 1 rfl
  have g0 := hd.z rfl
  have g1 := hd.at_ 0 rfl
  have g2 := hd.at_ 1 rfl
  have HC : Hid (∀ k, Calls Try.prog 94 #[.slice A n c, .slice B m d] (w.drewN k) fun e w' => e = .returned (.bool (decide (dat rs = dat qs))) ∧ ∃ j, w' = (w.drewN k).drewN j) :=
    fun k => l06Rows_any A B n c m d rs qs _ ⟨hr.out.drewN k, fun r h => (hr.row r h).drewN k⟩ ⟨hq.out.drewN k, fun r h => (hq.row r h).drewN k⟩ hn hm hrn hqn
  clear hc hd hrn hqn
  cases k0 : s.toList == t.toList
  · have HV : Hid (sameFan s a (dat rs) t b (dat qs) = false) := show _ = _ by unfold sameFan; rw [k0]; rfl
    go_enter Try.func73, Try.ntmps73
    go_wp2
    go_quiet (fail)
    go_wp2
    go_ret
    exact ⟨ret_bool HV.out.symm, _, rfl⟩
  · cases k1 : a == b
    · have HV : Hid (sameFan s a (dat rs) t b (dat qs) = false) := show _ = _ by unfold sameFan; rw [k1]; simp
      go_enter Try.func73, Try.ntmps73
      go_wp2
      go_quiet (fail)
      go_wp2
      go_ret
      exact ⟨ret_bool HV.out.symm, _, rfl⟩
    · have HV : Hid (sameFan s a (dat rs) t b (dat qs) = decide (dat rs = dat qs)) := show _ = _ by unfold sameFan; rw [k0, k1]; rfl
      go_enter Try.func73, Try.ntmps73
      go_wp2
      go_quiet ((go_at_call 94; exact Calls.quiet_of (HC.out _)))
      go_wp2
      go_ret
      exact ⟨ret_bool HV.out.symm, _, rfl⟩
theorem specSameFan_any (s : ByteArray) (a : Int) (A : Option Addr) (n c : Nat) (rs : List Row) (t : ByteArray) (b : Int) (B : Option Addr) (m d : Nat) (qs : List Row) (w : World) (ls : s.size ≤ maxLen) (hr : RSS w w.heap.size A n rs) (hn : n ≤ 1048576) (hrn : ∀ r ∈ rs, r.n ≤ 1048576)
    (lt : t.size ≤ maxLen) (hq : RSS w w.heap.size B m qs) (hm : m ≤ 1048576) (hqn : ∀ r ∈ qs, r.n ≤ 1048576) :
    Calls Try.prog 37 #[.agg #[.string s, .int .i64 a, .slice A n c], .agg #[.string t, .int .i64 b, .slice B m d]] w fun e w' => e = .returned (.bool (sameFan s a (dat rs) t b (dat qs))) ∧ Below w.heap.size w w' := by
  have hb : Below w.heap.size w ((w.alloc (.cells #[.string s, .int .i64 a, .slice A n c] 53)).alloc (.cells #[.string t, .int .i64 b, .slice B m d] 53)) := by (repeat (first | exact Below.refl _ _ | assumption | (refine Below.alloc ?_ (by first | exact Nat.le_refl _ | (simp; done) | (simp; omega)) _) | (refine below_drewN ?_ _) | (refine Below.trans ?_ (Below.mono (by assumption) (by first | exact Nat.le_refl _ | (simp; done) | (simp; omega) | omega)))))
  have cc := l06Same_any s a A n c rs t b B m d qs ⟨w.heap.size, 0, none⟩ ⟨w.heap.size + 1, 0, none⟩ _ ((hr.below hb).more (by simp; omega)) ((hq.below hb).more (by simp; omega)) hn hm hrn hqn
    ((Cells.new w #[.string s, .int .i64 a, .slice A n c] 53).below ((Below.refl _ _).alloc (Nat.le_refl _) _) (by simp)) (by have h := Cells.new (w.alloc (.cells #[.string s, .int .i64 a, .slice A n c] 53)) #[.string t, .int .i64 b, .slice B m d] 53; simpa using h)
  have HB := Lib.hid hb
  clear hrn hqn hb
  go_enter Try.func37, Try.ntmps37
  go_wp2_with fail; ((with_reducible refine cc.mono ?_); rintro e w1 ⟨rfl, j, rfl⟩)
  go_wp2
  go_ret
  exact ⟨rfl, by (repeat (first | exact Below.refl _ _ | assumption | (refine Below.alloc ?_ (by first | exact Nat.le_refl _ | (simp; done) | (simp; omega)) _) | (refine below_drewN ?_ _) | (refine Below.trans ?_ (Below.mono (by assumption) (by first | exact Nat.le_refl _ | (simp; done) | (simp; omega) | omega)))))⟩
set_option maxHeartbeats 800000 in
theorem implSameFan_any (s : ByteArray) (a : Int) (A : Option Addr) (n c : Nat) (rs : List Row) (t : ByteArray) (b : Int) (B : Option Addr) (m d : Nat) (qs : List Row) (w : World) (ls : s.size ≤ maxLen) (hr : RSS w w.heap.size A n rs) (hn : n ≤ 1048576) (hrn : ∀ r ∈ rs, r.n ≤ 1048576)
    (lt : t.size ≤ maxLen) (hq : RSS w w.heap.size B m qs) (hm : m ≤ 1048576) (hqn : ∀ r ∈ qs, r.n ≤ 1048576) :
    Calls Try.prog 39 #[.agg #[.string s, .int .i64 a, .slice A n c], .agg #[.string t, .int .i64 b, .slice B m d]] w fun e w' => e = .returned (.bool (sameFan s a (dat rs) t b (dat qs))) ∧ Below w.heap.size w w' := by
  have hb : Below w.heap.size w ((w.alloc (.cells #[.string s, .int .i64 a, .slice A n c] 53)).alloc (.cells #[.string t, .int .i64 b, .slice B m d] 53)) := by (repeat (first | exact Below.refl _ _ | assumption | (refine Below.alloc ?_ (by first | exact Nat.le_refl _ | (simp; done) | (simp; omega)) _) | (refine below_drewN ?_ _) | (refine Below.trans ?_ (Below.mono (by assumption) (by first | exact Nat.le_refl _ | (simp; done) | (simp; omega) | omega)))))
  have cc := equalFunc_any A B n c m d rs qs _ ((hr.below hb).more (by simp; omega)) ((hq.below hb).more (by simp; omega)) hn hm hrn hqn
  clear hrn hqn hb
  cases k0 : s.toList == t.toList
  · have HV : Hid (sameFan s a (dat rs) t b (dat qs) = false) := show _ = _ by unfold sameFan; rw [k0]; rfl
    go_enter Try.func39, Try.ntmps39
    go_wp2
    go_ret
    exact ⟨ret_bool HV.out.symm, by (repeat (first | exact Below.refl _ _ | assumption | (refine Below.alloc ?_ (by first | exact Nat.le_refl _ | (simp; done) | (simp; omega)) _) | (refine below_drewN ?_ _) | (refine Below.trans ?_ (Below.mono (by assumption) (by first | exact Nat.le_refl _ | (simp; done) | (simp; omega) | omega)))))⟩
  · cases k1 : a == b
    · have HV : Hid (sameFan s a (dat rs) t b (dat qs) = false) := show _ = _ by unfold sameFan; rw [k1]; simp
      go_enter Try.func39, Try.ntmps39
      go_wp2
      go_ret
      exact ⟨ret_bool HV.out.symm, by (repeat (first | exact Below.refl _ _ | assumption | (refine Below.alloc ?_ (by first | exact Nat.le_refl _ | (simp; done) | (simp; omega)) _) | (refine below_drewN ?_ _) | (refine Below.trans ?_ (Below.mono (by assumption) (by first | exact Nat.le_refl _ | (simp; done) | (simp; omega) | omega)))))⟩
    · have HV : Hid (sameFan s a (dat rs) t b (dat qs) = decide (dat rs = dat qs)) := show _ = _ by unfold sameFan; rw [k0, k1]; rfl
      go_enter Try.func39, Try.ntmps39
      go_wp2_with fail; ((with_reducible refine cc.mono ?_); rintro e w1 ⟨rfl, j, rfl⟩)
      go_wp2
      go_ret
      exact ⟨ret_bool HV.out.symm, by (repeat (first | exact Below.refl _ _ | assumption | (refine Below.alloc ?_ (by first | exact Nat.le_refl _ | (simp; done) | (simp; omega)) _) | (refine below_drewN ?_ _) | (refine Below.trans ?_ (Below.mono (by assumption) (by first | exact Nat.le_refl _ | (simp; done) | (simp; omega) | omega)))))⟩
end Go.Proofs.Ytnaggimfialbfaa
