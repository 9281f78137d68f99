/- Contracts of the bounds that all surveys of an airway have. -/
import Derived.Test.YtnaggimfialbfaaSvL
namespace Go.Proofs.Ytnaggimfialbfaa
set_option linter.unusedVariables false
set_option linter.unusedSimpArgs false
open Go.RowKit
theorem cmAt_bnd (xs : List Svy) (is : List Int) : ∀ k, 1 ≤ (cmAt xs is k).1 ∧ (cmAt xs is k).1 ≤ 1000000 ∧ 1 ≤ (cmAt xs is k).2 ∧ (cmAt xs is k).2 ≤ 1000000
  | 0 => by simp [cmAt]
  | k + 1 => by
    have h := cmAt_bnd xs is k
    have h1 := asR_bnd (max ((svAt xs (is.getD k 0)).d - (svAt xs (is.getD k 0)).e) 0 * 10000000000 / (((svAt xs (is.getD k 0)).f + (svAt xs (is.getD k 0)).g) * ((svAt xs (is.getD k 0)).f + (svAt xs (is.getD k 0)).g)))
    have e1 : 1 ≤ lowOf (svAt xs (is.getD k 0)) ∧ lowOf (svAt xs (is.getD k 0)) ≤ 1000000 := h1
    have e2 : 1 ≤ highOf (svAt xs (is.getD k 0)) ∧ highOf (svAt xs (is.getD k 0)) ≤ 1000000 := asR_bnd _
    simp only [cmAt]
    omega
theorem low_bnd (x : Svy) : 1 ≤ lowOf x ∧ lowOf x ≤ 1000000 := asR_bnd _
theorem high_bnd (x : Svy) : 1 ≤ highOf x ∧ highOf x ≤ 1000000 := asR_bnd _
/-- An index of a list of indices leads to a record of the slice. -/
theorem open_at {w : World} {B n m : Nat} {A D : Option Addr} {xs : List Svy} {is : List Int} (hr : Reads w B 5 A n (Svy.recs xs)) (hs : Reads w B 1 D m (ints is)) (hi : ∀ i ∈ is, ∃ (j : Nat) (x : Svy), i = j ∧ xs[j]? = some x) {k : Nat} (hk : k < m) :
    ∃ (sd ad : Addr) (j : Nat) (x : Svy), D = some sd ∧ A = some ad ∧ j < n ∧ is[k]? = some (j : Int) ∧ w.cell? (sd.add k) = some (.int .i64 (j : Int)) ∧ xs[j]? = some x ∧ svAt xs (j : Int) = x ∧ Cells w (ad.add (j * 5)) x.cells := by
  obtain ⟨sd, u, rfl, _, hx, hc⟩ := hs.at_ hk
  obtain ⟨i, hi1, rfl⟩ := ints_at hx
  obtain ⟨j, x, rfl, hxj⟩ := hi i (mem_of_at hi1)
  have hl := recs_rlen Svy.clen (by omega) hr
  have hj : j < n := by
    rcases Nat.lt_or_ge j xs.length with h | h
    · omega
    · rw [List.getElem?_eq_none h] at hxj; cases hxj
  obtain ⟨ad, x', rfl, _, hx', hc'⟩ := hr.rec_at Svy.clen (by omega) hj
  obtain rfl : x = x' := by rw [hxj] at hx'; exact Option.some.inj hx'
  exact ⟨sd, ad, j, x, rfl, rfl, hj, hi1, hc, hxj, svAt_eq hxj, hc'⟩
set_option maxHeartbeats 1600000 in
theorem l05Common_any (A : Option Addr) (n c : Nat) (xs : List Svy) (D : Option Addr) (m d : Nat) (is : List Int) (w : World) (hr : Reads w w.heap.size 5 A n (Svy.recs xs)) (hs : Reads w w.heap.size 1 D m (ints is)) (hn : n ≤ 1048576) (hm : m ≤ 1048576)
    (hok : ∀ x ∈ xs, svyOk x = true) (hi : ∀ i ∈ is, ∃ (j : Nat) (x : Svy), i = j ∧ xs[j]? = some x) :
    Calls Try.prog 62 #[.slice A n c, .slice D m d] w fun e w' => e = .returned (.tuple #[.int .i64 (cmAt xs is m).1, .int .i64 (cmAt xs is m).2]) ∧ Below w.heap.size w w' := by
  have HO := Lib.hid hok
  have HI := Lib.hid hi
  clear hok hi
  go_enter Try.func62, Try.ntmps62
  go_wp2
  go_loopw [6, 7, 8] (fun a b i wr => ∃ k : Nat, k ≤ m ∧ i = .int .i64 k ∧ a = .int .i64 (cmAt xs is k).1 ∧ b = .int .i64 (cmAt xs is k).2 ∧ Below w.heap.size w wr) (fun _ _ i _ => m - (intOf i).toNat)
  case atStart => exact ⟨0, by omega, rfl, rfl, rfl, Below.refl _ _⟩
  case round =>
    obtain ⟨k, hk, rfl, rfl, rfl, hbr⟩ := hrel
    by_cases hlt : k < m
    · obtain ⟨sd, ad, j, x, rfl, rfl, hj, hik, hck, hxj, hsv, hc⟩ := open_at (hr.below hbr) (hs.below hbr) HI.out hlt
      have cc := l05Bounds_any x (ad.add (j * 5)) wr (HO.out x (mem_of_at hxj)) hc
      have HC := Lib.hid (cmAt_at hik hsv)
      clear hik hxj hsv hc
      go_wp2_with fail; ((with_reducible refine cc.mono ?_); rintro e w' ⟨rfl, q, rfl⟩)
      go_wp2_with (first | (go_at_call 84; refine (l00Max_any _ _ _).mono ?_; rintro e w' ⟨rfl, rfl⟩) | (go_at_call 85; refine (l00Min_any _ _ _).mono ?_; rintro e w' ⟨rfl, rfl⟩))
      go_roundw
      case rel => exact ⟨k + 1, by omega, by go_num, by rw [HC.out], by rw [HC.out], below_drewN hbr _⟩
      case measure => simp [intOf]; omega
    · have e : k = m := by omega
      subst e
      go_wp2
      go_ret2
      exact ⟨rfl, hbr⟩
set_option maxHeartbeats 1600000 in
theorem specCommonBounds_any (A : Option Addr) (n c : Nat) (xs : List Svy) (s : ByteArray) (w : World) (hr : Reads w w.heap.size 5 A n (Svy.recs xs)) (hn : n ≤ 1048576) (hxs : ∀ x ∈ xs, x.s.size ≤ maxLen) (ls : s.size ≤ maxLen) (hs : s.size ≤ 1048576) :
    Calls Try.prog 24 #[.slice A n c, .string s] w fun e w' => e = .returned (.tuple #[.int .i64 (comR xs s).1, .int .i64 (comR xs s).2.1, .int .i64 (comR xs s).2.2]) ∧ Below w.heap.size w w' := by
  have c1 := l05Ok_any A n c xs w hr hn hxs
  rcases Bool.eq_false_or_eq_true (svysOk xs) with h | h
  · have H := Lib.hid h
    rw [h] at c1
    clear h hxs
    go_enter Try.func24, Try.ntmps24
    go_wp2_with fail; ((with_reducible refine c1.mono ?_); rintro e w1 ⟨rfl, hb1⟩)
    have hz1 := hb1.size
    go_wp2_with fail; ((with_reducible refine (l05Of_any A n c xs s w1 ((hr.below hb1).more hz1) hn).mono ?_); rintro e w2 ⟨A2, n2, c2, rfl, ho2, hn2, hb2⟩)
    have B2 := hb1.trans (hb2.mono hz1)
    have hz2 := hb2.size
    have hl := ints_len (Reads.of_own ho2)
    by_cases h0 : n2 = 0
    · have HE := Lib.hid (comR_2 H.out (by omega : (svOf xs s).length = 0))
      clear hl
      go_wp2
      go_ret3
      exact ⟨by rw [HE.out]; rfl, B2⟩
    · have h0' : (svOf xs s).length ≠ 0 := by omega
      have c3 := l05Common_any A n c xs A2 n2 c2 (svOf xs s) w2 ((hr.below B2).more B2.size) (Reads.of_own ho2) hn (by omega) (svysOk_t H.out).1 (fun i hi => svOf_mem hi)
      have b3 := cmAt_bnd xs (svOf xs s) n2
      have HL := Lib.hid hl
      by_cases hlt : (cmAt xs (svOf xs s) n2).2 < (cmAt xs (svOf xs s) n2).1
      · have HE := Lib.hid (comR_3 H.out h0' (by rw [hl]; exact hlt))
        clear hl h0'
        go_wp2_with fail; ((with_reducible refine c3.mono ?_); rintro e w3 ⟨rfl, hb3⟩)
        go_wp2
        go_ret3
        exact ⟨by rw [HE.out]; rfl, B2.trans (hb3.mono B2.size)⟩
      · have HE : Hid (comR xs s = ((cmAt xs (svOf xs s) n2).1, (cmAt xs (svOf xs s) n2).2, 0)) := by
          have := comR_4 H.out h0' (by rw [hl]; exact hlt)
          rw [hl] at this; exact this
        clear hl h0'
        go_wp2_with fail; ((with_reducible refine c3.mono ?_); rintro e w3 ⟨rfl, hb3⟩)
        go_wp2
        go_ret3
        exact ⟨by rw [HE.out]; rfl, B2.trans (hb3.mono B2.size)⟩
  · have HE := Lib.hid (comR_1 (s := s) h)
    rw [h] at c1
    clear h hxs
    go_enter Try.func24, Try.ntmps24
    go_wp2_with fail; ((with_reducible refine c1.mono ?_); rintro e w1 ⟨rfl, hb1⟩)
    go_wp2
    go_ret3
    exact ⟨by rw [HE.out]; rfl, hb1⟩
set_option maxHeartbeats 1600000 in
theorem implCommonBounds_any (A : Option Addr) (n c : Nat) (xs : List Svy) (s : ByteArray) (w : World) (hr : Reads w w.heap.size 5 A n (Svy.recs xs)) (hn : n ≤ 1048576) (hxs : ∀ x ∈ xs, x.s.size ≤ maxLen) (ls : s.size ≤ maxLen) (hs : s.size ≤ 1048576) :
    Calls Try.prog 26 #[.slice A n c, .string s] w fun e w' => e = .returned (.tuple #[.int .i64 (comR xs s).1, .int .i64 (comR xs s).2.1, .int .i64 (comR xs s).2.2]) ∧ Below w.heap.size w w' := by
  have c1 := surveysOk_any A n c xs w hr hn hxs
  rcases Bool.eq_false_or_eq_true (svysOk xs) with h | h
  · have H := Lib.hid h
    rw [h] at c1
    clear h hxs
    go_enter Try.func26, Try.ntmps26
    go_wp2_with fail; ((with_reducible refine c1.mono ?_); rintro e w1 ⟨rfl, hb1⟩)
    have hz1 := hb1.size
    go_wp2_with fail; ((with_reducible refine (surveysOf_any A n c xs s w1 ((hr.below hb1).more hz1) hn).mono ?_); rintro e w2 ⟨A2, n2, c2, rfl, ho2, hn2, hb2⟩)
    have B2 := hb1.trans (hb2.mono hz1)
    have hz2 := hb2.size
    have hl := ints_len (Reads.of_own ho2)
    have hr2 := (hr.below B2).more B2.size
    have hs2 := Reads.of_own ho2
    by_cases h0 : n2 = 0
    · have HE := Lib.hid (comR_2 H.out (by omega : (svOf xs s).length = 0))
      clear hl
      go_wp2
      go_ret3
      exact ⟨by rw [HE.out]; rfl, B2⟩
    · have h0' : Hid ((svOf xs s).length ≠ 0) := show (svOf xs s).length ≠ 0 by omega
      have HL := Lib.hid hl
      clear hl
      go_wp2
      go_loopw [8, 9, 25] (fun a b i wr => ∃ k : Nat, k ≤ n2 ∧ i = .int .i64 k ∧ a = .int .i64 (cmAt xs (svOf xs s) k).1 ∧ b = .int .i64 (cmAt xs (svOf xs s) k).2 ∧ Below w2.heap.size w2 wr) (fun _ _ i _ => n2 - (intOf i).toNat)
      case atStart => exact ⟨0, by omega, rfl, rfl, rfl, Below.refl _ _⟩
      case round =>
        obtain ⟨k, hk, rfl, rfl, rfl, hbr⟩ := hrel
        have B3 := B2.trans (hbr.mono B2.size)
        have bk := cmAt_bnd xs (svOf xs s) k
        by_cases hlt : k < n2
        · obtain ⟨sd, ad, j, x, rfl, rfl, hj, hik, hck, hxj, hsv, hc⟩ := open_at (hr2.below hbr) (hs2.below hbr) (fun i hi => svOf_mem hi) hlt
          have cc := bounds_any x wr ((svysOk_t H.out).1 x (mem_of_at hxj))
          have HC := Lib.hid (cmAt_at hik hsv)
          obtain ⟨h0, h1, h2, h3, h4⟩ := Svy.open_ hc
          clear hik hxj hsv hc
          go_wp2_with fail; ((with_reducible refine cc.mono ?_); rintro e w3 ⟨rfl, hb3⟩)
          go_wp2
          all_goals
            go_roundw
            case rel =>
              refine ⟨_, _, _, _, _, _, ⟨k + 1, by omega, ?_, ?_, ?_, hbr.trans (hb3.mono hbr.size)⟩, rfl, rfl, rfl, rfl, rfl, rfl⟩
              · go_num
              · rw [HC.out]; exact congrArg (Value.int .i64) (by omega)
              · rw [HC.out]; exact congrArg (Value.int .i64) (by omega)
            case measure => simp [intOf]; omega
        · have e : k = n2 := by omega
          subst e
          by_cases hlt : (cmAt xs (svOf xs s) k).2 < (cmAt xs (svOf xs s) k).1
          · have HE := Lib.hid (comR_3 H.out h0'.out (by rw [HL.out]; exact hlt))
            go_wp2
            go_ret3
            exact ⟨by rw [HE.out]; rfl, B3⟩
          · have HE : Hid (comR xs s = ((cmAt xs (svOf xs s) k).1, (cmAt xs (svOf xs s) k).2, 0)) := by
              have := comR_4 H.out h0'.out (by rw [HL.out]; exact hlt)
              rw [HL.out] at this; exact this
            go_wp2
            go_ret3
            exact ⟨by rw [HE.out]; rfl, B3⟩
  · have HE := Lib.hid (comR_1 (s := s) h)
    rw [h] at c1
    clear h hxs
    go_enter Try.func26, Try.ntmps26
    go_wp2_with fail; ((with_reducible refine c1.mono ?_); rintro e w1 ⟨rfl, hb1⟩)
    go_wp2
    go_ret3
    exact ⟨by rw [HE.out]; rfl, hb1⟩
end Go.Proofs.Ytnaggimfialbfaa
