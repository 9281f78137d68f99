/- Contracts of the largest agreement and of odd surveys. -/
import Derived.Test.YtnaggimfialbfaaSvG
namespace Go.Proofs.Ytnaggimfialbfaa
set_option linter.unusedVariables false
set_option linter.unusedSimpArgs false
open Go.RowKit
def hasI (xs : List Int) (v : Int) : Bool := xs.any fun x => x == v
set_option maxHeartbeats 800000 in
theorem l00Has_any (A : Option Addr) (n c : Nat) (xs : List Int) (v : Int) (w : World) (hr : Reads w w.heap.size 1 A n (ints xs)) (hn : n ≤ 1048576) :
    Calls Try.prog 71 #[.slice A n c, .int .i64 v] w fun e w' => e = .returned (.bool (hasI xs v)) ∧ w = w' := by
  have HL := Lib.hid (ints_len hr)
  go_enter Try.func71, Try.ntmps71
  go_wp2
  go_loop [5] (fun i => ∃ k : Nat, k ≤ n ∧ i = .int .i64 k ∧ Hid ((xs.take k).any (fun x => x == v) = false)) (fun i => n - (intOf i).toNat)
  case atStart => exact ⟨0, by omega, rfl, by simp [Hid]⟩
  case round =>
    obtain ⟨k, hk, rfl, HK⟩ := hrel
    by_cases hlt : k < n
    · obtain ⟨ad, u, rfl, had, hx, hc⟩ := hr.at_ hlt
      obtain ⟨b, hb, rfl⟩ := ints_at hx
      have HX := Lib.hid hb
      clear hb hx
      cases hp : b == v
      · have HP := Lib.hid hp
        go_wp2
        go_round
        case rel => exact ⟨k + 1, by omega, by go_num, any_take HX.out HK.out HP.out⟩
        case measure => simp [intOf]; omega
      · have HP := Lib.hid hp
        go_wp2
        go_ret
        exact ⟨ret_bool (by unfold hasI; rw [List.any_eq_true.2 ⟨b, mem_of_at HX.out, HP.out⟩]), rfl⟩
    · have e : k = n := by omega
      subst e
      go_wp2
      go_ret
      have hall : xs.any (fun x => x == v) = false := by have := HK.out; rwa [List.take_of_length_le (by rw [HL.out]; omega)] at this
      exact ⟨ret_bool (by unfold hasI; rw [hall]), rfl⟩
set_option maxHeartbeats 800000 in
theorem index_any (A : Option Addr) (n c : Nat) (xs : List Int) (v : Int) (w : World) (hr : Reads w w.heap.size 1 A n (ints xs)) (hn : n ≤ 1048576) :
    Calls Try.prog 93 #[.slice A n c, .int .i64 v] w fun e w' => e = .returned (.int .i64 (idxI (fun x => x == v) xs)) ∧ w = w' := by
  have HL := Lib.hid (ints_len hr)
  go_enter Try.func93, Try.ntmps93
  go_wp2
  go_loop [8] (fun i => ∃ k : Nat, k ≤ n ∧ i = .int .i64 k ∧ Hid ((xs.take k).any (fun x => x == v) = false)) (fun i => n - (intOf i).toNat)
  case atStart => exact ⟨0, by omega, rfl, by simp [Hid]⟩
  case round =>
    obtain ⟨k, hk, rfl, HK⟩ := hrel
    by_cases hlt : k < n
    · obtain ⟨ad, u, rfl, had, hx, hc⟩ := hr.at_ hlt
      obtain ⟨b, hb, rfl⟩ := ints_at hx
      have HX := Lib.hid hb
      clear hb hx
      cases hp : b == v
      · have HP := Lib.hid hp
        have hp2 : (v == b) = false := by rw [← hp]; exact Bool.eq_iff_iff.2 (by simp only [beq_iff_eq]; exact eq_comm)
        clear hp
        go_wp2
        go_round
        case rel => exact ⟨k + 1, by omega, by go_num, any_take HX.out HK.out HP.out⟩
        case measure => simp [intOf]; omega
      · have HP := Lib.hid hp
        have hp2 : (v == b) = true := by rw [← hp]; exact Bool.eq_iff_iff.2 (by simp only [beq_iff_eq]; exact eq_comm)
        clear hp
        go_wp2
        go_ret
        exact ⟨ret_int (idx_at HX.out HP.out HK.out).symm, rfl⟩
    · have e : k = n := by omega
      subst e
      go_wp2
      go_ret
      have hall : xs.any (fun x => x == v) = false := by have := HK.out; rwa [List.take_of_length_le (by rw [HL.out]; omega)] at this
      exact ⟨ret_int (idx_none hall).symm, rfl⟩
theorem contains_any (A : Option Addr) (n c : Nat) (xs : List Int) (v : Int) (w : World) (hr : Reads w w.heap.size 1 A n (ints xs)) (hn : n ≤ 1048576) :
    Calls Try.prog 72 #[.slice A n c, .int .i64 v] w fun e w' => e = .returned (.bool (hasI xs v)) ∧ w = w' := by
  have HD := Lib.hid (idx_any (p := fun x => x == v) (xs := xs))
  go_enter Try.func72, Try.ntmps72
  go_wp2_with fail; ((with_reducible refine (index_any A n c xs v _ hr hn).mono ?_); rintro e w' ⟨rfl, rfl⟩)
  go_wp2
  go_ret
  exact ⟨ret_bool HD.out, rfl⟩
set_option maxHeartbeats 1600000 in
theorem specLargestAgreement_any (A : Option Addr) (n c : Nat) (xs : List Svy) (s : ByteArray) (w : World) (hr : Reads w w.heap.size 5 A n (Svy.recs xs)) (hn : n ≤ 1048576) (hxs : ∀ x ∈ xs, x.s.size ≤ maxLen) (ls : s.size ≤ maxLen) (hs : s.size ≤ 1048576) :
    Calls Try.prog 28 #[.slice A n c, .string s] w fun e w' => ∃ A' n' c', e = .returned (.tuple #[.slice A' n' c', .int .i64 (laR xs s).2]) ∧ w'.ownsRow w.heap.size 2 1 (.slice A' n' c') n' (ints (laR xs s).1) ∧ n' ≤ 1048576 ∧ Below w.heap.size w w' := by
  have c1 := l05Ok_any A n c xs w hr hn hxs
  rcases Bool.eq_false_or_eq_true (svysOk xs) with h | h
  · have H := Lib.hid h
    rw [h] at c1
    clear h hxs
    go_enter Try.func28, Try.ntmps28
    go_wp2_with fail; ((with_reducible refine c1.mono ?_); rintro e w1 ⟨rfl, hb1⟩)
    have hz1 := hb1.size
    go_wp2_with fail; ((with_reducible refine (l05Largest_any A n c xs s w1 ((hr.below hb1).more hz1) hn (svysOk_t H.out).1).mono ?_); rintro e w2 ⟨A2, n2, c2, rfl, ho2, hn2, hb2⟩)
    have B2 := hb1.trans (hb2.mono hz1)
    have hl := ints_len (Reads.of_own ho2)
    have hlz := lg_zero (s := s) H.out
    by_cases h0 : n2 = 0
    · have HE := Lib.hid (laR_2 H.out (hlz.1 (by omega)))
      clear hl hlz
      go_wp2
      go_ret2
      rw [HE.out]
      exact ⟨none, 0, 0, rfl, own_nil _ _ _ _, by omega, B2⟩
    · have HE := Lib.hid (laR_3 H.out (fun h => by have := hlz.2 h; omega))
      clear hl hlz
      go_wp2
      go_ret2
      rw [HE.out]
      exact ⟨A2, n2, c2, rfl, own_base ho2 hz1, by omega, B2⟩
  · have HE := Lib.hid (laR_1 (s := s) h)
    rw [h] at c1
    clear h hxs
    go_enter Try.func28, Try.ntmps28
    go_wp2_with fail; ((with_reducible refine c1.mono ?_); rintro e w1 ⟨rfl, hb1⟩)
    go_wp2
    go_ret2
    rw [HE.out]
    exact ⟨none, 0, 0, rfl, own_nil _ _ _ _, by omega, hb1⟩
set_option maxHeartbeats 1600000 in
theorem implLargestAgreement_any (A : Option Addr) (n c : Nat) (xs : List Svy) (s : ByteArray) (w : World) (hr : Reads w w.heap.size 5 A n (Svy.recs xs)) (hn : n ≤ 1048576) (hxs : ∀ x ∈ xs, x.s.size ≤ maxLen) (ls : s.size ≤ maxLen) (hs : s.size ≤ 1048576) :
    Calls Try.prog 29 #[.slice A n c, .string s] w fun e w' => ∃ A' n' c', e = .returned (.tuple #[.slice A' n' c', .int .i64 (laR xs s).2]) ∧ w'.ownsRow w.heap.size 2 1 (.slice A' n' c') n' (ints (laR xs s).1) ∧ n' ≤ 1048576 ∧ Below w.heap.size w w' := by
  have c1 := surveysOk_any A n c xs w hr hn hxs
  rcases Bool.eq_false_or_eq_true (svysOk xs) with h | h
  · have H := Lib.hid h
    rw [h] at c1
    clear h hxs
    go_enter Try.func29, Try.ntmps29
    go_wp2_with fail; ((with_reducible refine c1.mono ?_); rintro e w1 ⟨rfl, hb1⟩)
    have hz1 := hb1.size
    go_wp2_with fail; ((with_reducible refine (surveysOf_any A n c xs s w1 ((hr.below hb1).more hz1) hn).mono ?_); rintro e w2 ⟨A2, n2, c2, rfl, ho2, hn2, hb2⟩)
    have B2 := hb1.trans (hb2.mono hz1)
    have hl := ints_len (Reads.of_own ho2)
    by_cases h0 : n2 = 0
    · have HE := Lib.hid (laR_2 (s := s) H.out (by omega))
      clear hl
      go_wp2
      go_ret2
      rw [HE.out]
      exact ⟨none, 0, 0, rfl, own_nil _ _ _ _, by omega, B2⟩
    · have HE := Lib.hid (laR_3 (s := s) H.out (by omega))
      clear hl
      go_wp2_with fail; ((with_reducible refine (largestAgreement_any A n c xs s w2 ((hr.below B2).more B2.size) hn (svysOk_t H.out).1).mono ?_); rintro e w3 ⟨A3, n3, c3, rfl, ho3, hn3, hb3⟩)
      go_wp2
      go_ret2
      rw [HE.out]
      exact ⟨A3, n3, c3, rfl, own_base ho3 B2.size, by omega, B2.trans (hb3.mono B2.size)⟩
  · have HE := Lib.hid (laR_1 (s := s) h)
    rw [h] at c1
    clear h hxs
    go_enter Try.func29, Try.ntmps29
    go_wp2_with fail; ((with_reducible refine c1.mono ?_); rintro e w1 ⟨rfl, hb1⟩)
    go_wp2
    go_ret2
    rw [HE.out]
    exact ⟨none, 0, 0, rfl, own_nil _ _ _ _, by omega, hb1⟩
def oddB (xs : List Svy) (k : Nat) : Bool := match xs[k]? with | some x => !hasI (lgL xs x.s) k | none => false
def oddAt (xs : List Svy) : Nat → List Int
  | 0 => []
  | k + 1 => if oddB xs k = true then oddAt xs k ++ [(k : Int)] else oddAt xs k
theorem oddAt_y {xs : List Svy} {k : Nat} {x : Svy} (h : xs[k]? = some x) (hp : hasI (lgL xs x.s) k = false) : oddAt xs (k + 1) = oddAt xs k ++ [(k : Int)] := by
  have : oddB xs k = true := by unfold oddB; rw [h]; simp [hp]
  simp [oddAt, this]
theorem oddAt_n {xs : List Svy} {k : Nat} {x : Svy} (h : xs[k]? = some x) (hp : hasI (lgL xs x.s) k = true) : oddAt xs (k + 1) = oddAt xs k := by
  have : oddB xs k = false := by unfold oddB; rw [h]; simp [hp]
  simp [oddAt, this]
def oddR (xs : List Svy) : List Int × Int := if svysOk xs = true then (oddAt xs xs.length, 0) else ([], 1)
theorem oddR_y {xs : List Svy} (h : svysOk xs = true) : oddR xs = (oddAt xs xs.length, 0) := by unfold oddR; rw [if_pos h]
theorem oddR_n {xs : List Svy} (h : svysOk xs = false) : oddR xs = ([], 1) := by unfold oddR; rw [h]; rfl
set_option maxHeartbeats 3200000 in
set_option maxRecDepth 100000 in
theorem specOddSurveys_any (A : Option Addr) (n c : Nat) (xs : List Svy) (w : World) (hr : Reads w w.heap.size 5 A n (Svy.recs xs)) (hn : n ≤ 1048576) (hxs : ∀ x ∈ xs, x.s.size ≤ maxLen) :
    Calls Try.prog 34 #[.slice A n c] w fun e w' => ∃ A' n' c', e = .returned (.tuple #[.slice A' n' c', .int .i64 (oddR xs).2]) ∧ w'.ownsRow w.heap.size 2 1 (.slice A' n' c') n' (ints (oddR xs).1) ∧ n' ≤ 1048576 ∧ Below w.heap.size w w' := by
  obtain ⟨i0, hi0, hz0, hz1, hz2⟩ := info_parts info_Int64S
  have HLn := Lib.hid (recs_rlen Svy.clen (by omega) hr)
  have c1 := l05Ok_any A n c xs w hr hn hxs
  rcases Bool.eq_false_or_eq_true (svysOk xs) with h | h
  · have H := Lib.hid h
    have HE := Lib.hid (oddR_y h)
    rw [h] at c1
    clear h hxs
    go_enter Try.func34, Try.ntmps34
    go_wp2_with fail; ((with_reducible refine c1.mono ?_); rintro e w1 ⟨rfl, hb1⟩)
    have hzz1 := hb1.size
    go_wp2
    go_loopw [4, 5] (fun o i wr => ∃ (k m : Nat) (A' : Option Addr) (c' : Nat), k ≤ n ∧ m ≤ k ∧ o = .slice A' m c' ∧ i = .int .i64 k ∧ wr.ownsRow w1.heap.size 2 1 (.slice A' m c') m (ints (oddAt xs k)) ∧ Below w1.heap.size w1 wr) (fun _ i _ => n - (intOf i).toNat)
    case atStart => exact ⟨0, 0, _, 0, by omega, by omega, rfl, rfl, own_empty _ _ _, by (repeat (first | exact Below.refl _ _ | assumption | (refine Below.alloc ?_ (by first | exact Nat.le_refl _ | (simp; done) | (simp; omega)) _) | (refine below_drewN ?_ _) | (refine Below.trans ?_ (Below.mono (by assumption) (by first | exact Nat.le_refl _ | (simp; done) | (simp; omega) | omega)))))⟩
    case round =>
      obtain ⟨k, m, A', c', hk, hm, rfl, rfl, hown, hbr⟩ := hrel
      obtain ⟨wo, rfl⟩ : ∃ wo : World, wo = wr := ⟨_, rfl⟩
      have B2 := hb1.trans (hbr.mono hzz1)
      by_cases hlt : k < n
      · obtain ⟨ad, x, rfl, had, hx, hc⟩ := (hr.below B2).rec_at Svy.clen (by omega) hlt
        obtain ⟨g0, g1, g2, g3, g4⟩ := Svy.open_ hc
        have HX := Lib.hid hx
        clear hx hc
        go_wp2_with fail; ((with_reducible refine (l05Largest_any _ n c xs x.s wo ((hr.below B2).more B2.size) hn (svysOk_t H.out).1).mono ?_); rintro e w3 ⟨A3, n3, c3, rfl, ho3, hn3, hb3⟩)
        have own3 := own_below hown hb3
        have B3 := hbr.trans (hb3.mono hbr.size)
        cases hp : hasI (lgL xs x.s) k
        · have HP := Lib.hid (oddAt_y HX.out hp)
          go_wp2_with fail; ((with_reducible refine (l00Has_any A3 n3 c3 _ _ _ (Reads.of_own ho3) (by omega)).mono ?_); rintro e w' ⟨rfl, rfl⟩)
          rw [hp]
          clear hp
          go_wp2_with (at_builtin; (refine wpList_app _ rfl _ _ 41 rfl w1.heap.size 2 i0 _ 1 8 Try.underlying41 hi0 hz0 hz1 hz2 rfl (by omega) A' _ c' _ rfl ((own3).alloc _) ⟨_, 0, none⟩ 1 1 [.int .i64 (k : Int)] rfl rfl (cell_one_at (by simp) _ _) (by simp [Value.oneCell']) (by unfold maxLen; omega) (by omega) (by have hz := (B3).size; simp at hz ⊢; omega) ?_); intro A6 c6 w6 ho6 hb6)
          go_roundw
          case rel => exact ⟨k + 1, m + 1, A6, c6, by omega, by omega, by first | rfl | go_num, by go_num, by rw [HP.out]; simpa [ints] using ho6, (B3.alloc B3.size _).trans hb6⟩
          case measure => simp [intOf]; omega
        · have HP := Lib.hid (oddAt_n HX.out hp)
          go_wp2_with fail; ((with_reducible refine (l00Has_any A3 n3 c3 _ _ _ (Reads.of_own ho3) (by omega)).mono ?_); rintro e w' ⟨rfl, rfl⟩)
          rw [hp]
          clear hp
          go_wp2
          go_roundw
          case rel => exact ⟨k + 1, m, A', c', by omega, by omega, rfl, by go_num, by rw [HP.out]; exact own3, B3⟩
          case measure => simp [intOf]; omega
      · have e : k = n := by omega
        subst e
        have HV : Hid (oddAt xs xs.length = oddAt xs k) := show _ = _ by rw [HLn.out]
        go_wp2
        go_ret2
        rw [HE.out, HV.out]
        exact ⟨A', m, c', rfl, own_base hown hzz1, by omega, B2⟩
  · have HE := Lib.hid (oddR_n h)
    rw [h] at c1
    clear h hxs
    go_enter Try.func34, Try.ntmps34
    go_wp2_with fail; ((with_reducible refine c1.mono ?_); rintro e w1 ⟨rfl, hb1⟩)
    go_wp2
    go_ret2
    rw [HE.out]
    exact ⟨none, 0, 0, rfl, own_nil _ _ _ _, by omega, hb1⟩
set_option maxHeartbeats 3200000 in
set_option maxRecDepth 100000 in
theorem implOddSurveys_any (A : Option Addr) (n c : Nat) (xs : List Svy) (w : World) (hr : Reads w w.heap.size 5 A n (Svy.recs xs)) (hn : n ≤ 1048576) (hxs : ∀ x ∈ xs, x.s.size ≤ maxLen) :
    Calls Try.prog 35 #[.slice A n c] w fun e w' => ∃ A' n' c', e = .returned (.tuple #[.slice A' n' c', .int .i64 (oddR xs).2]) ∧ w'.ownsRow w.heap.size 2 1 (.slice A' n' c') n' (ints (oddR xs).1) ∧ n' ≤ 1048576 ∧ Below w.heap.size w w' := by
  obtain ⟨i0, hi0, hz0, hz1, hz2⟩ := info_parts info_Int64S
  have HLn := Lib.hid (recs_rlen Svy.clen (by omega) hr)
  have c1 := surveysOk_any A n c xs w hr hn hxs
  rcases Bool.eq_false_or_eq_true (svysOk xs) with h | h
  · have H := Lib.hid h
    have HE := Lib.hid (oddR_y h)
    rw [h] at c1
    clear h hxs
    go_enter Try.func35, Try.ntmps35
    go_wp2_with fail; ((with_reducible refine c1.mono ?_); rintro e w1 ⟨rfl, hb1⟩)
    have hzz1 := hb1.size
    go_wp2
    go_loopw [4, 12] (fun o i wr => ∃ (k m : Nat) (A' : Option Addr) (c' : Nat), k ≤ n ∧ m ≤ k ∧ o = .slice A' m c' ∧ i = .int .i64 k ∧ wr.ownsRow w1.heap.size 2 1 (.slice A' m c') m (ints (oddAt xs k)) ∧ Below w1.heap.size w1 wr) (fun _ i _ => n - (intOf i).toNat)
    case atStart => exact ⟨0, 0, none, 0, by omega, by omega, rfl, rfl, own_nil _ _ _ _, Below.refl _ _⟩
    case round =>
      obtain ⟨k, m, A', c', hk, hm, rfl, rfl, hown, hbr⟩ := hrel
      obtain ⟨wo, rfl⟩ : ∃ wo : World, wo = wr := ⟨_, rfl⟩
      have B2 := hb1.trans (hbr.mono hzz1)
      by_cases hlt : k < n
      · obtain ⟨ad, x, rfl, had, hx, hc⟩ := (hr.below B2).rec_at Svy.clen (by omega) hlt
        obtain ⟨g0, g1, g2, g3, g4⟩ := Svy.open_ hc
        have HX := Lib.hid hx
        have hzo : w.heap.size ≤ wo.heap.size := B2.size
        have B2a : Below w.heap.size w (wo.alloc (.cells #[.string x.s, .int .i64 x.d, .int .i64 x.e, .int .i64 x.f, .int .i64 x.g] 78)) := B2.alloc hzo _
        have HR := Lib.hid ((hr.below B2a).more B2a.size)
        clear hx hc
        go_wp2_with fail; ((with_reducible refine (largestAgreement_any _ n c xs x.s _ HR.out hn (svysOk_t H.out).1).mono ?_); rintro e w3 ⟨A3, n3, c3, rfl, ho3, hn3, hb3⟩)
        have hb3' : Below wo.heap.size wo w3 := ((Below.refl _ _).alloc (Nat.le_refl _) _).trans (hb3.mono (by simp))
        have own3 := own_below hown hb3'
        have B3 := hbr.trans (hb3'.mono hbr.size)
        cases hp : hasI (lgL xs x.s) k
        · have HP := Lib.hid (oddAt_y HX.out hp)
          go_wp2_with fail; ((with_reducible refine (contains_any A3 n3 c3 _ _ _ (Reads.of_own ho3) (by omega)).mono ?_); rintro e w' ⟨rfl, rfl⟩)
          rw [hp]
          clear hp
          go_wp2_with (at_builtin; (refine wpList_app _ rfl _ _ 41 rfl w1.heap.size 2 i0 _ 1 8 Try.underlying41 hi0 hz0 hz1 hz2 rfl (by omega) A' _ c' _ rfl ((own3).alloc _) ⟨_, 0, none⟩ 1 1 [.int .i64 (k : Int)] rfl rfl (cell_one_at (by simp) _ _) (by simp [Value.oneCell']) (by unfold maxLen; omega) (by omega) (by have hz := (B3).size; simp at hz ⊢; omega) ?_); intro A6 c6 w6 ho6 hb6)
          go_roundw
          case rel => exact ⟨k + 1, m + 1, A6, c6, by omega, by omega, by first | rfl | go_num, by go_num, by rw [HP.out]; simpa [ints] using ho6, (B3.alloc B3.size _).trans hb6⟩
          case measure => simp [intOf]; omega
        · have HP := Lib.hid (oddAt_n HX.out hp)
          go_wp2_with fail; ((with_reducible refine (contains_any A3 n3 c3 _ _ _ (Reads.of_own ho3) (by omega)).mono ?_); rintro e w' ⟨rfl, rfl⟩)
          rw [hp]
          clear hp
          go_wp2
          go_roundw
          case rel => exact ⟨k + 1, m, A', c', by omega, by omega, rfl, by go_num, by rw [HP.out]; exact own3, B3⟩
          case measure => simp [intOf]; omega
      · have e : k = n := by omega
        subst e
        have HV : Hid (oddAt xs xs.length = oddAt xs k) := show _ = _ by rw [HLn.out]
        go_wp2
        go_ret2
        rw [HE.out, HV.out]
        exact ⟨A', m, c', rfl, own_base hown hzz1, by omega, B2⟩
  · have HE := Lib.hid (oddR_n h)
    rw [h] at c1
    clear h hxs
    go_enter Try.func35, Try.ntmps35
    go_wp2_with fail; ((with_reducible refine c1.mono ?_); rintro e w1 ⟨rfl, hb1⟩)
    go_wp2
    go_ret2
    rw [HE.out]
    exact ⟨none, 0, 0, rfl, own_nil _ _ _ _, by omega, hb1⟩
end Go.Proofs.Ytnaggimfialbfaa
