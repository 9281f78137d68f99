/- Contracts of a flow that is divided. -/
import Derived.Test.YtkojlpbjhpdakaaPar
namespace Go.Proofs.Ytkojlpbjhpdakaa
set_option linter.unusedVariables false
set_option linter.unusedSimpArgs false
open Go.RowKit
def splD (xs : List Int) (q : Int) (k : Nat) : Int := dr (q * condSum (xs.take k)) (condSum xs)
def splP (xs : List Int) (q : Int) (k : Nat) : Int := splD xs q (k + 1) - splD xs q k
def splL (xs : List Int) (q : Int) : List Int := (List.range xs.length).map (splP xs q)
theorem splL_take {xs : List Int} {q : Int} {k : Nat} (h : k < xs.length) : (splL xs q).take (k + 1) = (splL xs q).take k ++ [splP xs q k] := by
  apply take_snoc
  unfold splL
  simp [h]
theorem splL_len (xs : List Int) (q : Int) : (splL xs q).length = xs.length := by simp [splL]
theorem splL_at {xs : List Int} {q : Int} {k : Nat} (h : k < xs.length) : (splL xs q)[k]? = some (splP xs q k) := by simp [splL, h]
theorem condSum_take_le {xs : List Int} (h : ∀ x ∈ xs, isRes x = true) (k : Nat) : condSum (xs.take k) ≤ condSum xs := by
  have e : condSum xs = condSum (xs.take k) + condSum (xs.drop k) := by
    unfold condSum
    rw [← sumI_append, ← List.map_append, List.take_append_drop]
  have h2 := (condSum_bnd (xs := xs.drop k) fun x hx => h x (List.mem_of_mem_drop hx)).1
  omega
theorem splD_zero (xs : List Int) (q : Int) (h : 0 < condSum xs) : splD xs q 0 = 0 := by
  unfold splD
  have e : condSum (xs.take 0) = 0 := by simp [condSum, sumI]
  rw [e, Int.mul_zero]
  unfold dr; rw [if_neg (by omega)]
  exact Int.ediv_eq_zero_of_lt (by omega) (by omega)
structure SplOk (xs : List Int) (q : Int) : Prop where
  len : 1 ≤ xs.length ∧ xs.length ≤ 24
  res : ∀ x ∈ xs, isRes x = true
  flow : isFlow q = true
theorem splProd {xs : List Int} {q : Int} (h : SplOk xs q) (k : Nat) : 0 ≤ condSum (xs.take k) ∧ condSum (xs.take k) ≤ 2400000000 ∧ -240000000000000 ≤ q * condSum (xs.take k) ∧ q * condSum (xs.take k) ≤ 240000000000000 := by
  have h1 := condSum_take (k := k) h.len.2 h.res
  have h2 := isFlow_t h.flow
  have h3 := mul_bnd (x := q) (y := condSum (xs.take k)) (X := 100000) (Y := 2400000000) (M := 240000000000000) (by omega) (by omega) (by omega) (by omega) (by omega)
  exact ⟨h1.1, h1.2, h3.1, h3.2⟩
theorem splAll {xs : List Int} {q : Int} (h : SplOk xs q) : 1 ≤ condSum xs ∧ condSum xs ≤ 2400000000 := by
  have h1 := condSum_bnd h.res
  have h2 := h.len
  omega
theorem splD_bnd {xs : List Int} {q : Int} (h : SplOk xs q) (k : Nat) : -100000 ≤ splD xs q k ∧ splD xs q k ≤ 100000 ∧ (0 ≤ q → 0 ≤ splD xs q k) ∧ (q ≤ 0 → splD xs q k ≤ 0) := by
  have h1 := splProd h k
  have h2 := splAll h
  have h3 := condSum_take_le h.res k
  have hq := isFlow_t h.flow
  have b1 : q * condSum (xs.take k) ≤ 100000 * condSum xs := by
    have := Int.mul_le_mul_of_nonneg_right (c := condSum (xs.take k)) hq.2 h1.1
    omega
  have b2 : -(100000 * condSum xs) ≤ q * condSum (xs.take k) := by
    have := Int.mul_le_mul_of_nonneg_right (c := condSum (xs.take k)) hq.1 h1.1
    omega
  have h4 := dr_scale (a := q * condSum (xs.take k)) (b := condSum xs) (m := 100000) (by omega) b2 b1
  refine ⟨h4.1, h4.2, fun h0 => ?_, fun h0 => ?_⟩
  · exact dr_nonneg (Int.mul_nonneg h0 h1.1) (by omega)
  · have h5 : q * condSum (xs.take k) ≤ 0 := Int.mul_nonpos_of_nonpos_of_nonneg h0 h1.1
    have h6 := dr_mono (c := condSum xs) (by omega) h5
    have h7 : dr 0 (condSum xs) = 0 := by
      unfold dr; rw [if_neg (by omega)]
      exact Int.ediv_eq_zero_of_lt (by omega) (by omega)
    unfold splD; omega
theorem splP_flow {xs : List Int} {q : Int} (h : SplOk xs q) {k : Nat} (hk : k < xs.length) : isFlow (splP xs q k) = true := by
  have h1 := splD_bnd h k
  have h2 := splD_bnd h (k + 1)
  have hall := splAll h
  have hx : xs[k]? = some xs[k] := List.getElem?_eq_getElem hk
  have hs := condSum_snoc hx
  have hc := cond_bnd (h.res _ (List.getElem_mem hk))
  have hle : condSum (xs.take k) ≤ condSum (xs.take (k + 1)) := by omega
  unfold splP
  apply decide_eq_true
  rcases Int.le_total 0 q with h0 | h0
  · have := h1.2.2.1 h0
    have := h2.2.2.1 h0
    omega
  · have := h1.2.2.2 h0
    have := h2.2.2.2 h0
    omega
set_option maxHeartbeats 1600000 in
theorem splitFlow_any (A : Option Addr) (n c : Nat) (xs : List Int) (q : Int) (w : World) (hr : Reads w w.heap.size 1 A n (ints xs)) (hok : SplOk xs q) :
    Calls Try.prog 68 #[.slice A n c, .int .i64 q] w fun e w' => ∃ A' c', e = .returned (.slice A' n c') ∧ w'.ownsRow w.heap.size 2 1 (.slice A' n c') n (ints (splL xs q)) ∧ Below w.heap.size w w' := by
  obtain ⟨i0, hi0, hz0, hz1, hz2⟩ := info_parts info_Int64S
  have HL := Lib.hid (ints_len hr)
  have hn : n ≤ 24 := by have := hok.len.2; rw [HL.out] at this; exact this
  go_enter Try.func68, Try.ntmps68
  go_wp2
  go_loopw [5, 16] (fun s i wr => ∃ k : Nat, k ≤ n ∧ i = .int .i64 k ∧ s = .int .i64 (condSum (xs.take k)) ∧ Below w.heap.size w wr) (fun _ i _ => n - (intOf i).toNat)
  case atStart => exact ⟨0, by omega, rfl, rfl, Below.refl _ _⟩
  case round =>
    obtain ⟨k, hk, rfl, rfl, hbw⟩ := hrel
    obtain ⟨s1, s2⟩ := condSum_take (xs := xs) (k := k) hok.len.2 hok.res
    by_cases hlt : k < n
    · obtain ⟨ad, u, rfl, had, hx, hc⟩ := (hr.below hbw).at_ hlt
      obtain ⟨b, hb, rfl⟩ := ints_at hx
      have HX := Lib.hid (condSum_snoc hb)
      have hres := hok.res b (mem_of_at hb)
      obtain ⟨s3, s4⟩ := cond_bnd hres
      have HR := Lib.hid hres
      clear hb hx hres
      go_wp2_with (go_at_call 83; (with_reducible refine (conductance_any _ _ HR.out).mono ?_); rintro e w1 ⟨rfl, hb1⟩)
      go_roundw
      case rel => exact ⟨k + 1, by omega, by go_num, by rw [HX.out], hbw.trans (hb1.mono hbw.size)⟩
      case measure => simp [intOf]; omega
    · have e : k = n := by omega
      have HT : Hid (xs.take k = xs) := List.take_of_length_le (by rw [HL.out]; omega)
      rw [HT.out]
      clear s1 s2 hlt HT
      subst e
      obtain ⟨wo, rfl⟩ : ∃ wo : World, wo = wr := ⟨_, rfl⟩
      obtain ⟨a1, a2⟩ := splAll hok
      go_wp2
      go_loopw [8, 9, 10, 27] (fun o s g i wr => ∃ (j : Nat) (A' : Option Addr) (c' : Nat), j ≤ k ∧ o = .slice A' j c' ∧ s = .int .i64 (condSum (xs.take j)) ∧ g = .int .i64 (splD xs q j) ∧ i = .int .i64 j ∧
        wr.ownsRow w.heap.size 2 1 (.slice A' j c') j (ints ((splL xs q).take j)) ∧ Below w.heap.size w wr) (fun _ _ _ i _ => k - (intOf i).toNat)
      case atStart => exact ⟨0, none, 0, by omega, rfl, rfl, by rw [splD_zero xs q (by omega)], rfl, own_nil _ _ _ _, hbw⟩
      case round =>
        obtain ⟨j, A', c', hj, rfl, rfl, rfl, rfl, hown, hbr⟩ := hrel
        obtain ⟨s1, s2, s3, s4⟩ := splProd hok j
        obtain ⟨d1, d2, _, _⟩ := splD_bnd hok j
        by_cases hlt : j < k
        · obtain ⟨ad, u, rfl, had, hx, hc⟩ := (hr.below hbr).at_ hlt
          obtain ⟨b, hb, rfl⟩ := ints_at hx
          have hX := condSum_snoc hb
          have hres := hok.res b (mem_of_at hb)
          obtain ⟨t1, t2⟩ := cond_bnd hres
          obtain ⟨p1, p2, p3, p4⟩ := splProd hok (j + 1)
          obtain ⟨e1, e2, _, _⟩ := splD_bnd hok (j + 1)
          have HD : Hid (dr (q * (condSum (xs.take j) + cond b)) (condSum xs) = splD xs q (j + 1)) := show _ = _ by unfold splD; rw [hX]
          rw [hX] at p1 p2 p3 p4
          have HX := Lib.hid hX
          have HR := Lib.hid hres
          have HS := Lib.hid (splL_take (xs := xs) (q := q) (k := j) (by rw [HL.out]; omega))
          clear hb hx hres hX
          go_wp2_with fail; ((with_reducible refine (conductance_any _ _ HR.out).mono ?_); rintro e w1 ⟨rfl, hb1⟩)
          go_wp2_with fail; ((with_reducible refine (divRound_any _ _ _ (by omega) (by omega) (by omega) (by omega)).mono ?_); rintro e w' ⟨rfl, m, rfl⟩)
          rw [HD.out]
          have hown1 : (w1.drewN m).ownsRow w.heap.size 2 1 (.slice A' j c') j (ints ((splL xs q).take j)) := own_below hown (below_drewN hb1 m)
          have hbm : Below w.heap.size w (w1.drewN m) := below_drewN (hbr.trans (hb1.mono hbr.size)) m
          go_wp2_with (at_builtin; (refine wpList_app _ rfl _ _ 28 rfl w.heap.size 2 i0 _ 1 8 Try.underlying28 hi0 hz0 hz1 hz2 rfl (by omega) A' _ c' _ rfl ((hown1).alloc _) ⟨_, 0, none⟩ 1 1 [.int .i64 (splD xs q (j + 1) - splD xs q j)] rfl rfl (cell_one_new _ _ _) (by simp [Value.oneCell']) (by unfold maxLen; omega) (by omega) (by have hz := (hbm).size; simp at hz ⊢; omega) ?_); intro A1 c1 w2 ho2 hb2)
          go_roundw
          case rel =>
            refine ⟨j + 1, A1, c1, by omega, by first | rfl | go_num, by rw [HX.out], ?_, by go_num, ?_, ?_⟩
            · go_num
            · rw [HS.out]; simpa [ints, splP] using ho2
            · exact (hbm.alloc hbm.size _).trans hb2
          case measure => simp [intOf]; omega
        · have e : j = k := by omega
          have HT : Hid ((splL xs q).take j = splL xs q) := List.take_of_length_le (by rw [splL_len, HL.out]; omega)
          rw [HT.out] at hown
          subst e
          go_wp2
          go_ret
          exact ⟨A', c', rfl, hown, hbr⟩
set_option maxHeartbeats 1600000 in
theorem l08Split_any (A : Option Addr) (n c : Nat) (xs : List Int) (q : Int) (w : World) (hr : Reads w w.heap.size 1 A n (ints xs)) (hok : SplOk xs q) :
    Calls Try.prog 66 #[.slice A n c, .int .i64 q] w fun e w' => ∃ A' c', e = .returned (.slice A' n c') ∧ w'.ownsRow w.heap.size 2 1 (.slice A' n c') n (ints (splL xs q)) ∧ Below w.heap.size w w' := by
  obtain ⟨i0, hi0, hz0, hz1, hz2⟩ := info_parts info_Int64S
  have HL := Lib.hid (ints_len hr)
  have hn : n ≤ 24 := by have := hok.len.2; rw [HL.out] at this; exact this
  go_enter Try.func66, Try.ntmps66
  go_wp2
  go_loopw [5, 6] (fun s i wr => ∃ k : Nat, k ≤ n ∧ i = .int .i64 k ∧ s = .int .i64 (condSum (xs.take k)) ∧ Below w.heap.size w wr) (fun _ i _ => n - (intOf i).toNat)
  case atStart => exact ⟨0, by omega, rfl, rfl, Below.refl _ _⟩
  case round =>
    obtain ⟨k, hk, rfl, rfl, hbw⟩ := hrel
    obtain ⟨s1, s2⟩ := condSum_take (xs := xs) (k := k) hok.len.2 hok.res
    by_cases hlt : k < n
    · obtain ⟨ad, u, rfl, had, hx, hc⟩ := (hr.below hbw).at_ hlt
      obtain ⟨b, hb, rfl⟩ := ints_at hx
      have HX := Lib.hid (condSum_snoc hb)
      have hres := hok.res b (mem_of_at hb)
      obtain ⟨s3, s4⟩ := cond_bnd hres
      have HR := Lib.hid hres
      clear hb hx hres
      go_wp2_with (go_at_call 82; (with_reducible refine (l08Conductance_any _ _ HR.out).mono ?_); rintro e w1 ⟨rfl, rfl⟩)
      go_roundw
      case rel => exact ⟨k + 1, by omega, by go_num, by rw [HX.out], hbw⟩
      case measure => simp [intOf]; omega
    · have e : k = n := by omega
      have HT : Hid (xs.take k = xs) := List.take_of_length_le (by rw [HL.out]; omega)
      rw [HT.out]
      clear s1 s2 hlt HT
      subst e
      obtain ⟨wo, rfl⟩ : ∃ wo : World, wo = wr := ⟨_, rfl⟩
      obtain ⟨a1, a2⟩ := splAll hok
      go_wp2
      go_loopw [7, 8, 9, 10] (fun o s g i wr => ∃ (j : Nat) (A' : Option Addr) (c' : Nat), j ≤ k ∧ o = .slice A' j c' ∧ s = .int .i64 (condSum (xs.take j)) ∧ g = .int .i64 (splD xs q j) ∧ i = .int .i64 j ∧
        wr.ownsRow w.heap.size 2 1 (.slice A' j c') j (ints ((splL xs q).take j)) ∧ Below w.heap.size w wr) (fun _ _ _ i _ => k - (intOf i).toNat)
      case atStart => exact ⟨0, some ⟨wo.heap.size, 0, none⟩, 0, by omega, rfl, rfl, by rw [splD_zero xs q (by omega)], rfl, own_base (own_empty wo _ _) hbw.size, hbw.alloc hbw.size _⟩
      case round =>
        obtain ⟨j, A', c', hj, rfl, rfl, rfl, rfl, hown, hbr⟩ := hrel
        obtain ⟨s1, s2, s3, s4⟩ := splProd hok j
        obtain ⟨d1, d2, _, _⟩ := splD_bnd hok j
        by_cases hlt : j < k
        · obtain ⟨ad, u, rfl, had, hx, hc⟩ := (hr.below hbr).at_ hlt
          obtain ⟨b, hb, rfl⟩ := ints_at hx
          have hX := condSum_snoc hb
          have hres := hok.res b (mem_of_at hb)
          obtain ⟨t1, t2⟩ := cond_bnd hres
          obtain ⟨p1, p2, p3, p4⟩ := splProd hok (j + 1)
          obtain ⟨e1, e2, _, _⟩ := splD_bnd hok (j + 1)
          have HD : Hid (dr (q * (condSum (xs.take j) + cond b)) (condSum xs) = splD xs q (j + 1)) := show _ = _ by unfold splD; rw [hX]
          rw [hX] at p1 p2 p3 p4
          have HX := Lib.hid hX
          have HR := Lib.hid hres
          have HS := Lib.hid (splL_take (xs := xs) (q := q) (k := j) (by rw [HL.out]; omega))
          clear hb hx hres hX
          go_wp2_with fail; ((with_reducible refine (l08Conductance_any _ _ HR.out).mono ?_); rintro e w1 ⟨rfl, rfl⟩)
          go_wp2_with fail; ((with_reducible refine (l01Div_any _ _ _ (by omega) (by omega) (by omega) (by omega)).mono ?_); rintro e w' ⟨rfl, rfl⟩)
          rw [HD.out]
          go_wp2_with (at_builtin; (refine wpList_app _ rfl _ _ 28 rfl w.heap.size 2 i0 _ 1 8 Try.underlying28 hi0 hz0 hz1 hz2 rfl (by omega) A' _ c' _ rfl ((hown).alloc _) ⟨_, 0, none⟩ 1 1 [.int .i64 (splD xs q (j + 1) - splD xs q j)] rfl rfl (cell_one_new _ _ _) (by simp [Value.oneCell']) (by unfold maxLen; omega) (by omega) (by have hz := (hbr).size; simp at hz ⊢; omega) ?_); intro A1 c1 w2 ho2 hb2)
          go_roundw
          case rel =>
            refine ⟨j + 1, A1, c1, by omega, by first | rfl | go_num, by rw [HX.out], ?_, by go_num, ?_, ?_⟩
            · go_num
            · rw [HS.out]; simpa [ints, splP] using ho2
            · exact (hbr.alloc hbr.size _).trans hb2
          case measure => simp [intOf]; omega
        · have e : j = k := by omega
          have HT : Hid ((splL xs q).take j = splL xs q) := List.take_of_length_le (by rw [splL_len, HL.out]; omega)
          rw [HT.out] at hown
          subst e
          go_wp2
          go_ret
          exact ⟨A', c', rfl, hown, hbr⟩
def splR (xs : List Int) (q : Int) : List Int × Int := if resList xs = true ∧ isFlow q = true then (splL xs q, 0) else ([], 2)
theorem splOk_mk {xs : List Int} {q : Int} (h : resList xs = true) (k : isFlow q = true) : SplOk xs q := ⟨(resList_t h).1, res_all h, k⟩
theorem splR_y {xs : List Int} {q : Int} (h : resList xs = true) (k : isFlow q = true) : splR xs q = (splL xs q, 0) := by unfold splR; rw [if_pos ⟨h, k⟩]
theorem splR_n {xs : List Int} {q : Int} (h : ¬ (resList xs = true ∧ isFlow q = true)) : splR xs q = ([], 2) := by unfold splR; rw [if_neg h]
theorem implSplitFlow_any (A : Option Addr) (n c : Nat) (xs : List Int) (q : Int) (w : World) (hr : Reads w w.heap.size 1 A n (ints xs)) (hn : n ≤ 1048576) :
    Calls Try.prog 37 #[.slice A n c, .int .i64 q] w fun e w' => ∃ A' n' c', e = .returned (.tuple #[.slice A' n' c', .int .i64 (splR xs q).2]) ∧ w'.ownsRow w.heap.size 2 1 (.slice A' n' c') n' (ints (splR xs q).1) ∧ n' ≤ 1048576 ∧ Below w.heap.size w w' := by
  rcases Bool.eq_false_or_eq_true (resList xs) with h | h
  · rcases Bool.eq_false_or_eq_true (isFlow q) with k | k
    · have HE := Lib.hid (splR_y h k)
      have hok := splOk_mk h k
      go_enter Try.func37, Try.ntmps37
      go_wp2_with fail; ((with_reducible refine (resistancesOk_any A n c xs _ hr hn).mono ?_); rintro e w1 ⟨rfl, hb1⟩)
      go_wp2_with fail; ((with_reducible refine (flowOk_any _ _).mono ?_); rintro e w' ⟨rfl, rfl⟩)
      go_wp2_with fail; ((with_reducible refine (splitFlow_any A n c xs q _ ((hr.below hb1).more hb1.size) hok).mono ?_); rintro e w2 ⟨A', c', rfl, ho, hb2⟩)
      go_wp2
      go_ret2
      rw [HE.out]
      exact ⟨A', n, c', rfl, own_base ho hb1.size, hn, hb1.trans (hb2.mono hb1.size)⟩
    · have HE : Hid (splR xs q = ([], 2)) := splR_n (by rw [k]; simp)
      go_enter Try.func37, Try.ntmps37
      go_wp2_with fail; ((with_reducible refine (resistancesOk_any A n c xs _ hr hn).mono ?_); rintro e w1 ⟨rfl, hb1⟩)
      go_wp2_with fail; ((with_reducible refine (flowOk_any _ _).mono ?_); rintro e w' ⟨rfl, rfl⟩)
      go_wp2
      go_ret2
      rw [HE.out]
      exact ⟨none, 0, 0, rfl, own_nil _ _ _ _, by omega, hb1⟩
  · have HE : Hid (splR xs q = ([], 2)) := splR_n (by rw [h]; simp)
    go_enter Try.func37, Try.ntmps37
    go_wp2_with fail; ((with_reducible refine (resistancesOk_any A n c xs _ hr hn).mono ?_); rintro e w1 ⟨rfl, hb1⟩)
    go_wp2
    go_ret2
    rw [HE.out]
    exact ⟨none, 0, 0, rfl, own_nil _ _ _ _, by omega, hb1⟩
theorem specSplitFlow_any (A : Option Addr) (n c : Nat) (xs : List Int) (q : Int) (w : World) (hr : Reads w w.heap.size 1 A n (ints xs)) (hn : n ≤ 1048576) :
    Calls Try.prog 36 #[.slice A n c, .int .i64 q] w fun e w' => ∃ A' n' c', e = .returned (.tuple #[.slice A' n' c', .int .i64 (splR xs q).2]) ∧ w'.ownsRow w.heap.size 2 1 (.slice A' n' c') n' (ints (splR xs q).1) ∧ n' ≤ 1048576 ∧ Below w.heap.size w w' := by
  rcases Bool.eq_false_or_eq_true (resList xs) with h | h
  · rcases Bool.eq_false_or_eq_true (isFlow q) with k | k
    · have HE := Lib.hid (splR_y h k)
      have hok := splOk_mk h k
      go_enter Try.func36, Try.ntmps36
      go_wp2_with fail; ((with_reducible refine (l08List_any A n c xs _ hr hn).mono ?_); rintro e w' ⟨rfl, rfl⟩)
      go_wp2_with fail; ((with_reducible refine (l03Flow_any _ _).mono ?_); rintro e w' ⟨rfl, rfl⟩)
      go_wp2_with fail; ((with_reducible refine (l08Split_any A n c xs q _ hr hok).mono ?_); rintro e w2 ⟨A', c', rfl, ho, hb2⟩)
      go_wp2
      go_ret2
      rw [HE.out]
      exact ⟨A', n, c', rfl, ho, hn, hb2⟩
    · have HE : Hid (splR xs q = ([], 2)) := splR_n (by rw [k]; simp)
      go_enter Try.func36, Try.ntmps36
      go_wp2_with fail; ((with_reducible refine (l08List_any A n c xs _ hr hn).mono ?_); rintro e w' ⟨rfl, rfl⟩)
      go_wp2_with fail; ((with_reducible refine (l03Flow_any _ _).mono ?_); rintro e w' ⟨rfl, rfl⟩)
      go_wp2
      go_ret2
      rw [HE.out]
      exact ⟨none, 0, 0, rfl, own_nil _ _ _ _, by omega, Below.refl _ _⟩
  · have HE : Hid (splR xs q = ([], 2)) := splR_n (by rw [h]; simp)
    go_enter Try.func36, Try.ntmps36
    go_wp2_with fail; ((with_reducible refine (l08List_any A n c xs _ hr hn).mono ?_); rintro e w' ⟨rfl, rfl⟩)
    go_wp2
    go_ret2
    rw [HE.out]
    exact ⟨none, 0, 0, rfl, own_nil _ _ _ _, by omega, Below.refl _ _⟩
def errL (xs : List Int) (q : Int) : List Int := xs.zipIdx.map fun p => drop p.1 (splP xs q p.2)
theorem errL_at {xs : List Int} {q : Int} {k : Nat} {x : Int} (h : xs[k]? = some x) : (errL xs q)[k]? = some (drop x (splP xs q k)) := by
  unfold errL
  rw [List.getElem?_map, List.getElem?_zipIdx, h]; simp
theorem errL_len (xs : List Int) (q : Int) : (errL xs q).length = xs.length := by simp [errL]
theorem errL_bnd {xs : List Int} {q : Int} (h : SplOk xs q) : ∀ y ∈ errL xs q, -1000000 ≤ y ∧ y ≤ 1000000 := by
  intro y hy
  obtain ⟨k, hk, rfl⟩ := List.mem_iff_getElem.1 hy
  rw [errL_len] at hk
  have hx : xs[k]? = some xs[k] := List.getElem?_eq_getElem hk
  have h1 := errL_at (q := q) hx
  rw [List.getElem?_eq_getElem (by rw [errL_len]; exact hk)] at h1
  rw [Option.some.inj h1]
  exact drop_bnd (h.res _ (List.getElem_mem hk)) (splP_flow h hk)
def errR (xs : List Int) (q : Int) : Int × Int := if resList xs = true ∧ isFlow q = true then (maxL (errL xs q) - minL (errL xs q), 0) else (0, 2)
theorem errR_y {xs : List Int} {q : Int} (h : resList xs = true) (k : isFlow q = true) : errR xs q = (maxL (errL xs q) - minL (errL xs q), 0) := by unfold errR; rw [if_pos ⟨h, k⟩]
theorem errR_n {xs : List Int} {q : Int} (h : ¬ (resList xs = true ∧ isFlow q = true)) : errR xs q = (0, 2) := by unfold errR; rw [if_neg h]
set_option maxHeartbeats 1600000 in
theorem implSplitError_any (A : Option Addr) (n c : Nat) (xs : List Int) (q : Int) (w : World) (hr : Reads w w.heap.size 1 A n (ints xs)) (hn : n ≤ 1048576) :
    Calls Try.prog 39 #[.slice A n c, .int .i64 q] w fun e w' => e = .returned (.tuple #[.int .i64 (errR xs q).1, .int .i64 (errR xs q).2]) ∧ Below w.heap.size w w' := by
  obtain ⟨i0, hi0, hz0, hz1, hz2⟩ := info_parts info_Int64S
  rcases Bool.eq_false_or_eq_true (resList xs) with h | h
  · rcases Bool.eq_false_or_eq_true (isFlow q) with k | k
    · have HE := Lib.hid (errR_y h k)
      have hok := splOk_mk h k
      have HL := Lib.hid (ints_len hr)
      have hn24 : n ≤ 24 := by have := hok.len.2; rw [HL.out] at this; exact this
      have hn1 : 1 ≤ n := by have := hok.len.1; rw [HL.out] at this; exact this
      go_enter Try.func39, Try.ntmps39
      go_wp2_with fail; ((with_reducible refine (resistancesOk_any A n c xs _ hr hn).mono ?_); rintro e w1 ⟨rfl, hb1⟩)
      go_wp2_with fail; ((with_reducible refine (flowOk_any _ _).mono ?_); rintro e w' ⟨rfl, rfl⟩)
      go_wp2_with fail; ((with_reducible refine (splitFlow_any A n c xs q _ ((hr.below hb1).more hb1.size) hok).mono ?_); rintro e w2 ⟨A', c', rfl, ho, hb2⟩)
      have B2 := hb1.trans (hb2.mono hb1.size)
      have z1 := hb1.size
      go_wp2
      go_loopw [6, 21] (fun o i wr => ∃ (j : Nat) (A2 : Option Addr) (c2 : Nat), j ≤ n ∧ o = .slice A2 j c2 ∧ i = .int .i64 j ∧ wr.ownsRow w2.heap.size 2 1 (.slice A2 j c2) j (ints ((errL xs q).take j)) ∧ Below w2.heap.size w2 wr) (fun _ i _ => n - (intOf i).toNat)
      case atStart => exact ⟨0, none, 0, by omega, rfl, rfl, own_nil _ _ _ _, Below.refl _ _⟩
      case round =>
        obtain ⟨j, A2, c2, hj, rfl, rfl, hown, hbr⟩ := hrel
        have hB := B2.trans (hbr.mono B2.size)
        by_cases hlt : j < n
        · obtain ⟨ad, u, rfl, had, hx, hc⟩ := (hr.below hB).at_ hlt
          obtain ⟨ad', u', hA', had', hx', hc'⟩ := (Reads.of_own (own_below ho hbr)).at_ hlt
          subst hA'
          obtain ⟨b, hb, rfl⟩ := ints_at hx
          obtain ⟨b', hb', rfl⟩ := ints_at hx'
          rw [splL_at (by rw [HL.out]; exact hlt)] at hb'
          obtain rfl := Option.some.inj hb'
          have HR := Lib.hid (hok.res b (mem_of_at hb))
          have HF := Lib.hid (splP_flow hok (k := j) (by rw [HL.out]; exact hlt))
          have HS := Lib.hid (take_snoc (errL_at (q := q) hb))
          clear hb hx hb' hx'
          go_wp2_with fail; ((with_reducible refine (dropOf_any _ _ _ HR.out HF.out).mono ?_); rintro e w' ⟨rfl, m, rfl⟩)
          go_wp2_with (at_builtin; (refine wpList_app _ rfl _ _ 28 rfl w2.heap.size 2 i0 _ 1 8 Try.underlying28 hi0 hz0 hz1 hz2 rfl (by omega) A2 _ c2 _ rfl ((own_drewN hown m).alloc _) ⟨_, 0, none⟩ 1 1 [.int .i64 (drop b (splP xs q j))] rfl rfl (cell_one_new _ _ _) (by simp [Value.oneCell']) (by unfold maxLen; omega) (by omega) (by have hz := (below_drewN hbr m).size; simp at hz ⊢; omega) ?_); intro A3 c3 w3 ho3 hb3)
          go_roundw
          case rel =>
            refine ⟨j + 1, A3, c3, by omega, by first | rfl | go_num, by go_num, ?_, ((below_drewN hbr m).alloc hbr.size _).trans hb3⟩
            rw [HS.out]; simpa [ints] using ho3
          case measure => simp [intOf]; omega
        · have e : j = n := by omega
          have HT : Hid ((errL xs q).take j = errL xs q) := List.take_of_length_le (by rw [errL_len, HL.out]; omega)
          rw [HT.out] at hown
          clear HT
          subst e
          have HB := Lib.hid (errL_bnd hok)
          have l1 := HB.out _ (maxL_mem (xs := errL xs q) (by rw [errL_len, HL.out]; exact hn1))
          have l2 := HB.out _ (minL_mem (xs := errL xs q) (by rw [errL_len, HL.out]; exact hn1))
          obtain ⟨l3, l4⟩ := l1
          obtain ⟨l5, l6⟩ := l2
          go_wp2_with fail; ((with_reducible refine (maxL_any _ j c2 _ _ (Reads.of_own hown) hn1 (by omega)).mono ?_); rintro e w' ⟨rfl, rfl⟩)
          go_wp2_with fail; ((with_reducible refine (minL_any _ j c2 _ _ (Reads.of_own hown) hn1 (by omega)).mono ?_); rintro e w' ⟨rfl, rfl⟩)
          go_wp2
          go_ret2
          rw [HE.out]
          exact ⟨rfl, hB⟩
    · have HE : Hid (errR xs q = (0, 2)) := errR_n (by rw [k]; simp)
      go_enter Try.func39, Try.ntmps39
      go_wp2_with fail; ((with_reducible refine (resistancesOk_any A n c xs _ hr hn).mono ?_); rintro e w1 ⟨rfl, hb1⟩)
      go_wp2_with fail; ((with_reducible refine (flowOk_any _ _).mono ?_); rintro e w' ⟨rfl, rfl⟩)
      go_wp2
      go_ret2
      rw [HE.out]
      exact ⟨rfl, hb1⟩
  · have HE : Hid (errR xs q = (0, 2)) := errR_n (by rw [h]; simp)
    go_enter Try.func39, Try.ntmps39
    go_wp2_with fail; ((with_reducible refine (resistancesOk_any A n c xs _ hr hn).mono ?_); rintro e w1 ⟨rfl, hb1⟩)
    go_wp2
    go_ret2
    rw [HE.out]
    exact ⟨rfl, hb1⟩
set_option maxHeartbeats 1600000 in
theorem specSplitError_any (A : Option Addr) (n c : Nat) (xs : List Int) (q : Int) (w : World) (hr : Reads w w.heap.size 1 A n (ints xs)) (hn : n ≤ 1048576) :
    Calls Try.prog 38 #[.slice A n c, .int .i64 q] w fun e w' => e = .returned (.tuple #[.int .i64 (errR xs q).1, .int .i64 (errR xs q).2]) ∧ Below w.heap.size w w' := by
  rcases Bool.eq_false_or_eq_true (resList xs) with h | h
  · rcases Bool.eq_false_or_eq_true (isFlow q) with k | k
    · have HE := Lib.hid (errR_y h k)
      have hok := splOk_mk h k
      have HL := Lib.hid (ints_len hr)
      have hn24 : n ≤ 24 := by have := hok.len.2; rw [HL.out] at this; exact this
      have hn1 : 1 ≤ n := by have := hok.len.1; rw [HL.out] at this; exact this
      have hn1' : (0 : Int) < (n : Int) := by omega
      go_enter Try.func38, Try.ntmps38
      go_wp2_with fail; ((with_reducible refine (l08List_any A n c xs _ hr hn).mono ?_); rintro e w' ⟨rfl, rfl⟩)
      go_wp2_with fail; ((with_reducible refine (l03Flow_any _ _).mono ?_); rintro e w' ⟨rfl, rfl⟩)
      go_wp2_with fail; ((with_reducible refine (l08Split_any A n c xs q _ hr hok).mono ?_); rintro e w2 ⟨A', c', rfl, ho, hb2⟩)
      have hr2 := hr.below hb2
      have hq2 := Reads.of_own ho
      obtain ⟨a0, u0, rfl, _, hx0, hc0⟩ := hr2.at_ (k := 0) hn1
      obtain ⟨a1, u1, hA1, _, hx1, hc1⟩ := hq2.at_ (k := 0) hn1
      subst hA1
      obtain ⟨b0, hb0, rfl⟩ := ints_at hx0
      obtain ⟨b1, hb1, rfl⟩ := ints_at hx1
      rw [splL_at (by rw [HL.out]; exact hn1)] at hb1
      obtain rfl := Option.some.inj hb1
      have HR := Lib.hid (hok.res b0 (mem_of_at hb0))
      have HF := Lib.hid (splP_flow hok (k := 0) (by rw [HL.out]; exact hn1))
      have HD := Lib.hid (errL_at (q := q) hb0)
      have hc0' : w2.cell? a0 = some (.int .i64 b0) := hc0
      have hc1' : w2.cell? a1 = some (.int .i64 (splP xs q 0)) := hc1
      clear hx0 hx1 hb0 hb1
      go_wp2
      go_quiet ((go_at_call 51; exact quietS (l03Drop_any _ _ _ HR.out HF.out)))
      go_wp2
      go_loopw [7, 8, 9] (fun l h i wr => ∃ (j : Nat), 1 ≤ j ∧ j ≤ n ∧ i = .int .i64 j ∧ l = .int .i64 (minL ((errL xs q).take j)) ∧ h = .int .i64 (maxL ((errL xs q).take j)) ∧ Below w2.heap.size w2 wr) (fun _ _ i _ => n - (intOf i).toNat)
      case atStart => exact ⟨1, by omega, by omega, rfl, by rw [minL_one HD.out], by rw [maxL_one HD.out], below_drewN (Below.refl _ _) _⟩
      case round =>
        obtain ⟨j, hj1, hj, rfl, rfl, rfl, hbr⟩ := hrel
        by_cases hlt : j < n
        · obtain ⟨ad, u, hA, had, hx, hc⟩ := ((hr2.more hb2.size).below hbr).at_ hlt
          injection hA with hA
          subst hA
          obtain ⟨ad', u', hA', had', hx', hc'⟩ := (hq2.below hbr).at_ hlt
          injection hA' with hA'
          subst hA'
          obtain ⟨b, hb, rfl⟩ := ints_at hx
          obtain ⟨b', hb', rfl⟩ := ints_at hx'
          rw [splL_at (by rw [HL.out]; exact hlt)] at hb'
          obtain rfl := Option.some.inj hb'
          have HR := Lib.hid (hok.res b (mem_of_at hb))
          have HF := Lib.hid (splP_flow hok (k := j) (by rw [HL.out]; exact hlt))
          have HX := Lib.hid (maxL_snoc hj1 (errL_at (q := q) hb))
          have HN := Lib.hid (minL_snoc hj1 (errL_at (q := q) hb))
          have hlt' : (j : Int) < (n : Int) := by omega
          clear hb hx hb' hx'
          go_wp2_with fail
          go_quiet ((go_at_call 51; exact quietS (l03Drop_any _ _ _ HR.out HF.out)))
          go_wp2_with (first | (go_at_call 69; refine (l00Min_any _ _ _).mono ?_; rintro e w' ⟨rfl, rfl⟩) | (go_at_call 70; refine (l00Max_any _ _ _).mono ?_; rintro e w' ⟨rfl, rfl⟩))
          go_roundw
          case rel => exact ⟨j + 1, by omega, by omega, by go_num, by rw [HN.out], by rw [HX.out], below_drewN hbr _⟩
          case measure => simp [intOf]; omega
        · have e : j = n := by omega
          have HT : Hid ((errL xs q).take j = errL xs q) := List.take_of_length_le (by rw [errL_len, HL.out]; omega)
          have HB := Lib.hid (errL_bnd hok)
          obtain ⟨l3, l4⟩ := HB.out _ (maxL_mem (xs := errL xs q) (by rw [errL_len, HL.out]; exact hn1))
          obtain ⟨l5, l6⟩ := HB.out _ (minL_mem (xs := errL xs q) (by rw [errL_len, HL.out]; exact hn1))
          rw [HT.out]
          clear HT
          go_wp2
          go_ret2
          rw [HE.out]
          exact ⟨rfl, hb2.trans (hbr.mono hb2.size)⟩
    · have HE : Hid (errR xs q = (0, 2)) := errR_n (by rw [k]; simp)
      go_enter Try.func38, Try.ntmps38
      go_wp2_with fail; ((with_reducible refine (l08List_any A n c xs _ hr hn).mono ?_); rintro e w' ⟨rfl, rfl⟩)
      go_wp2_with fail; ((with_reducible refine (l03Flow_any _ _).mono ?_); rintro e w' ⟨rfl, rfl⟩)
      go_wp2
      go_ret2
      rw [HE.out]
      exact ⟨rfl, Below.refl _ _⟩
  · have HE : Hid (errR xs q = (0, 2)) := errR_n (by rw [h]; simp)
    go_enter Try.func38, Try.ntmps38
    go_wp2_with fail; ((with_reducible refine (l08List_any A n c xs _ hr hn).mono ?_); rintro e w' ⟨rfl, rfl⟩)
    go_wp2
    go_ret2
    rw [HE.out]
    exact ⟨rfl, Below.refl _ _⟩
end Go.Proofs.Ytkojlpbjhpdakaa
