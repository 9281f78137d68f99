/- Contracts of ResistancesOf. -/
import Derived.Test.YtgbmpadlfcbcaaaLev
import Derived.Test.YtgbmpadlfcbcaaaRootC
namespace Go.Proofs.Ytgbmpadlfcbcaaa
set_option linter.unusedVariables false
set_option linter.unusedSimpArgs false
open Go.RowKit
def rawI (x : Awy) : Int := dr (x.f * (x.l + x.h) * rootI (x.c * 10000) * 400000) (x.c * x.c * x.c)
def resI (x : Awy) : Int := max 1 (rawI x)
theorem raw_in {x : Awy} (h : awyOk x = true) :
    (0 ≤ x.l + x.h ∧ x.l + x.h ≤ 11000) ∧ (0 ≤ x.f * (x.l + x.h) ∧ x.f * (x.l + x.h) ≤ 11000000) ∧ (0 ≤ rootI (x.c * 10000) ∧ rootI (x.c * 10000) ≤ 10000) ∧ (0 ≤ x.f * (x.l + x.h) * rootI (x.c * 10000) ∧ x.f * (x.l + x.h) * rootI (x.c * 10000) ≤ 110000000000) ∧
    (0 ≤ x.f * (x.l + x.h) * rootI (x.c * 10000) * 400000 ∧ x.f * (x.l + x.h) * rootI (x.c * 10000) * 400000 ≤ 44000000000000000) ∧ (0 < x.c * x.c ∧ x.c * x.c ≤ 25000000) ∧ (0 < x.c * x.c * x.c ∧ x.c * x.c * x.c ≤ 125000000000) ∧ (-44000000000000000 ≤ rawI x ∧ rawI x ≤ 44000000000000000) := by
  obtain ⟨_, _, _, ⟨l1, l2⟩, ⟨c1, c2⟩, ⟨f1, f2⟩, ⟨s1, s2⟩⟩ := awyOk_t h
  have h1 : 0 ≤ x.l + x.h ∧ x.l + x.h ≤ 11000 := by omega
  have h2 := mul_pos_bnd (x := x.f) (y := x.l + x.h) (X := 1000) (Y := 11000) (M := 11000000) (by omega) (by omega) (by omega) (by omega) (by omega)
  have h3 := rootI_bnd (n := x.c * 10000) (M := 10000) (m := 0) (by omega) (by omega)
  have h4 := mul_pos_bnd (x := x.f * (x.l + x.h)) (y := rootI (x.c * 10000)) (X := 11000000) (Y := 10000) (M := 110000000000) h2.1 h2.2 h3.1 h3.2 (by omega)
  have h5 := mul_pos_bnd (x := x.f * (x.l + x.h) * rootI (x.c * 10000)) (y := 400000) (X := 110000000000) (Y := 400000) (M := 44000000000000000) h4.1 h4.2 (by omega) (by omega) (by omega)
  have h6 := mul_pos_bnd (x := x.c) (y := x.c) (X := 5000) (Y := 5000) (M := 25000000) (by omega) (by omega) (by omega) (by omega) (by omega)
  have h6' : 0 < x.c * x.c := Int.mul_pos (by omega) (by omega)
  have h7 := mul_pos_bnd (x := x.c * x.c) (y := x.c) (X := 25000000) (Y := 5000) (M := 125000000000) h6.1 h6.2 (by omega) (by omega) (by omega)
  have h7' : 0 < x.c * x.c * x.c := Int.mul_pos h6' (by omega)
  exact ⟨h1, h2, h3, h4, h5, ⟨h6', h6.2⟩, ⟨h7', h7.2⟩, dr_bnd h7' (by omega) h5.2⟩
def rsTo (xs : List Awy) (k : Nat) : List Int := (xs.take k).map resI
theorem rsTo_snoc {xs : List Awy} {k : Nat} {x : Awy} (h : xs[k]? = some x) : rsTo xs (k + 1) = rsTo xs k ++ [resI x] := by unfold rsTo; rw [take_snoc h]; simp
theorem rsTo_all {xs : List Awy} {k : Nat} (h : xs.length = k) : rsTo xs k = xs.map resI := by unfold rsTo; rw [List.take_of_length_le (by omega)]
def rsR (J : Int) (xs : List Awy) : List Int × Int :=
  if mineOk J xs = true then (if allIn 1 1000000 (xs.map resI) = true then (xs.map resI, 0) else ([], 6)) else ([], 1)
theorem rsR_1 {J : Int} {xs : List Awy} (h : mineOk J xs = false) : rsR J xs = ([], 1) := by unfold rsR; rw [h]; rfl
theorem rsR_2 {J : Int} {xs : List Awy} (h : mineOk J xs = true) (h1 : allIn 1 1000000 (xs.map resI) = false) : rsR J xs = ([], 6) := by unfold rsR; rw [h, h1]; rfl
theorem rsR_3 {J : Int} {xs : List Awy} (h : mineOk J xs = true) (h1 : allIn 1 1000000 (xs.map resI) = true) : rsR J xs = (xs.map resI, 0) := by unfold rsR; rw [h, h1]; rfl
theorem rs_bad {xs : List Awy} {k : Nat} {x : Awy} (h : xs[k]? = some x) (hb : 1000000 < resI x) : allIn 1 1000000 (xs.map resI) = false := by
  unfold allIn
  rw [List.all_eq_false]
  exact ⟨resI x, List.mem_map.2 ⟨x, List.mem_of_getElem? h, rfl⟩, by unfold inB; rw [decide_eq_false (by omega)]; exact Bool.false_ne_true⟩
theorem rs_good {xs : List Awy} (h : ∀ x ∈ xs, resI x ≤ 1000000) : allIn 1 1000000 (xs.map resI) = true := by
  unfold allIn
  rw [List.all_eq_true]
  intro v hv
  obtain ⟨x, hx, rfl⟩ := List.mem_map.1 hv
  have h1 := h x hx
  have h2 : 1 ≤ resI x := by unfold resI; omega
  unfold inB
  exact decide_eq_true (by omega)
theorem take_prev {α : Type} {p : α → Prop} {xs : List α} {k : Nat} {x : α} (h : xs[k]? = some x) (ha : ∀ y ∈ xs.take k, p y) (hx : p x) : ∀ y ∈ xs.take (k + 1), p y := by
  intro y hy
  rw [take_snoc h, List.mem_append] at hy
  rcases hy with h1 | h1
  · exact ha y h1
  · simp at h1; subst h1; exact hx
set_option maxHeartbeats 1600000 in
theorem l03Raw_any (x : Awy) (p : Addr) (w : World) (hok : awyOk x = true) (hc : Cells w p x.cells) :
    Calls Try.prog 116 #[.pointer (some p), .int .i64 x.c] w fun e w' => e = .returned (.int .i64 (rawI x)) ∧ ∃ n, w' = w.drewN n := by
  obtain ⟨⟨h1, h2⟩, ⟨h3, h4⟩, ⟨h5, h6⟩, ⟨h7, h8⟩, ⟨h9, h10⟩, ⟨h11, h12⟩, ⟨h13, h14⟩, h15, h16⟩ := raw_in hok
  obtain ⟨_, _, _, ⟨l1, l2⟩, ⟨c1, c2⟩, ⟨f1, f2⟩, ⟨s1, s2⟩⟩ := awyOk_t hok
  obtain ⟨a0, a1, a2, a3, a4, a5, a6⟩ := Awy.open_ hc
  have w1 : IntKind.i64.wrap (x.l + x.h) = x.l + x.h := IntWalk.i64_in _ (by omega)
  have w2 : IntKind.i64.wrap (x.f * (x.l + x.h)) = x.f * (x.l + x.h) := IntWalk.i64_in _ (by omega)
  have w3 : IntKind.i64.wrap (x.c * 10000) = x.c * 10000 := IntWalk.i64_in _ (by omega)
  have w4 : IntKind.i64.wrap (x.f * (x.l + x.h) * rootI (x.c * 10000)) = x.f * (x.l + x.h) * rootI (x.c * 10000) := IntWalk.i64_in _ (by omega)
  have w5 : IntKind.i64.wrap (x.f * (x.l + x.h) * rootI (x.c * 10000) * 400000) = x.f * (x.l + x.h) * rootI (x.c * 10000) * 400000 := IntWalk.i64_in _ (by omega)
  have w6 : IntKind.i64.wrap (x.c * x.c) = x.c * x.c := IntWalk.i64_in _ (by omega)
  have w7 : IntKind.i64.wrap (x.c * x.c * x.c) = x.c * x.c * x.c := IntWalk.i64_in _ (by omega)
  have HR : Hid (∀ m, Calls Try.prog 125 #[.int .i64 (x.c * 10000)] (w.drewN m) fun e w'' => e = .returned (.int .i64 (rootI (x.c * 10000))) ∧ ∃ q, w'' = w.drewN q) := fun m => (l01Root_any _ (w.drewN m) (by omega) (by omega)).mono fun _ _ ⟨he, hw⟩ => ⟨he, m, hw.symm⟩
  have HD : Hid (∀ m, Calls Try.prog 77 #[.int .i64 (x.f * (x.l + x.h) * rootI (x.c * 10000) * 400000), .int .i64 (x.c * x.c * x.c)] (w.drewN m) fun e w'' => e = .returned (.int .i64 (rawI x)) ∧ ∃ q, w'' = w.drewN q) := fun m => (l01Div_any _ _ (w.drewN m) (by omega) (by omega) (by omega) (by omega)).mono fun _ _ ⟨he, hw⟩ => ⟨he, m, hw.symm⟩
  clear hc hok
  go_enter Try.func116, Try.ntmps116
  go_wp2
  go_quiet ((first | (go_at_call 125; exact HR.out _) | (go_at_call 77; exact HD.out _)))
  go_wp2
  go_ret
  exact ⟨rfl, _, rfl⟩
set_option maxHeartbeats 800000 in
theorem l03Resistance_any (x : Awy) (p : Addr) (w : World) (hok : awyOk x = true) (hc : Cells w p x.cells) :
    Calls Try.prog 91 #[.pointer (some p)] w fun e w' => (e = if 1000000 < resI x then .returned (.tuple #[.int .i64 0, .int .i64 6]) else .returned (.tuple #[.int .i64 (resI x), .int .i64 0])) ∧ ∃ n, w' = w.drewN n := by
  obtain ⟨_, _, _, _, _, _, _, h15, h16⟩ := raw_in hok
  obtain ⟨a0, a1, a2, a3, a4, a5, a6⟩ := Awy.open_ hc
  have ch := l03Raw_any x p w hok hc
  clear hc hok
  have HM := Lib.hid (fun W : World => show Calls Try.prog 81 #[.int .i64 1, .int .i64 (rawI x)] W (fun e w' => e = .returned (.int .i64 (resI x)) ∧ W = w') from l00Max_any 1 (rawI x) W)
  by_cases hg : 1000000 < resI x
  all_goals
    go_enter Try.func91, Try.ntmps91
    go_wp2_with fail; ((with_reducible refine (ch).mono ?_); rintro e w' ⟨rfl, n1, rfl⟩)
    go_wp2_with fail; ((with_reducible refine (HM.out _).mono ?_); rintro e w' ⟨rfl, rfl⟩)
    go_wp2
    go_ret2
    exact ⟨rfl, _, rfl⟩
set_option maxHeartbeats 800000 in
theorem resistance_any (x : Awy) (w : World) (hok : awyOk x = true) :
    Calls Try.prog 92 #[.agg #[.string x.s, .int .i64 x.a, .int .i64 x.b, .int .i64 x.l, .int .i64 x.c, .int .i64 x.f, .int .i64 x.h]] w fun e w' => e = .returned (.int .i64 (resI x)) ∧ Below w.heap.size w w' := by
  obtain ⟨⟨h1, h2⟩, ⟨h3, h4⟩, ⟨h5, h6⟩, ⟨h7, h8⟩, ⟨h9, h10⟩, ⟨h11, h12⟩, ⟨h13, h14⟩, h15, h16⟩ := raw_in hok
  obtain ⟨_, _, _, ⟨l1, l2⟩, ⟨c1, c2⟩, ⟨f1, f2⟩, ⟨s1, s2⟩⟩ := awyOk_t hok
  have HC := Lib.hid (rootOf_any (x.c * 10000) (w.alloc (.cells #[.string x.s, .int .i64 x.a, .int .i64 x.b, .int .i64 x.l, .int .i64 x.c, .int .i64 x.f, .int .i64 x.h] 73)) (by omega))
  have w1 : IntKind.i64.wrap (x.l + x.h) = x.l + x.h := IntWalk.i64_in _ (by omega)
  have w2 : IntKind.i64.wrap (x.f * (x.l + x.h)) = x.f * (x.l + x.h) := IntWalk.i64_in _ (by omega)
  have w3 : IntKind.i64.wrap (x.c * 10000) = x.c * 10000 := IntWalk.i64_in _ (by omega)
  have w4 : IntKind.i64.wrap (x.f * (x.l + x.h) * rootI (x.c * 10000)) = x.f * (x.l + x.h) * rootI (x.c * 10000) := IntWalk.i64_in _ (by omega)
  have w5 : IntKind.i64.wrap (x.f * (x.l + x.h) * rootI (x.c * 10000) * 400000) = x.f * (x.l + x.h) * rootI (x.c * 10000) * 400000 := IntWalk.i64_in _ (by omega)
  have w6 : IntKind.i64.wrap (x.c * x.c) = x.c * x.c := IntWalk.i64_in _ (by omega)
  have w7 : IntKind.i64.wrap (x.c * x.c * x.c) = x.c * x.c * x.c := IntWalk.i64_in _ (by omega)
  clear hok
  go_enter Try.func92, Try.ntmps92
  go_wp2_with fail; ((with_reducible refine (HC.out).mono ?_); rintro e wr ⟨rfl, hb1⟩)
  have B1 : Below w.heap.size w wr := (show Below w.heap.size w _ by (repeat (first | exact Below.refl _ _ | assumption | (refine Below.alloc ?_ (by first | exact Nat.le_refl _ | (simp; done) | (simp; omega)) _) | (refine below_drewN ?_ _) | (refine Below.trans ?_ (Below.mono (by assumption) (by first | exact Nat.le_refl _ | (simp; done) | (simp; omega) | omega)))))).trans (hb1.mono (by simp))
  have g3 : wr.cell? ⟨w.heap.size, 3, none⟩ = some (.int .i64 x.l) := (hb1.cell (p := ⟨w.heap.size, 3, none⟩) (by simp)).trans (by go_simp)
  have g4 : wr.cell? ⟨w.heap.size, 4, none⟩ = some (.int .i64 x.c) := (hb1.cell (p := ⟨w.heap.size, 4, none⟩) (by simp)).trans (by go_simp)
  have g5 : wr.cell? ⟨w.heap.size, 5, none⟩ = some (.int .i64 x.f) := (hb1.cell (p := ⟨w.heap.size, 5, none⟩) (by simp)).trans (by go_simp)
  have g6 : wr.cell? ⟨w.heap.size, 6, none⟩ = some (.int .i64 x.h) := (hb1.cell (p := ⟨w.heap.size, 6, none⟩) (by simp)).trans (by go_simp)
  clear hb1
  have cd : Calls Try.prog 112 #[.int .i64 (x.f * (x.l + x.h) * rootI (x.c * 10000) * 400000), .int .i64 (x.c * x.c * x.c)] wr fun e w' => e = .returned (.int .i64 (rawI x)) ∧ ∃ n, w' = wr.drewN n := divRound_any _ _ wr (by omega) (by omega) (by omega) (by omega)
  go_wp2_with fail; ((with_reducible refine (cd).mono ?_); rintro e w' ⟨rfl, n1, rfl⟩)
  go_wp2
  all_goals
    go_ret
    exact ⟨ret_int (by unfold resI; omega), below_drewN B1 _⟩
set_option maxHeartbeats 1600000 in
set_option maxRecDepth 100000 in
theorem specResistancesOf_any (J : Int) (M : Option Addr) (m d : Nat) (xs : List Awy) (w : World) (hm : Reads w w.heap.size 7 M m (Awy.recs xs)) (hmn : m ≤ 1048576) (hxs : ∀ x ∈ xs, x.s.size ≤ maxLen) :
    Calls Try.prog 41 #[.agg #[.int .i64 J, .slice M m d]] w fun e w' => ∃ A' n' c', e = .returned (.tuple #[.slice A' n' c', .int .i64 (rsR J xs).2]) ∧ w'.ownsRow w.heap.size 2 1 (.slice A' n' c') n' (ints (rsR J xs).1) ∧ n' ≤ 1048576 ∧ Below w.heap.size w w' := by
  obtain ⟨i0, hi0, hz0, hz1, hz2⟩ := info_parts info_Int64S
  have HLm := Lib.hid (recs_rlen Awy.clen (by omega) hm)
  have hb : Below w.heap.size w (w.alloc (.cells #[.int .i64 J, .slice M m d] 31)) := (Below.refl _ _).alloc (Nat.le_refl _) _
  have cc := l04Ok_any J M m d xs ⟨w.heap.size, 0, none⟩ _ ((hm.below hb).more hb.size) hmn hxs (Cells.new w _ _)
  have HXX := Lib.hid hxs
  clear hxs
  go_enter Try.func41, Try.ntmps41
  go_wp2_with fail; ((with_reducible refine (cc).mono ?_); rintro e w1 ⟨rfl, hb1⟩)
  have B1 : Below w.heap.size w w1 := hb.trans (hb1.mono (by simp))
  have z1 : w.heap.size < w1.heap.size := by have h := hb1.size; simp at h; omega
  have g0_1 : w1.cell? ⟨w.heap.size, 0, none⟩ = some (.int .i64 J) := (hb1.cell (p := ⟨w.heap.size, 0, none⟩) (by simp)).trans (by go_simp)
  have g1_1 : w1.cell? ⟨w.heap.size, 1, none⟩ = some (.slice M m d) := (hb1.cell (p := ⟨w.heap.size, 1, none⟩) (by simp)).trans (by go_simp)
  clear cc hb hb1
  rcases Bool.eq_false_or_eq_true (mineOk J xs) with hok | hok
  · have HO := Lib.hid (mineOk_t hok)
    have HOK := Lib.hid hok
    have hm24 : m ≤ 24 := by have := HO.out.2.1; rw [HLm.out] at this; exact this
    go_wp2
    go_loopw [4, 5] (fun o i wr => ∃ (k : Nat) (A' : Option Addr) (c' : Nat), k ≤ m ∧ o = .slice A' k c' ∧ i = .int .i64 k ∧ wr.ownsRow w1.heap.size 2 1 (.slice A' k c') k (ints (rsTo xs k)) ∧ Hid (∀ y ∈ xs.take k, resI y ≤ 1000000) ∧ Below w1.heap.size w1 wr) (fun _ i _ => m - (intOf i).toNat)
    case atStart => exact ⟨0, _, 0, by omega, rfl, rfl, own_empty _ _ _, (fun y hy => by simp at hy), (Below.refl _ _).alloc (Nat.le_refl _) _⟩
    case round =>
      obtain ⟨k, A', c', hk, rfl, rfl, hown, HK, hbr⟩ := hrel
      obtain ⟨wo, rfl⟩ : ∃ wo : World, wo = wr := ⟨_, rfl⟩
      have Bo := B1.trans (hbr.mono B1.size)
      have g1o : wo.cell? ⟨w.heap.size, 1, none⟩ = some (.slice M m d) := (hbr.cell (p := ⟨w.heap.size, 1, none⟩) z1).trans g1_1
      by_cases hlt : k < m
      · obtain ⟨ad, x, rfl, had, hx, hc⟩ := (hm.below Bo).rec_at Awy.clen (by omega) hlt
        have hax := (HO.out.2.2 x (List.mem_of_getElem? hx)).1
        have HX := Lib.hid hx
        have HS := Lib.hid (rsTo_snoc hx)
        have cr := l03Resistance_any x _ wo hax hc
        clear hx hc hax
        by_cases hg : 1000000 < resI x
        · have HG := Lib.hid (rs_bad HX.out hg)
          have HV := Lib.hid (rsR_2 HOK.out HG.out)
          rw [if_pos hg] at cr
          clear hg
          go_wp2_with fail; ((with_reducible refine (cr).mono ?_); rintro e w' ⟨rfl, n1, rfl⟩)
          go_wp2
          go_ret2
          rw [HV.out]
          exact ⟨none, 0, 0, rfl, own_nil _ _ _ _, by omega, below_drewN Bo _⟩
        · have HG := Lib.hid (Int.not_lt.1 hg)
          rw [if_neg hg] at cr
          clear hg
          go_wp2_with fail; ((with_reducible refine (cr).mono ?_); rintro e w' ⟨rfl, n1, rfl⟩)
          have hownd := own_drewN hown n1
          have hdr := below_drewN hbr n1
          generalize wo.drewN n1 = wd at *
          go_wp2_with (at_builtin; (refine wpList_app _ rfl _ _ 25 rfl w1.heap.size 2 i0 _ 1 8 Try.underlying25 hi0 hz0 hz1 hz2 rfl (by omega) A' _ c' _ rfl ((hownd).alloc _) ⟨_, 0, none⟩ 1 1 [.int .i64 (resI x)] rfl rfl (cell_one_at (by simp) _ _) (by simp [Value.oneCell']) (by unfold maxLen; omega) (by omega) (by have hz := (hdr).size; simp at hz ⊢; omega) ?_); intro A6 c6 w6 ho6 hb6)
          go_roundw
          case rel => exact ⟨k + 1, A6, c6, by omega, by first | rfl | go_num, by go_num, by rw [HS.out]; simpa [ints] using ho6, take_prev HX.out HK.out HG.out, (hdr.alloc hdr.size _).trans hb6⟩
          case measure => simp [intOf]; omega
      · have e : k = m := by omega
        have HW : Hid (rsTo xs k = xs.map resI) := rsTo_all (by rw [HLm.out, e])
        have HV := Lib.hid (rsR_3 HOK.out (rs_good (by have h1 := HK.out; rw [List.take_of_length_le (by rw [HLm.out]; omega)] at h1; exact h1)))
        rw [HW.out] at hown
        clear e
        go_wp2
        go_ret2
        rw [HV.out]
        exact ⟨A', k, c', rfl, own_base hown B1.size, by omega, Bo⟩
  · have HV : Hid (rsR J xs = ([], 1)) := rsR_1 hok
    go_wp2
    go_ret2
    rw [HV.out]
    exact ⟨none, 0, 0, rfl, own_nil _ _ _ _, by omega, B1⟩
set_option maxHeartbeats 1600000 in
set_option maxRecDepth 100000 in
theorem implResistancesOf_any (J : Int) (M : Option Addr) (m d : Nat) (xs : List Awy) (w : World) (hm : Reads w w.heap.size 7 M m (Awy.recs xs)) (hmn : m ≤ 1048576) (hxs : ∀ x ∈ xs, x.s.size ≤ maxLen) :
    Calls Try.prog 42 #[.agg #[.int .i64 J, .slice M m d]] w fun e w' => ∃ A' n' c', e = .returned (.tuple #[.slice A' n' c', .int .i64 (rsR J xs).2]) ∧ w'.ownsRow w.heap.size 2 1 (.slice A' n' c') n' (ints (rsR J xs).1) ∧ n' ≤ 1048576 ∧ Below w.heap.size w w' := by
  obtain ⟨i0, hi0, hz0, hz1, hz2⟩ := info_parts info_Int64S
  have HLm := Lib.hid (recs_rlen Awy.clen (by omega) hm)
  have hb : Below w.heap.size w (w.alloc (.cells #[.int .i64 J, .slice M m d] 31)) := (Below.refl _ _).alloc (Nat.le_refl _) _
  have cc := implValidMine_any J M m d xs _ ((hm.below hb).more hb.size) hmn hxs
  have HXX := Lib.hid hxs
  clear hxs
  go_enter Try.func42, Try.ntmps42
  go_wp2_with fail; ((with_reducible refine (cc).mono ?_); rintro e w1 ⟨rfl, hb1⟩)
  have B1 : Below w.heap.size w w1 := hb.trans (hb1.mono (by simp))
  have z1 : w.heap.size < w1.heap.size := by have h := hb1.size; simp at h; omega
  have g0_1 : w1.cell? ⟨w.heap.size, 0, none⟩ = some (.int .i64 J) := (hb1.cell (p := ⟨w.heap.size, 0, none⟩) (by simp)).trans (by go_simp)
  have g1_1 : w1.cell? ⟨w.heap.size, 1, none⟩ = some (.slice M m d) := (hb1.cell (p := ⟨w.heap.size, 1, none⟩) (by simp)).trans (by go_simp)
  clear cc hb hb1
  rcases Bool.eq_false_or_eq_true (mineOk J xs) with hok | hok
  · have HO := Lib.hid (mineOk_t hok)
    have HOK := Lib.hid hok
    have hm24 : m ≤ 24 := by have := HO.out.2.1; rw [HLm.out] at this; exact this
    go_wp2
    go_loopw [4, 13] (fun o i wr => ∃ (k : Nat) (A' : Option Addr) (c' : Nat), k ≤ m ∧ o = .slice A' k c' ∧ i = .int .i64 k ∧ wr.ownsRow w1.heap.size 2 1 (.slice A' k c') k (ints (rsTo xs k)) ∧ Hid (∀ y ∈ xs.take k, True) ∧ Below w1.heap.size w1 wr) (fun _ i _ => m - (intOf i).toNat)
    case atStart => exact ⟨0, none, 0, by omega, rfl, rfl, own_nil _ _ _ _, (fun y hy => by simp at hy), Below.refl _ _⟩
    case round =>
      obtain ⟨k, A', c', hk, rfl, rfl, hown, HK, hbr⟩ := hrel
      obtain ⟨wo, rfl⟩ : ∃ wo : World, wo = wr := ⟨_, rfl⟩
      have Bo := B1.trans (hbr.mono B1.size)
      have g1o : wo.cell? ⟨w.heap.size, 1, none⟩ = some (.slice M m d) := (hbr.cell (p := ⟨w.heap.size, 1, none⟩) z1).trans g1_1
      by_cases hlt : k < m
      · obtain ⟨ad, x, rfl, had, hx, hc⟩ := (hm.below Bo).rec_at Awy.clen (by omega) hlt
        have hax := (HO.out.2.2 x (List.mem_of_getElem? hx)).1
        have HX := Lib.hid hx
        have HS := Lib.hid (rsTo_snoc hx)
        obtain ⟨a0, a1, a2, a3, a4, a5, a6⟩ := Awy.open_ hc
        have cr := resistance_any x (wo.alloc (.cells #[.string x.s, .int .i64 x.a, .int .i64 x.b, .int .i64 x.l, .int .i64 x.c, .int .i64 x.f, .int .i64 x.h] 73)) hax
        clear hx hc hax
        go_wp2_with fail; ((with_reducible refine (cr).mono ?_); rintro e w5 ⟨rfl, hb5⟩)
        have hb5' : Below wo.heap.size wo w5 := ((Below.refl _ _).alloc (Nat.le_refl _) _).trans (hb5.mono (by simp))
        have own5 := own_below hown hb5'
        have B5 := hbr.trans (hb5'.mono hbr.size)
        clear hb5 hb5'
        go_wp2_with (at_builtin; (refine wpList_app _ rfl _ _ 25 rfl w1.heap.size 2 i0 _ 1 8 Try.underlying25 hi0 hz0 hz1 hz2 rfl (by omega) A' _ c' _ rfl ((own5).alloc _) ⟨_, 0, none⟩ 1 1 [.int .i64 (resI x)] rfl rfl (cell_one_at (by simp) _ _) (by simp [Value.oneCell']) (by unfold maxLen; omega) (by omega) (by have hz := (B5).size; simp at hz ⊢; omega) ?_); intro A6 c6 w6 ho6 hb6)
        go_roundw
        case rel => exact ⟨k + 1, A6, c6, by omega, by first | rfl | go_num, by go_num, by rw [HS.out]; simpa [ints] using ho6, (fun _ _ => trivial), (B5.alloc B5.size _).trans hb6⟩
        case measure => simp [intOf]; omega
      · have e : k = m := by omega
        have HW : Hid (rsTo xs k = xs.map resI) := rsTo_all (by rw [HLm.out, e])
        rw [HW.out] at hown
        have ca := allWithin_any A' k c' (xs.map resI) 1 1000000 wo (Reads.of_own hown) (by omega)
        clear e
        rcases Bool.eq_false_or_eq_true (allIn 1 1000000 (xs.map resI)) with hf | hf
        · have HV := Lib.hid (rsR_3 HOK.out hf)
          rw [hf] at ca
          clear hf
          go_wp2_with fail; ((with_reducible refine (ca).mono ?_); rintro e w9 ⟨rfl, hb9⟩)
          go_wp2
          go_ret2
          rw [HV.out]
          exact ⟨A', k, c', rfl, own_base (own_below hown hb9) B1.size, by omega, Bo.trans (hb9.mono Bo.size)⟩
        · have HV := Lib.hid (rsR_2 HOK.out hf)
          rw [hf] at ca
          clear hf
          go_wp2_with fail; ((with_reducible refine (ca).mono ?_); rintro e w9 ⟨rfl, hb9⟩)
          go_wp2
          go_ret2
          rw [HV.out]
          exact ⟨none, 0, 0, rfl, own_nil _ _ _ _, by omega, Bo.trans (hb9.mono Bo.size)⟩
  · have HV : Hid (rsR J xs = ([], 1)) := rsR_1 hok
    go_wp2
    go_ret2
    rw [HV.out]
    exact ⟨none, 0, 0, rfl, own_nil _ _ _ _, by omega, B1⟩
end Go.Proofs.Ytgbmpadlfcbcaaa
