/- Contracts of StillAirways and of DepthsOf. -/
import Derived.Test.YtgbmpadlfcbcaaaLev
namespace Go.Proofs.Ytgbmpadlfcbcaaa
set_option linter.unusedVariables false
set_option linter.unusedSimpArgs false
open Go.RowKit
def stlTo (fs : List Int) (q : Int) : Nat → List Int
  | 0 => []
  | k + 1 => if absI (fs.getD k 0) < q then stlTo fs q k ++ [(k : Int)] else stlTo fs q k
theorem stlTo_y {fs : List Int} {q f : Int} {k : Nat} (h : fs[k]? = some f) (hp : absI f < q) : stlTo fs q (k + 1) = stlTo fs q k ++ [(k : Int)] := by
  have e : fs.getD k 0 = f := by rw [List.getD_eq_getElem?_getD, h]; rfl
  simp only [stlTo]; rw [e, if_pos hp]
theorem stlTo_n {fs : List Int} {q f : Int} {k : Nat} (h : fs[k]? = some f) (hp : ¬ absI f < q) : stlTo fs q (k + 1) = stlTo fs q k := by
  have e : fs.getD k 0 = f := by rw [List.getD_eq_getElem?_getD, h]; rfl
  simp only [stlTo]; rw [e, if_neg hp]
def stlR (J : Int) (xs : List Awy) (fs : List Int) (q : Int) : List Int × Int :=
  if mineOk J xs = true then (if inB q 0 100000 = true then (if lstOk xs.length (-100000) 100000 fs = true then (stlTo fs q fs.length, 0) else ([], 7)) else ([], 2)) else ([], 1)
theorem stlR_1 {J : Int} {xs : List Awy} {fs : List Int} {q : Int} (h : mineOk J xs = false) : stlR J xs fs q = ([], 1) := by unfold stlR; rw [h]; rfl
theorem stlR_2 {J : Int} {xs : List Awy} {fs : List Int} {q : Int} (h : mineOk J xs = true) (h1 : inB q 0 100000 = false) : stlR J xs fs q = ([], 2) := by unfold stlR; rw [h, h1]; rfl
theorem stlR_3 {J : Int} {xs : List Awy} {fs : List Int} {q : Int} (h : mineOk J xs = true) (h1 : inB q 0 100000 = true) (h2 : lstOk xs.length (-100000) 100000 fs = false) : stlR J xs fs q = ([], 7) := by unfold stlR; rw [h, h1, h2]; rfl
theorem stlR_4 {J : Int} {xs : List Awy} {fs : List Int} {q : Int} (h : mineOk J xs = true) (h1 : inB q 0 100000 = true) (h2 : lstOk xs.length (-100000) 100000 fs = true) : stlR J xs fs q = (stlTo fs q fs.length, 0) := by unfold stlR; rw [h, h1, h2]; rfl
def dpR (J : Int) (xs : List Awy) (ls : List Int) : List Int × Int :=
  if mineOk J xs = true then (if lstOk J (-3000) 3000 ls = true then (ls.map (fun l => maxL ls - l), 0) else ([], 7)) else ([], 1)
theorem dpR_1 {J : Int} {xs : List Awy} {ls : List Int} (h : mineOk J xs = false) : dpR J xs ls = ([], 1) := by unfold dpR; rw [h]; rfl
theorem dpR_2 {J : Int} {xs : List Awy} {ls : List Int} (h : mineOk J xs = true) (h1 : lstOk J (-3000) 3000 ls = false) : dpR J xs ls = ([], 7) := by unfold dpR; rw [h, h1]; rfl
theorem dpR_3 {J : Int} {xs : List Awy} {ls : List Int} (h : mineOk J xs = true) (h1 : lstOk J (-3000) 3000 ls = true) : dpR J xs ls = (ls.map (fun l => maxL ls - l), 0) := by unfold dpR; rw [h, h1]; rfl
theorem dp_snoc {ls : List Int} {t l : Int} {k : Nat} (h : ls[k]? = some l) : (ls.take (k + 1)).map (fun l => t - l) = (ls.take k).map (fun l => t - l) ++ [t - l] := by rw [take_snoc h]; simp
set_option maxHeartbeats 1600000 in
set_option maxRecDepth 100000 in
theorem specStillAirways_any (J : Int) (M : Option Addr) (m d : Nat) (xs : List Awy) (A : Option Addr) (n c : Nat) (fs : List Int) (q : Int) (w : World) (hm : Reads w w.heap.size 7 M m (Awy.recs xs)) (hmn : m ≤ 1048576) (hxs : ∀ x ∈ xs, x.s.size ≤ maxLen) (hr : Reads w w.heap.size 1 A n (ints fs)) (hn : n ≤ 1048576) :
    Calls Try.prog 37 #[.agg #[.int .i64 J, .slice M m d], .slice A n c, .int .i64 q] w fun e w' => ∃ A' n' c', e = .returned (.tuple #[.slice A' n' c', .int .i64 (stlR J xs fs q).2]) ∧ w'.ownsRow w.heap.size 2 1 (.slice A' n' c') n' (ints (stlR J xs fs q).1) ∧ n' ≤ 1048576 ∧ Below w.heap.size w w' := by
  obtain ⟨i0, hi0, hz0, hz1, hz2⟩ := info_parts info_Int64S
  have HLm := Lib.hid (recs_rlen Awy.clen (by omega) hm)
  have hb : Below w.heap.size w (w.alloc (.cells #[.int .i64 J, .slice M m d] 31)) := (Below.refl _ _).alloc (Nat.le_refl _) _
  have cc := l04Ok_any J M m d xs ⟨w.heap.size, 0, none⟩ _ ((hm.below hb).more hb.size) hmn hxs (Cells.new w _ _)
  have HXX := Lib.hid hxs
  clear hxs
  go_enter Try.func37, Try.ntmps37
  go_wp2_with fail; ((with_reducible refine (cc).mono ?_); rintro e w1 ⟨rfl, hb1⟩)
  have B1 : Below w.heap.size w w1 := hb.trans (hb1.mono (by simp))
  have z1 : w.heap.size < w1.heap.size := by have h := hb1.size; simp at h; omega
  have g0_1 : w1.cell? ⟨w.heap.size, 0, none⟩ = some (.int .i64 J) := (hb1.cell (p := ⟨w.heap.size, 0, none⟩) (by simp)).trans (by go_simp)
  have g1_1 : w1.cell? ⟨w.heap.size, 1, none⟩ = some (.slice M m d) := (hb1.cell (p := ⟨w.heap.size, 1, none⟩) (by simp)).trans (by go_simp)
  clear cc hb hb1
  rcases Bool.eq_false_or_eq_true (mineOk J xs) with hok | hok
  · have HO := Lib.hid (mineOk_t hok)
    have HOK := Lib.hid hok
    have hm24 : m ≤ 24 := by have := HO.out.2.1; rw [HLm.out] at this; exact this
    have HLn := Lib.hid (ints_len hr)
    have cq := l00In_any q 0 100000 w1
    have cf := l07Flows_any m M d ⟨w.heap.size, 0, none⟩ A n c fs w1 ((hr.below B1).more B1.size) hn g1_1
    rcases Bool.eq_false_or_eq_true (inB q 0 100000) with hq | hq
    · rw [hq] at cq
      have HQ := Lib.hid hq
      obtain ⟨q1, q2⟩ := inB_t hq
      clear hq
      rcases Bool.eq_false_or_eq_true (lstOk m (-100000) 100000 fs) with hl | hl
      · have HL := Lib.hid (lstOk_t hl)
        have HV : Hid (stlR J xs fs q = (stlTo fs q fs.length, 0)) := stlR_4 HOK.out HQ.out (by rw [HLm.out]; exact hl)
        rw [hl] at cf
        clear hl
        go_wp2_with (first | (go_at_call 84; refine cq.mono ?_; rintro e w' ⟨rfl, rfl⟩) | (go_at_call 60; refine cf.mono ?_; rintro e w' ⟨rfl, rfl⟩))
        clear cq cf
        go_wp2
        go_loopw [8, 9] (fun o i wr => ∃ (k p : Nat) (A' : Option Addr) (c' : Nat), k ≤ n ∧ p ≤ k ∧ o = .slice A' p c' ∧ i = .int .i64 k ∧ wr.ownsRow w1.heap.size 2 1 (.slice A' p c') p (ints (stlTo fs q k)) ∧ Below w1.heap.size w1 wr) (fun _ i _ => n - (intOf i).toNat)
        case atStart => exact ⟨0, 0, _, 0, by omega, by omega, rfl, rfl, own_empty _ _ _, (Below.refl _ _).alloc (Nat.le_refl _) _⟩
        case round =>
          obtain ⟨k, p, A', c', hk, hp, rfl, rfl, hown, hbr⟩ := hrel
          obtain ⟨wo, rfl⟩ : ∃ wo : World, wo = wr := ⟨_, rfl⟩
          have Bo := B1.trans (hbr.mono B1.size)
          by_cases hlt : k < n
          · obtain ⟨ad, u, rfl, had, hx, hc⟩ := (hr.below Bo).at_ hlt
            obtain ⟨f, hf, rfl⟩ := ints_at hx
            obtain ⟨f1, f2⟩ := HL.out.2 f (List.mem_of_getElem? hf)
            have ca := l03Abs_any f wo (by omega) (by omega)
            by_cases hg : absI f < q
            · have HY := Lib.hid (stlTo_y hf hg)
              clear hf hx
              go_wp2_with fail; ((with_reducible refine (ca).mono ?_); rintro e w' ⟨rfl, rfl⟩)
              go_wp2_with (at_builtin; (refine wpList_app _ rfl _ _ 25 rfl w1.heap.size 2 i0 _ 1 8 Try.underlying25 hi0 hz0 hz1 hz2 rfl (by omega) A' _ c' _ rfl ((hown).alloc _) ⟨_, 0, none⟩ 1 1 [.int .i64 (k : Int)] rfl rfl (cell_one_at (by simp) _ _) (by simp [Value.oneCell']) (by unfold maxLen; omega) (by omega) (by have hz := (hbr).size; simp at hz ⊢; omega) ?_); intro A6 c6 w6 ho6 hb6)
              go_roundw
              case rel => exact ⟨k + 1, p + 1, A6, c6, by omega, by omega, by first | rfl | go_num, by go_num, by rw [HY.out]; simpa [ints] using ho6, (hbr.alloc hbr.size _).trans hb6⟩
              case measure => simp [intOf]; omega
            · have HY := Lib.hid (stlTo_n hf hg)
              clear hf hx
              go_wp2_with fail; ((with_reducible refine (ca).mono ?_); rintro e w' ⟨rfl, rfl⟩)
              go_wp2
              go_roundw
              case rel => exact ⟨k + 1, p, A', c', by omega, by omega, rfl, by go_num, by rw [HY.out]; exact hown, hbr⟩
              case measure => simp [intOf]; omega
          · have e : k = n := by omega
            subst e
            have HW : Hid (stlTo fs q fs.length = stlTo fs q k) := show _ = _ by rw [HLn.out]
            go_wp2
            go_ret2
            rw [HV.out, HW.out]
            exact ⟨A', p, c', rfl, own_base hown B1.size, by omega, Bo⟩
      · have HV : Hid (stlR J xs fs q = ([], 7)) := stlR_3 HOK.out HQ.out (by rw [HLm.out]; exact hl)
        rw [hl] at cf
        clear hl
        go_wp2_with (first | (go_at_call 84; refine cq.mono ?_; rintro e w' ⟨rfl, rfl⟩) | (go_at_call 60; refine cf.mono ?_; rintro e w' ⟨rfl, rfl⟩))
        go_ret2
        rw [HV.out]
        exact ⟨none, 0, 0, rfl, own_nil _ _ _ _, by omega, B1⟩
    · have HV : Hid (stlR J xs fs q = ([], 2)) := stlR_2 HOK.out hq
      rw [hq] at cq
      clear hq
      go_wp2_with (first | (go_at_call 84; refine cq.mono ?_; rintro e w' ⟨rfl, rfl⟩))
      go_ret2
      rw [HV.out]
      exact ⟨none, 0, 0, rfl, own_nil _ _ _ _, by omega, B1⟩
  · have HV : Hid (stlR J xs fs q = ([], 1)) := stlR_1 hok
    go_wp2
    go_ret2
    rw [HV.out]
    exact ⟨none, 0, 0, rfl, own_nil _ _ _ _, by omega, B1⟩
set_option maxHeartbeats 1600000 in
set_option maxRecDepth 100000 in
theorem implStillAirways_any (J : Int) (M : Option Addr) (m d : Nat) (xs : List Awy) (A : Option Addr) (n c : Nat) (fs : List Int) (q : Int) (w : World) (hm : Reads w w.heap.size 7 M m (Awy.recs xs)) (hmn : m ≤ 1048576) (hxs : ∀ x ∈ xs, x.s.size ≤ maxLen) (hr : Reads w w.heap.size 1 A n (ints fs)) (hn : n ≤ 1048576) :
    Calls Try.prog 38 #[.agg #[.int .i64 J, .slice M m d], .slice A n c, .int .i64 q] w fun e w' => ∃ A' n' c', e = .returned (.tuple #[.slice A' n' c', .int .i64 (stlR J xs fs q).2]) ∧ w'.ownsRow w.heap.size 2 1 (.slice A' n' c') n' (ints (stlR J xs fs q).1) ∧ n' ≤ 1048576 ∧ Below w.heap.size w w' := by
  obtain ⟨i0, hi0, hz0, hz1, hz2⟩ := info_parts info_Int64S
  have HLm := Lib.hid (recs_rlen Awy.clen (by omega) hm)
  have hb : Below w.heap.size w (w.alloc (.cells #[.int .i64 J, .slice M m d] 31)) := (Below.refl _ _).alloc (Nat.le_refl _) _
  have cc := implValidMine_any J M m d xs _ ((hm.below hb).more hb.size) hmn hxs
  have HXX := Lib.hid hxs
  clear hxs
  go_enter Try.func38, Try.ntmps38
  go_wp2_with fail; ((with_reducible refine (cc).mono ?_); rintro e w1 ⟨rfl, hb1⟩)
  have B1 : Below w.heap.size w w1 := hb.trans (hb1.mono (by simp))
  have z1 : w.heap.size < w1.heap.size := by have h := hb1.size; simp at h; omega
  have g0_1 : w1.cell? ⟨w.heap.size, 0, none⟩ = some (.int .i64 J) := (hb1.cell (p := ⟨w.heap.size, 0, none⟩) (by simp)).trans (by go_simp)
  have g1_1 : w1.cell? ⟨w.heap.size, 1, none⟩ = some (.slice M m d) := (hb1.cell (p := ⟨w.heap.size, 1, none⟩) (by simp)).trans (by go_simp)
  clear cc hb hb1
  rcases Bool.eq_false_or_eq_true (mineOk J xs) with hok | hok
  · have HO := Lib.hid (mineOk_t hok)
    have HOK := Lib.hid hok
    have hm24 : m ≤ 24 := by have := HO.out.2.1; rw [HLm.out] at this; exact this
    have HLn := Lib.hid (ints_len hr)
    have cq := within_any q 0 100000 w1
    have cf := hasFlows_any J M m d A n c fs w1 ((hr.below B1).more B1.size) hn
    rcases Bool.eq_false_or_eq_true (inB q 0 100000) with hq | hq
    · rw [hq] at cq
      have HQ := Lib.hid hq
      obtain ⟨q1, q2⟩ := inB_t hq
      clear hq
      go_wp2_with fail; ((with_reducible refine (cq).mono ?_); rintro e w' ⟨rfl, rfl⟩)
      rcases Bool.eq_false_or_eq_true (lstOk m (-100000) 100000 fs) with hl | hl
      · have HL := Lib.hid (lstOk_t hl)
        have HV : Hid (stlR J xs fs q = (stlTo fs q fs.length, 0)) := stlR_4 HOK.out HQ.out (by rw [HLm.out]; exact hl)
        rw [hl] at cf
        clear hl
        go_wp2_with fail; ((with_reducible refine (cf).mono ?_); rintro e w2 ⟨rfl, hb2⟩)
        clear cq cf
        have B2 : Below w.heap.size w w2 := B1.trans (hb2.mono B1.size)
        have z2 : w.heap.size < w2.heap.size := by have h := hb2.size; omega
        have g0_2 : w2.cell? ⟨w.heap.size, 0, none⟩ = some (.int .i64 J) := (hb2.cell (p := ⟨w.heap.size, 0, none⟩) z1).trans g0_1
        have g1_2 : w2.cell? ⟨w.heap.size, 1, none⟩ = some (.slice M m d) := (hb2.cell (p := ⟨w.heap.size, 1, none⟩) z1).trans g1_1
        clear hb2 g0_1 g1_1
        go_wp2
        go_loopw [8, 26] (fun o i wr => ∃ (k p : Nat) (A' : Option Addr) (c' : Nat), k ≤ n ∧ p ≤ k ∧ o = .slice A' p c' ∧ i = .int .i64 k ∧ wr.ownsRow w2.heap.size 2 1 (.slice A' p c') p (ints (stlTo fs q k)) ∧ Below w2.heap.size w2 wr) (fun _ i _ => n - (intOf i).toNat)
        case atStart => exact ⟨0, 0, none, 0, by omega, by omega, rfl, rfl, own_nil _ _ _ _, Below.refl _ _⟩
        case round =>
          obtain ⟨k, p, A', c', hk, hp, rfl, rfl, hown, hbr⟩ := hrel
          obtain ⟨wo, rfl⟩ : ∃ wo : World, wo = wr := ⟨_, rfl⟩
          have Bo := B2.trans (hbr.mono B2.size)
          by_cases hlt : k < n
          · obtain ⟨ad, u, rfl, had, hx, hc⟩ := (hr.below Bo).at_ hlt
            obtain ⟨f, hf, rfl⟩ := ints_at hx
            obtain ⟨f1, f2⟩ := HL.out.2 f (List.mem_of_getElem? hf)
            have ca := abs_any f wo (by omega) (by omega)
            by_cases hg : absI f < q
            · have HY := Lib.hid (stlTo_y hf hg)
              clear hf hx
              go_wp2_with fail; ((with_reducible refine (ca).mono ?_); rintro e w' ⟨rfl, rfl⟩)
              go_wp2_with (at_builtin; (refine wpList_app _ rfl _ _ 25 rfl w2.heap.size 2 i0 _ 1 8 Try.underlying25 hi0 hz0 hz1 hz2 rfl (by omega) A' _ c' _ rfl ((hown).alloc _) ⟨_, 0, none⟩ 1 1 [.int .i64 (k : Int)] rfl rfl (cell_one_at (by simp) _ _) (by simp [Value.oneCell']) (by unfold maxLen; omega) (by omega) (by have hz := (hbr).size; simp at hz ⊢; omega) ?_); intro A6 c6 w6 ho6 hb6)
              go_roundw
              case rel => exact ⟨k + 1, p + 1, A6, c6, by omega, by omega, by first | rfl | go_num, by go_num, by rw [HY.out]; simpa [ints] using ho6, (hbr.alloc hbr.size _).trans hb6⟩
              case measure => simp [intOf]; omega
            · have HY := Lib.hid (stlTo_n hf hg)
              clear hf hx
              go_wp2_with fail; ((with_reducible refine (ca).mono ?_); rintro e w' ⟨rfl, rfl⟩)
              go_wp2
              go_roundw
              case rel => exact ⟨k + 1, p, A', c', by omega, by omega, rfl, by go_num, by rw [HY.out]; exact hown, hbr⟩
              case measure => simp [intOf]; omega
          · have e : k = n := by omega
            subst e
            have HW : Hid (stlTo fs q fs.length = stlTo fs q k) := show _ = _ by rw [HLn.out]
            go_wp2
            go_ret2
            rw [HV.out, HW.out]
            exact ⟨A', p, c', rfl, own_base hown B2.size, by omega, Bo⟩
      · have HV : Hid (stlR J xs fs q = ([], 7)) := stlR_3 HOK.out HQ.out (by rw [HLm.out]; exact hl)
        rw [hl] at cf
        clear hl
        go_wp2_with fail; ((with_reducible refine (cf).mono ?_); rintro e w2 ⟨rfl, hb2⟩)
        go_wp2
        go_ret2
        rw [HV.out]
        exact ⟨none, 0, 0, rfl, own_nil _ _ _ _, by omega, B1.trans (hb2.mono B1.size)⟩
    · have HV : Hid (stlR J xs fs q = ([], 2)) := stlR_2 HOK.out hq
      rw [hq] at cq
      clear hq
      go_wp2_with fail; ((with_reducible refine (cq).mono ?_); rintro e w' ⟨rfl, rfl⟩)
      go_wp2
      go_ret2
      rw [HV.out]
      exact ⟨none, 0, 0, rfl, own_nil _ _ _ _, by omega, B1⟩
  · have HV : Hid (stlR J xs fs q = ([], 1)) := stlR_1 hok
    go_wp2
    go_ret2
    rw [HV.out]
    exact ⟨none, 0, 0, rfl, own_nil _ _ _ _, by omega, B1⟩
set_option maxHeartbeats 1600000 in
set_option maxRecDepth 100000 in
theorem specDepthsOf_any (J : Int) (M : Option Addr) (m d : Nat) (xs : List Awy) (A : Option Addr) (n c : Nat) (fs : List Int) (w : World) (hm : Reads w w.heap.size 7 M m (Awy.recs xs)) (hmn : m ≤ 1048576) (hxs : ∀ x ∈ xs, x.s.size ≤ maxLen) (hr : Reads w w.heap.size 1 A n (ints fs)) (hn : n ≤ 1048576) :
    Calls Try.prog 32 #[.agg #[.int .i64 J, .slice M m d], .slice A n c] w fun e w' => ∃ A' n' c', e = .returned (.tuple #[.slice A' n' c', .int .i64 (dpR J xs fs).2]) ∧ w'.ownsRow w.heap.size 2 1 (.slice A' n' c') n' (ints (dpR J xs fs).1) ∧ n' ≤ 1048576 ∧ Below w.heap.size w w' := by
  obtain ⟨i0, hi0, hz0, hz1, hz2⟩ := info_parts info_Int64S
  have HLm := Lib.hid (recs_rlen Awy.clen (by omega) hm)
  have hb : Below w.heap.size w (w.alloc (.cells #[.int .i64 J, .slice M m d] 31)) := (Below.refl _ _).alloc (Nat.le_refl _) _
  have cc := l04Ok_any J M m d xs ⟨w.heap.size, 0, none⟩ _ ((hm.below hb).more hb.size) hmn hxs (Cells.new w _ _)
  have HXX := Lib.hid hxs
  clear hxs
  go_enter Try.func32, Try.ntmps32
  go_wp2_with fail; ((with_reducible refine (cc).mono ?_); rintro e w1 ⟨rfl, hb1⟩)
  have B1 : Below w.heap.size w w1 := hb.trans (hb1.mono (by simp))
  have z1 : w.heap.size < w1.heap.size := by have h := hb1.size; simp at h; omega
  have g0_1 : w1.cell? ⟨w.heap.size, 0, none⟩ = some (.int .i64 J) := (hb1.cell (p := ⟨w.heap.size, 0, none⟩) (by simp)).trans (by go_simp)
  have g1_1 : w1.cell? ⟨w.heap.size, 1, none⟩ = some (.slice M m d) := (hb1.cell (p := ⟨w.heap.size, 1, none⟩) (by simp)).trans (by go_simp)
  clear cc hb hb1
  rcases Bool.eq_false_or_eq_true (mineOk J xs) with hok | hok
  · have HO := Lib.hid (mineOk_t hok)
    have HOK := Lib.hid hok
    have hm24 : m ≤ 24 := by have := HO.out.2.1; rw [HLm.out] at this; exact this
    have HLn := Lib.hid (ints_len hr)
    have hr1 := (hr.below B1).more B1.size
    have cf := l09Levels_any J ⟨w.heap.size, 0, none⟩ A n c fs w1 hr1 hn g0_1
    rcases Bool.eq_false_or_eq_true (lstOk J (-3000) 3000 fs) with hl | hl
    · have HL := Lib.hid (lstOk_t hl)
      have HV : Hid (dpR J xs fs = (fs.map (fun l => maxL fs - l), 0)) := dpR_3 HOK.out hl
      have hn1 : 1 ≤ n := by have h1 := HL.out.1; have h2 := HO.out.1.1; have h3 := HLn.out; omega
      have hmx := HL.out.2 (maxL fs) (maxL_mem (by rw [HLn.out]; exact hn1))
      obtain ⟨mx1, mx2⟩ := hmx
      rw [hl] at cf
      clear hl
      go_wp2_with fail; ((with_reducible refine (cf).mono ?_); rintro e w' ⟨rfl, rfl⟩)
      clear cf
      obtain ⟨a0, u0, rfl, _, hx0, hc0⟩ := hr1.at_ (k := 0) (by omega)
      obtain ⟨b0, hb0, rfl⟩ := ints_at hx0
      have H0 := Lib.hid (maxL_one hb0)
      have hc0' : w1.cell? a0 = some (.int .i64 b0) := hc0
      clear hx0 hb0
      go_wp2
      go_loop [6, 7] (fun s i => ∃ k : Nat, 1 ≤ k ∧ k ≤ n ∧ i = .int .i64 k ∧ s = .int .i64 (maxL (fs.take k))) (fun _ i => n - (intOf i).toNat)
      case atStart => exact ⟨1, by omega, by omega, rfl, by rw [H0.out]⟩
      case round =>
        obtain ⟨k, hk1, hk, rfl, rfl⟩ := hrel
        by_cases hlt : k < n
        · obtain ⟨ad, u, had, _, hx, hc⟩ := hr1.at_ hlt
          injection had with had
          subst had
          obtain ⟨b, hb, rfl⟩ := ints_at hx
          have HX := Lib.hid (maxL_snoc hk1 hb)
          clear hb hx
          go_wp2_with (go_at_call 81; refine (l00Max_any _ _ _).mono ?_; rintro e w' ⟨rfl, rfl⟩)
          go_round
          case rel => exact ⟨k + 1, by omega, by omega, by go_num, by rw [HX.out]⟩
          case measure => simp [intOf]; omega
        · have e : k = n := by omega
          have HT : maxL (fs.take k) = maxL fs := by rw [List.take_of_length_le (by rw [HLn.out]; omega)]
          rw [HT]
          clear e HT hc0 hc0' H0
          go_wp2
          go_loopw [8, 9] (fun o i wr => ∃ (k : Nat) (A' : Option Addr) (c' : Nat), k ≤ n ∧ o = .slice A' k c' ∧ i = .int .i64 k ∧ wr.ownsRow w1.heap.size 2 1 (.slice A' k c') k (ints ((fs.take k).map (fun l => maxL fs - l))) ∧ Below w1.heap.size w1 wr) (fun _ i _ => n - (intOf i).toNat)
          case atStart => exact ⟨0, _, 0, by omega, rfl, rfl, own_empty _ _ _, (Below.refl _ _).alloc (Nat.le_refl _) _⟩
          case round =>
            obtain ⟨k, A', c', hk, rfl, rfl, hown, hbr⟩ := hrel
            obtain ⟨wo, rfl⟩ : ∃ wo : World, wo = wr := ⟨_, rfl⟩
            have Bo := B1.trans (hbr.mono B1.size)
            by_cases hlt : k < n
            · obtain ⟨ad, u, e1, had, hx, hc⟩ := (hr.below Bo).at_ hlt
              first | subst e1 | (injection e1 with e1; subst e1)
              obtain ⟨f, hf, rfl⟩ := ints_at hx
              obtain ⟨f1, f2⟩ := HL.out.2 f (List.mem_of_getElem? hf)
              have HY := Lib.hid (dp_snoc (t := maxL fs) hf)
              have hwf : IntKind.i64.wrap (maxL fs - f) = maxL fs - f := IntWalk.i64_in _ (by omega)
              clear hf hx
              go_wp2_with (at_builtin; (refine wpList_app _ rfl _ _ 25 rfl w1.heap.size 2 i0 _ 1 8 Try.underlying25 hi0 hz0 hz1 hz2 rfl (by omega) A' _ c' _ rfl ((hown).alloc _) ⟨_, 0, none⟩ 1 1 [.int .i64 (maxL fs - f)] rfl rfl (cell_one_at (by simp) _ _) (by simp [Value.oneCell']) (by unfold maxLen; omega) (by omega) (by have hz := (hbr).size; simp at hz ⊢; omega) ?_); intro A6 c6 w6 ho6 hb6)
              go_roundw
              case rel => exact ⟨k + 1, A6, c6, by omega, by first | rfl | go_num, by go_num, by rw [HY.out]; simpa [ints] using ho6, (hbr.alloc hbr.size _).trans hb6⟩
              case measure => simp [intOf]; omega
            · have e : k = n := by omega
              subst e
              have HW : Hid ((fs.take k).map (fun l => maxL fs - l) = fs.map (fun l => maxL fs - l)) := show _ = _ by rw [List.take_of_length_le (by rw [HLn.out]; omega)]
              rw [HW.out] at hown
              go_wp2
              go_ret2
              rw [HV.out]
              exact ⟨A', k, c', rfl, own_base hown B1.size, by omega, Bo⟩
    · have HV : Hid (dpR J xs fs = ([], 7)) := dpR_2 HOK.out hl
      rw [hl] at cf
      clear hl
      go_wp2_with fail; ((with_reducible refine (cf).mono ?_); rintro e w' ⟨rfl, rfl⟩)
      go_wp2
      go_ret2
      rw [HV.out]
      exact ⟨none, 0, 0, rfl, own_nil _ _ _ _, by omega, B1⟩
  · have HV : Hid (dpR J xs fs = ([], 1)) := dpR_1 hok
    go_wp2
    go_ret2
    rw [HV.out]
    exact ⟨none, 0, 0, rfl, own_nil _ _ _ _, by omega, B1⟩
set_option maxHeartbeats 1600000 in
set_option maxRecDepth 100000 in
theorem implDepthsOf_any (J : Int) (M : Option Addr) (m d : Nat) (xs : List Awy) (A : Option Addr) (n c : Nat) (fs : List Int) (w : World) (hm : Reads w w.heap.size 7 M m (Awy.recs xs)) (hmn : m ≤ 1048576) (hxs : ∀ x ∈ xs, x.s.size ≤ maxLen) (hr : Reads w w.heap.size 1 A n (ints fs)) (hn : n ≤ 1048576) :
    Calls Try.prog 33 #[.agg #[.int .i64 J, .slice M m d], .slice A n c] w fun e w' => ∃ A' n' c', e = .returned (.tuple #[.slice A' n' c', .int .i64 (dpR J xs fs).2]) ∧ w'.ownsRow w.heap.size 2 1 (.slice A' n' c') n' (ints (dpR J xs fs).1) ∧ n' ≤ 1048576 ∧ Below w.heap.size w w' := by
  obtain ⟨i0, hi0, hz0, hz1, hz2⟩ := info_parts info_Int64S
  have HLm := Lib.hid (recs_rlen Awy.clen (by omega) hm)
  have hb : Below w.heap.size w (w.alloc (.cells #[.int .i64 J, .slice M m d] 31)) := (Below.refl _ _).alloc (Nat.le_refl _) _
  have cc := implValidMine_any J M m d xs _ ((hm.below hb).more hb.size) hmn hxs
  have HXX := Lib.hid hxs
  clear hxs
  go_enter Try.func33, Try.ntmps33
  go_wp2_with fail; ((with_reducible refine (cc).mono ?_); rintro e w1 ⟨rfl, hb1⟩)
  have B1 : Below w.heap.size w w1 := hb.trans (hb1.mono (by simp))
  have z1 : w.heap.size < w1.heap.size := by have h := hb1.size; simp at h; omega
  have g0_1 : w1.cell? ⟨w.heap.size, 0, none⟩ = some (.int .i64 J) := (hb1.cell (p := ⟨w.heap.size, 0, none⟩) (by simp)).trans (by go_simp)
  have g1_1 : w1.cell? ⟨w.heap.size, 1, none⟩ = some (.slice M m d) := (hb1.cell (p := ⟨w.heap.size, 1, none⟩) (by simp)).trans (by go_simp)
  clear cc hb hb1
  rcases Bool.eq_false_or_eq_true (mineOk J xs) with hok | hok
  · have HO := Lib.hid (mineOk_t hok)
    have HOK := Lib.hid hok
    have hm24 : m ≤ 24 := by have := HO.out.2.1; rw [HLm.out] at this; exact this
    have HLn := Lib.hid (ints_len hr)
    have cf := hasLevels_any J M m d A n c fs w1 ((hr.below B1).more B1.size) hn
    rcases Bool.eq_false_or_eq_true (lstOk J (-3000) 3000 fs) with hl | hl
    · have HL := Lib.hid (lstOk_t hl)
      have HV : Hid (dpR J xs fs = (fs.map (fun l => maxL fs - l), 0)) := dpR_3 HOK.out hl
      have hn1 : 1 ≤ n := by have h1 := HL.out.1; have h2 := HO.out.1.1; have h3 := HLn.out; omega
      have hmx := HL.out.2 (maxL fs) (maxL_mem (by rw [HLn.out]; exact hn1))
      obtain ⟨mx1, mx2⟩ := hmx
      rw [hl] at cf
      clear hl
      go_wp2_with fail; ((with_reducible refine (cf).mono ?_); rintro e w2 ⟨rfl, hb2⟩)
      clear cf
      have B2 : Below w.heap.size w w2 := B1.trans (hb2.mono B1.size)
      have z2 : w.heap.size < w2.heap.size := by have h := hb2.size; omega
      have g0_2 : w2.cell? ⟨w.heap.size, 0, none⟩ = some (.int .i64 J) := (hb2.cell (p := ⟨w.heap.size, 0, none⟩) z1).trans g0_1
      have g1_2 : w2.cell? ⟨w.heap.size, 1, none⟩ = some (.slice M m d) := (hb2.cell (p := ⟨w.heap.size, 1, none⟩) z1).trans g1_1
      clear hb2 g0_1 g1_1
      go_wp2
      go_loopw [6, 20] (fun o i wr => ∃ (k : Nat) (A' : Option Addr) (c' : Nat), k ≤ n ∧ o = .slice A' k c' ∧ i = .int .i64 k ∧ wr.ownsRow w2.heap.size 2 1 (.slice A' k c') k (ints ((fs.take k).map (fun l => maxL fs - l))) ∧ Below w2.heap.size w2 wr) (fun _ i _ => n - (intOf i).toNat)
      case atStart => exact ⟨0, none, 0, by omega, rfl, rfl, own_nil _ _ _ _, Below.refl _ _⟩
      case round =>
        obtain ⟨k, A', c', hk, rfl, rfl, hown, hbr⟩ := hrel
        obtain ⟨wo, rfl⟩ : ∃ wo : World, wo = wr := ⟨_, rfl⟩
        have Bo := B2.trans (hbr.mono B2.size)
        by_cases hlt : k < n
        · obtain ⟨ad, u, e1, had, hx, hc⟩ := (hr.below Bo).at_ hlt
          first | subst e1 | (injection e1 with e1; subst e1)
          obtain ⟨f, hf, rfl⟩ := ints_at hx
          obtain ⟨f1, f2⟩ := HL.out.2 f (List.mem_of_getElem? hf)
          have HY := Lib.hid (dp_snoc (t := maxL fs) hf)
          have hwf : IntKind.i64.wrap (maxL fs - f) = maxL fs - f := IntWalk.i64_in _ (by omega)
          clear hf hx
          have cx := maxL_any (some ad) n c fs wo ((hr.below Bo).more Bo.size) (by omega) (by omega)
          go_wp2_with fail; ((with_reducible refine (cx).mono ?_); rintro e w' ⟨rfl, rfl⟩)
          go_wp2_with (at_builtin; (refine wpList_app _ rfl _ _ 25 rfl w2.heap.size 2 i0 _ 1 8 Try.underlying25 hi0 hz0 hz1 hz2 rfl (by omega) A' _ c' _ rfl ((hown).alloc _) ⟨_, 0, none⟩ 1 1 [.int .i64 (maxL fs - f)] rfl rfl (cell_one_at (by simp) _ _) (by simp [Value.oneCell']) (by unfold maxLen; omega) (by omega) (by have hz := (hbr).size; simp at hz ⊢; omega) ?_); intro A6 c6 w6 ho6 hb6)
          go_roundw
          case rel => exact ⟨k + 1, A6, c6, by omega, by first | rfl | go_num, by go_num, by rw [HY.out]; simpa [ints] using ho6, (hbr.alloc hbr.size _).trans hb6⟩
          case measure => simp [intOf]; omega
        · have e : k = n := by omega
          subst e
          have HW : Hid ((fs.take k).map (fun l => maxL fs - l) = fs.map (fun l => maxL fs - l)) := show _ = _ by rw [List.take_of_length_le (by rw [HLn.out]; omega)]
          rw [HW.out] at hown
          go_wp2
          go_ret2
          rw [HV.out]
          exact ⟨A', k, c', rfl, own_base hown B2.size, by omega, Bo⟩
    · have HV : Hid (dpR J xs fs = ([], 7)) := dpR_2 HOK.out hl
      rw [hl] at cf
      clear hl
      go_wp2_with fail; ((with_reducible refine (cf).mono ?_); rintro e w2 ⟨rfl, hb2⟩)
      go_wp2
      go_ret2
      rw [HV.out]
      exact ⟨none, 0, 0, rfl, own_nil _ _ _ _, by omega, B1.trans (hb2.mono B1.size)⟩
  · have HV : Hid (dpR J xs fs = ([], 1)) := dpR_1 hok
    go_wp2
    go_ret2
    rw [HV.out]
    exact ⟨none, 0, 0, rfl, own_nil _ _ _ _, by omega, B1⟩
end Go.Proofs.Ytgbmpadlfcbcaaa
