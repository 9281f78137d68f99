/- Contracts of LossPower. -/
import Derived.Test.YtgbmpadlfcbcaaaLev
import Derived.Test.YtgbmpadlfcbcaaaRes
import Derived.Test.YtgbmpadlfcbcaaaStl
namespace Go.Proofs.Ytgbmpadlfcbcaaa
set_option linter.unusedVariables false
set_option linter.unusedSimpArgs false
open Go.RowKit
theorem qS {P : Program} {f : FuncId} {args : Array Value} {v : Value} {w : World} {q : Nat} (h : ∀ W : World, Calls P f args W fun e w' => e = .returned v ∧ W = w') :
    ∀ nn, Calls P f args (w.drewN (q + nn)) fun e w'' => e = .returned v ∧ ∃ mm, w'' = w.drewN (q + mm) := fun nn => (h _).mono fun _ _ ⟨he, hw⟩ => ⟨he, nn, hw.symm⟩
def pw (r q : Int) : Int := dr (drop r (absI q) * absI q) 100
theorem pw_in {r q : Int} (hr : isRes r = true) (hq : isFlow q = true) : isFlow (absI q) = true ∧ (0 ≤ absI q ∧ absI q ≤ 100000) ∧ (-100000000000 ≤ drop r (absI q) * absI q ∧ drop r (absI q) * absI q ≤ 100000000000) ∧ -1000000000 ≤ pw r q ∧ pw r q ≤ 1000000000 := by
  obtain ⟨h1, h2⟩ := isFlow_t hq
  have h3 : 0 ≤ absI q ∧ absI q ≤ 100000 := by unfold absI; omega
  have h4 : isFlow (absI q) = true := by unfold isFlow inB; exact decide_eq_true (by omega)
  obtain ⟨h5, h6⟩ := drop_bnd hr h4
  have h7 : drop r (absI q) * absI q ≤ 1000000 * 100000 := Int.le_trans (Int.mul_le_mul_of_nonneg_right h6 h3.1) (Int.mul_le_mul_of_nonneg_left h3.2 (by omega))
  have h8 : -(1000000 * 100000) ≤ drop r (absI q) * absI q := by
    have := Int.mul_le_mul_of_nonneg_right h5 h3.1
    have h9 : -1000000 * absI q = -(1000000 * absI q) := by omega
    omega
  refine ⟨h4, h3, by omega, ?_⟩
  have := dr_scale (a := drop r (absI q) * absI q) (b := 100) (m := 1000000000) (by omega) (by omega) (by omega)
  exact this
def pwTo (rs fs : List Int) : Nat → Int
  | 0 => 0
  | k + 1 => pwTo rs fs k + pw (rs.getD k 0) (fs.getD k 0)
theorem pwTo_snoc {rs fs : List Int} {k : Nat} {r f : Int} (hr : rs[k]? = some r) (hf : fs[k]? = some f) : pwTo rs fs (k + 1) = pwTo rs fs k + pw r f := by
  simp only [pwTo]; rw [List.getD_eq_getElem?_getD, List.getD_eq_getElem?_getD, hr, hf]; rfl
theorem pwTo_bnd {rs fs : List Int} {N : Int} (h1 : lstOk N 1 1000000 rs = true) (h2 : lstOk N (-100000) 100000 fs = true) : ∀ k : Nat, (k : Int) ≤ N → -(1000000000 * (k : Int)) ≤ pwTo rs fs k ∧ pwTo rs fs k ≤ 1000000000 * k
  | 0, _ => by simp [pwTo]
  | k + 1, hk => by
    have ih := pwTo_bnd h1 h2 k (by omega)
    obtain ⟨r, hr, r1, r2⟩ := lst_at h1 (k := k) (by omega)
    obtain ⟨f, hf, f1, f2⟩ := lst_at h2 (k := k) (by omega)
    have h3 := (pw_in (r := r) (q := f) (by unfold isRes inB; exact decide_eq_true (by omega)) (by unfold isFlow inB; exact decide_eq_true (by omega))).2.2.2
    rw [pwTo_snoc hr hf]
    omega
def lossR (J : Int) (xs : List Awy) (rs fs : List Int) : Int × Int :=
  if mineOk J xs = true then (if (lstOk xs.length 1 1000000 rs && lstOk xs.length (-100000) 100000 fs) = true then (pwTo rs fs xs.length, 0) else (0, 7)) else (0, 1)
theorem lossR_1 {J : Int} {xs : List Awy} {rs fs : List Int} (h : mineOk J xs = false) : lossR J xs rs fs = (0, 1) := by unfold lossR; rw [h]; rfl
theorem lossR_2 {J : Int} {xs : List Awy} {rs fs : List Int} (h : mineOk J xs = true) (h1 : (lstOk xs.length 1 1000000 rs && lstOk xs.length (-100000) 100000 fs) = false) : lossR J xs rs fs = (0, 7) := by unfold lossR; rw [h, h1]; rfl
theorem lossR_3 {J : Int} {xs : List Awy} {rs fs : List Int} (h : mineOk J xs = true) (h1 : (lstOk xs.length 1 1000000 rs && lstOk xs.length (-100000) 100000 fs) = true) : lossR J xs rs fs = (pwTo rs fs xs.length, 0) := by unfold lossR; rw [h, h1]; rfl
set_option maxHeartbeats 800000 in
theorem l07Res_any (m : Nat) (M : Option Addr) (d : Nat) (p : Addr) (A : Option Addr) (n c : Nat) (xs : List Int) (w : World) (hr : Reads w w.heap.size 1 A n (ints xs)) (hn : n ≤ 1048576) (h0 : w.cell? ⟨p.block, p.off + 1, none⟩ = some (.slice M m d)) :
    Calls Try.prog 76 #[.pointer (some p), .slice A n c] w fun e w' => e = .returned (.bool (lstOk (m : Int) (1) 1000000 xs)) ∧ w = w' := by
  have HL := Lib.hid (ints_len hr)
  rcases Bool.eq_false_or_eq_true ((n : Int) == (m : Int)) with hnj | hnj
  all_goals
    have HN := Lib.hid hnj
    go_enter Try.func76, Try.ntmps76
    go_wp2
    go_loop [5] (fun i => ∃ k : Nat, k ≤ n ∧ i = .int .i64 k ∧ Hid ((xs.take k).all (fun x => inB x (1) 1000000) = true)) (fun i => n - (intOf i).toNat)
    case atStart => exact ⟨0, by omega, rfl, rfl⟩
    case round =>
      obtain ⟨k, hk, rfl, HK⟩ := hrel
      by_cases hlt : k < n
      · obtain ⟨ad, u, rfl, had, hx, hc⟩ := hr.at_ hlt
        obtain ⟨b, hb, rfl⟩ := ints_at hx
        have HX := Lib.hid hb
        clear hb hx
        cases hp : inB b (1) 1000000
        · have HP : Hid (inB b (1) 1000000 = false) := hp
          go_wp2_with (go_at_call 111; refine ((show Calls Try.prog _ _ _ (fun e w' => e = .returned (.bool (inB _ (1) 1000000)) ∧ _ = w') from l03Res_any _ _)).mono ?_; rintro e w' ⟨rfl, rfl⟩)
          go_ret
          exact ⟨ret_bool (by unfold lstOk allIn; rw [all_false (p := fun x => inB x (1) 1000000) HX.out HP.out, Bool.false_and]), rfl⟩
        · have HP : Hid (inB b (1) 1000000 = true) := hp
          go_wp2_with (go_at_call 111; refine ((show Calls Try.prog _ _ _ (fun e w' => e = .returned (.bool (inB _ (1) 1000000)) ∧ _ = w') from l03Res_any _ _)).mono ?_; rintro e w' ⟨rfl, rfl⟩)
          go_round
          case rel => exact ⟨k + 1, by omega, by go_num, all_take HX.out HK.out HP.out⟩
          case measure => simp [intOf]; omega
      · have e : k = n := by omega
        subst e
        have HA : Hid (allIn (1) 1000000 xs = true) := all_whole HL.out HK.out
        go_wp2
        go_ret
        exact ⟨ret_bool (by unfold lstOk; rw [HA.out, HL.out, HN.out]; first | rfl | simp_all), rfl⟩
theorem airPower_any (r q : Int) (w : World) (hr : isRes r = true) (hq : isFlow q = true) :
    Calls Try.prog 80 #[.int .i64 r, .int .i64 q] w fun e w' => e = .returned (.int .i64 (pw r q)) ∧ ∃ n, w' = w.drewN n := by
  obtain ⟨h1, ⟨h2, h3⟩, ⟨h4, h5⟩, h6, h7⟩ := pw_in hr hq
  obtain ⟨q1, q2⟩ := isFlow_t hq
  go_enter Try.func80, Try.ntmps80
  go_wp2_with fail; ((with_reducible refine (abs_any q _ (by omega) (by omega)).mono ?_); rintro e w' ⟨rfl, rfl⟩)
  go_wp2_with fail; ((with_reducible refine (dropOf_any r (absI q) _ hr h1).mono ?_); rintro e w' ⟨rfl, n1, rfl⟩)
  go_wp2_with fail; ((with_reducible refine (abs_any q _ (by omega) (by omega)).mono ?_); rintro e w' ⟨rfl, rfl⟩)
  go_wp2_with fail; ((with_reducible refine (divRound_any (drop r (absI q) * absI q) 100 _ (by omega) (by omega) (by omega) (by omega)).mono ?_); rintro e w' ⟨rfl, n2, rfl⟩)
  go_wp2
  go_ret
  exact ⟨rfl, _, rfl⟩
set_option maxHeartbeats 1600000 in
set_option maxRecDepth 100000 in
theorem specLossPower_any (J : Int) (M : Option Addr) (m d : Nat) (xs : List Awy) (A1 : Option Addr) (n1 c1 : Nat) (fs1 : List Int) (A2 : Option Addr) (n2 c2 : Nat) (fs2 : List Int) (w : World) (hm : Reads w w.heap.size 7 M m (Awy.recs xs)) (hmn : m ≤ 1048576) (hxs : ∀ x ∈ xs, x.s.size ≤ maxLen) (hr1 : Reads w w.heap.size 1 A1 n1 (ints fs1)) (hn1 : n1 ≤ 1048576) (hr2 : Reads w w.heap.size 1 A2 n2 (ints fs2)) (hn2 : n2 ≤ 1048576) :
    Calls Try.prog 30 #[.agg #[.int .i64 J, .slice M m d], .slice A1 n1 c1, .slice A2 n2 c2] w fun e w' => e = .returned (.tuple #[.int .i64 (lossR J xs fs1 fs2).1, .int .i64 (lossR J xs fs1 fs2).2]) ∧ Below w.heap.size w w' := by
  have HLm := Lib.hid (recs_rlen Awy.clen (by omega) hm)
  have hb : Below w.heap.size w (w.alloc (.cells #[.int .i64 J, .slice M m d] 31)) := (Below.refl _ _).alloc (Nat.le_refl _) _
  have cc := l04Ok_any J M m d xs ⟨w.heap.size, 0, none⟩ _ ((hm.below hb).more hb.size) hmn hxs (Cells.new w _ _)
  have HXX := Lib.hid hxs
  clear hxs
  go_enter Try.func30, Try.ntmps30
  go_wp2_with fail; ((with_reducible refine (cc).mono ?_); rintro e w1 ⟨rfl, hb1⟩)
  have B1 : Below w.heap.size w w1 := hb.trans (hb1.mono (by simp))
  have z1 : w.heap.size < w1.heap.size := by have h := hb1.size; simp at h; omega
  have g0_1 : w1.cell? ⟨w.heap.size, 0, none⟩ = some (.int .i64 J) := (hb1.cell (p := ⟨w.heap.size, 0, none⟩) (by simp)).trans (by go_simp)
  have g1_1 : w1.cell? ⟨w.heap.size, 1, none⟩ = some (.slice M m d) := (hb1.cell (p := ⟨w.heap.size, 1, none⟩) (by simp)).trans (by go_simp)
  clear cc hb hb1
  rcases Bool.eq_false_or_eq_true (mineOk J xs) with hok | hok
  · have HO := Lib.hid (mineOk_t hok)
    have HOK := Lib.hid hok
    have hm24 : m ≤ 24 := by have := HO.out.2.1; rw [HLm.out] at this; exact this
    have HF : Hid (∀ W : World, Below w.heap.size w W → W.cell? ⟨w.heap.size, 1, none⟩ = some (.slice M m d) → Calls Try.prog 60 #[.pointer (some ⟨w.heap.size, 0, none⟩), .slice A2 n2 c2] W fun e w' => e = .returned (.bool (lstOk m (-100000) 100000 fs2)) ∧ W = w') := fun W hW hc => l07Flows_any m M d ⟨w.heap.size, 0, none⟩ A2 n2 c2 fs2 W ((hr2.below hW).more hW.size) hn2 hc
    have cf := HF.out w1 B1 g1_1
    have cr := l07Res_any m M d ⟨w.heap.size, 0, none⟩ A1 n1 c1 fs1 w1 ((hr1.below B1).more B1.size) hn1 g1_1
    rcases Bool.eq_false_or_eq_true (lstOk m 1 1000000 fs1) with hl1 | hl1
    · rcases Bool.eq_false_or_eq_true (lstOk m (-100000) 100000 fs2) with hl2 | hl2
      · have HL1 := Lib.hid hl1
        have HL2 := Lib.hid hl2
        have HL := Lib.hid (lstOk_t hl2)
        have HV := Lib.hid (lossR_3 (rs := fs1) (fs := fs2) HOK.out (by rw [HLm.out, hl1, hl2]; rfl))
        have HB := Lib.hid (pwTo_bnd hl1 hl2)
        have HLn2 := Lib.hid (ints_len hr2)
        have hnm : n2 = m := by have h1 := HL.out.1; have h2 := HLn2.out; omega
        rw [hl1] at cr
        rw [hl2] at cf
        clear hl1 hl2
        subst hnm
        go_wp2_with (first | (go_at_call 76; refine cr.mono ?_; rintro e w' ⟨rfl, rfl⟩) | (go_at_call 60; refine cf.mono ?_; rintro e w' ⟨rfl, rfl⟩))
        clear cr cf
        have R1 := (hr1.below B1).more B1.size
        have R2 := (hr2.below B1).more B1.size
        go_loopw [8, 9] (fun s i wr => ∃ k q : Nat, k ≤ n2 ∧ s = .int .i64 (pwTo fs1 fs2 k) ∧ i = .int .i64 k ∧ wr = w1.drewN q) (fun _ i _ => n2 - (intOf i).toNat)
        case atStart => exact ⟨0, 0, by omega, rfl, rfl, rfl⟩
        case round =>
          obtain ⟨k, q, hk, rfl, rfl, rfl⟩ := hrel
          obtain ⟨s1, s2⟩ := HB.out k (by omega)
          by_cases hlt : k < n2
          · obtain ⟨r, hrr, r1, r2⟩ := lst_at HL1.out (k := k) (by omega)
            obtain ⟨f, hf, f1, f2⟩ := lst_at HL2.out (k := k) (by omega)
            obtain ⟨a1, rfl, _, hk1, hc1⟩ := R1.int_at hrr
            obtain ⟨a2, rfl, _, hk2, hc2⟩ := R2.int_at hf
            have hir : isRes r = true := by unfold isRes inB; exact decide_eq_true (by omega)
            have hif : isFlow f = true := by unfold isFlow inB; exact decide_eq_true (by omega)
            obtain ⟨p1, ⟨p2, p3⟩, ⟨p4, p5⟩, p6, p7⟩ := pw_in hir hif
            have HS := Lib.hid (pwTo_snoc hrr hf)
            have hk1' : (k : Int) < (n1 : Int) := by omega
            have hk2' : (k : Int) < (n2 : Int) := by omega
            have HA := Lib.hid (qS (w := w1) (q := q) (fun W => l03Abs_any f W (by omega) (by omega)))
            have HD := Lib.hid (qS (w := w1) (q := q) (fun W => l03Drop_any r (absI f) W hir p1))
            have HP := Lib.hid (qS (w := w1) (q := q) (fun W => show Calls Try.prog 77 #[.int .i64 (drop r (absI f) * absI f), .int .i64 100] W (fun e w' => e = .returned (.int .i64 (pw r f)) ∧ W = w') from l01Div_any (drop r (absI f) * absI f) 100 W (by omega) (by omega) (by omega) (by omega)))
            have hwm : IntKind.i64.wrap (drop r (absI f) * absI f) = drop r (absI f) * absI f := IntWalk.i64_in _ (by omega)
            have hwa : IntKind.i64.wrap (pwTo fs1 fs2 k + pw r f) = pwTo fs1 fs2 k + pw r f := IntWalk.i64_in _ (by omega)
            clear hrr hf hir hif p1
            go_wp2
            go_quiet ((first | (go_at_call 54; exact HA.out _) | (go_at_call 78; exact HD.out _) | (go_at_call 77; exact HP.out _)))
            go_wp2
            go_roundw
            case rel => exact ⟨k + 1, _, by omega, by rw [HS.out], by go_num, rfl⟩
            case measure => simp [intOf]; omega
          · have e : k = n2 := by omega
            go_wp2
            go_ret2
            exact ⟨by rw [HV.out, HLm.out, e]; rfl, below_drewN B1 _⟩
      · have HV := Lib.hid (lossR_2 (rs := fs1) (fs := fs2) HOK.out (by rw [HLm.out, hl1, hl2]; rfl))
        rw [hl1] at cr
        rw [hl2] at cf
        clear hl1 hl2
        go_wp2_with (first | (go_at_call 76; refine cr.mono ?_; rintro e w' ⟨rfl, rfl⟩) | (go_at_call 60; refine cf.mono ?_; rintro e w' ⟨rfl, rfl⟩))
        go_ret2
        exact ⟨by rw [HV.out]; rfl, B1⟩
    · have HV := Lib.hid (lossR_2 (rs := fs1) (fs := fs2) HOK.out (by rw [HLm.out, hl1]; rfl))
      rw [hl1] at cr
      clear hl1
      go_wp2_with (first | (go_at_call 76; refine cr.mono ?_; rintro e w' ⟨rfl, rfl⟩))
      go_ret2
      exact ⟨by rw [HV.out]; rfl, B1⟩
  · have HV := Lib.hid (lossR_1 (rs := fs1) (fs := fs2) hok)
    go_wp2
    go_ret2
    exact ⟨by rw [HV.out]; rfl, B1⟩
set_option maxHeartbeats 1600000 in
set_option maxRecDepth 100000 in
theorem implLossPower_any (J : Int) (M : Option Addr) (m d : Nat) (xs : List Awy) (A1 : Option Addr) (n1 c1 : Nat) (fs1 : List Int) (A2 : Option Addr) (n2 c2 : Nat) (fs2 : List Int) (w : World) (hm : Reads w w.heap.size 7 M m (Awy.recs xs)) (hmn : m ≤ 1048576) (hxs : ∀ x ∈ xs, x.s.size ≤ maxLen) (hr1 : Reads w w.heap.size 1 A1 n1 (ints fs1)) (hn1 : n1 ≤ 1048576) (hr2 : Reads w w.heap.size 1 A2 n2 (ints fs2)) (hn2 : n2 ≤ 1048576) :
    Calls Try.prog 31 #[.agg #[.int .i64 J, .slice M m d], .slice A1 n1 c1, .slice A2 n2 c2] w fun e w' => e = .returned (.tuple #[.int .i64 (lossR J xs fs1 fs2).1, .int .i64 (lossR J xs fs1 fs2).2]) ∧ Below w.heap.size w w' := by
  have HLm := Lib.hid (recs_rlen Awy.clen (by omega) hm)
  have hb : Below w.heap.size w (w.alloc (.cells #[.int .i64 J, .slice M m d] 31)) := (Below.refl _ _).alloc (Nat.le_refl _) _
  have cc := implValidMine_any J M m d xs _ ((hm.below hb).more hb.size) hmn hxs
  have HXX := Lib.hid hxs
  clear hxs
  go_enter Try.func31, Try.ntmps31
  go_wp2_with fail; ((with_reducible refine (cc).mono ?_); rintro e w1 ⟨rfl, hb1⟩)
  have B1 : Below w.heap.size w w1 := hb.trans (hb1.mono (by simp))
  have z1 : w.heap.size < w1.heap.size := by have h := hb1.size; simp at h; omega
  have g0_1 : w1.cell? ⟨w.heap.size, 0, none⟩ = some (.int .i64 J) := (hb1.cell (p := ⟨w.heap.size, 0, none⟩) (by simp)).trans (by go_simp)
  have g1_1 : w1.cell? ⟨w.heap.size, 1, none⟩ = some (.slice M m d) := (hb1.cell (p := ⟨w.heap.size, 1, none⟩) (by simp)).trans (by go_simp)
  clear cc hb hb1
  rcases Bool.eq_false_or_eq_true (mineOk J xs) with hok | hok
  · have HO := Lib.hid (mineOk_t hok)
    have HOK := Lib.hid hok
    have hm24 : m ≤ 24 := by have := HO.out.2.1; rw [HLm.out] at this; exact this
    have cf := hasFlows_any J M m d A2 n2 c2 fs2 w1 ((hr2.below B1).more B1.size) hn2
    rcases Bool.eq_false_or_eq_true (lstOk m (-100000) 100000 fs2) with hl2 | hl2
    · have HL2 := Lib.hid hl2
      rw [hl2] at cf
      clear hl2
      go_wp2_with fail; ((with_reducible refine (cf).mono ?_); rintro e w2 ⟨rfl, hb2⟩)
      clear cf
      have B2 : Below w.heap.size w w2 := B1.trans (hb2.mono B1.size)
      have z2 : w.heap.size < w2.heap.size := by have h := hb2.size; omega
      have g0_2 : w2.cell? ⟨w.heap.size, 0, none⟩ = some (.int .i64 J) := (hb2.cell (p := ⟨w.heap.size, 0, none⟩) z1).trans g0_1
      have g1_2 : w2.cell? ⟨w.heap.size, 1, none⟩ = some (.slice M m d) := (hb2.cell (p := ⟨w.heap.size, 1, none⟩) z1).trans g1_1
      clear hb2 g0_1 g1_1
      have cr := hasList_any J M m d A1 n1 c1 1 1000000 fs1 w2 ((hr1.below B2).more B2.size) hn1
      rcases Bool.eq_false_or_eq_true (lstOk m 1 1000000 fs1) with hl1 | hl1
      · have HL1 := Lib.hid hl1
        have HL := Lib.hid (lstOk_t HL2.out)
        have HV := Lib.hid (lossR_3 (rs := fs1) (fs := fs2) HOK.out (by rw [HLm.out, hl1, HL2.out]; rfl))
        have HB := Lib.hid (pwTo_bnd hl1 HL2.out)
        have HLn2 := Lib.hid (ints_len hr2)
        have hnm : n2 = m := by have h1 := HL.out.1; have h2 := HLn2.out; omega
        rw [hl1] at cr
        clear hl1
        go_wp2_with fail; ((with_reducible refine (cr).mono ?_); rintro e w3 ⟨rfl, hb3⟩)
        clear cr
        have B3 : Below w.heap.size w w3 := B2.trans (hb3.mono B2.size)
        have z3 : w.heap.size < w3.heap.size := by have h := hb3.size; omega
        have g0_3 : w3.cell? ⟨w.heap.size, 0, none⟩ = some (.int .i64 J) := (hb3.cell (p := ⟨w.heap.size, 0, none⟩) z2).trans g0_2
        have g1_3 : w3.cell? ⟨w.heap.size, 1, none⟩ = some (.slice M m d) := (hb3.cell (p := ⟨w.heap.size, 1, none⟩) z2).trans g1_2
        clear hb3 g0_2 g1_2
        subst hnm
        have R1 := (hr1.below B3).more B3.size
        have R2 := (hr2.below B3).more B3.size
        go_wp2
        go_loopw [8, 28] (fun s i wr => ∃ k q : Nat, k ≤ n2 ∧ s = .int .i64 (pwTo fs1 fs2 k) ∧ i = .int .i64 k ∧ wr = w3.drewN q) (fun _ i _ => n2 - (intOf i).toNat)
        case atStart => exact ⟨0, 0, by omega, rfl, rfl, rfl⟩
        case round =>
          obtain ⟨k, q, hk, rfl, rfl, rfl⟩ := hrel
          obtain ⟨s1, s2⟩ := HB.out k (by omega)
          by_cases hlt : k < n2
          · obtain ⟨r, hrr, r1, r2⟩ := lst_at HL1.out (k := k) (by omega)
            obtain ⟨f, hf, f1, f2⟩ := lst_at HL2.out (k := k) (by omega)
            obtain ⟨a1, rfl, _, hk1, hc1⟩ := R1.int_at hrr
            obtain ⟨a2, rfl, _, hk2, hc2⟩ := R2.int_at hf
            have hir : isRes r = true := by unfold isRes inB; exact decide_eq_true (by omega)
            have hif : isFlow f = true := by unfold isFlow inB; exact decide_eq_true (by omega)
            obtain ⟨p1, ⟨p2, p3⟩, ⟨p4, p5⟩, p6, p7⟩ := pw_in hir hif
            have HS := Lib.hid (pwTo_snoc hrr hf)
            have hk1' : (k : Int) < (n1 : Int) := by omega
            have ca := airPower_any r f (w3.drewN q) hir hif
            clear hrr hf hir hif p1
            go_wp2_with fail; ((with_reducible refine (ca).mono ?_); rintro e w' ⟨rfl, n5, rfl⟩)
            go_wp2
            go_roundw
            case rel => exact ⟨k + 1, _, by omega, by rw [HS.out], by go_num, rfl⟩
            case measure => simp [intOf]; omega
          · have e : k = n2 := by omega
            go_wp2
            go_ret2
            exact ⟨by rw [HV.out, HLm.out, e]; rfl, below_drewN B3 _⟩
      · have HV := Lib.hid (lossR_2 (rs := fs1) (fs := fs2) HOK.out (by rw [HLm.out, hl1]; rfl))
        rw [hl1] at cr
        clear hl1
        go_wp2_with fail; ((with_reducible refine (cr).mono ?_); rintro e w3 ⟨rfl, hb3⟩)
        go_wp2
        go_ret2
        exact ⟨by rw [HV.out]; rfl, B2.trans (hb3.mono B2.size)⟩
    · have HV := Lib.hid (lossR_2 (rs := fs1) (fs := fs2) HOK.out (by rw [HLm.out, hl2, Bool.and_false]))
      rw [hl2] at cf
      clear hl2
      go_wp2_with fail; ((with_reducible refine (cf).mono ?_); rintro e w2 ⟨rfl, hb2⟩)
      go_wp2
      go_ret2
      exact ⟨by rw [HV.out]; rfl, B1.trans (hb2.mono B1.size)⟩
  · have HV := Lib.hid (lossR_1 (rs := fs1) (fs := fs2) hok)
    go_wp2
    go_ret2
    exact ⟨by rw [HV.out]; rfl, B1⟩
end Go.Proofs.Ytgbmpadlfcbcaaa
