/- Several texts in one: Loss Drt Warm FanP FanQ Prs FanL. -/
import Derived.Test.YtjmhhbjbmgpagaaMgD
import Derived.Test.YtjmhhbjbmgpagaaMgB
import Derived.Deep.AppendLies
import Derived.Deep.RegionHeld3
import Derived.Test.YtjmhhbjbmgpagaaMgC
import Derived.Test.YtjmhhbjbmgpagaaMgA
/- Contracts of LossPower. -/
namespace Go.Proofs.Ytjmhhbjbmgpagaa
set_option linter.unusedVariables false
set_option linter.unusedSimpArgs false
open Go.RowKit
theorem qS {P : Program} {f : FuncId} {args : Array Value} {v : Value} {w : World} {q : Nat} (h : ∀ W : World, Calls P f args W fun e w' => e = .returned v ∧ W = w') :
    ∀ nn, Calls P f args (w.drewN (q + nn)) fun e w'' => e = .returned v ∧ ∃ mm, w'' = w.drewN (q + mm) := fun nn => (h _).mono fun _ _ ⟨he, hw⟩ => ⟨he, nn, hw.symm⟩
def pw (r q : Int) : Int := dr (drop r (absI q) * absI q) 100
theorem pw_in {r q : Int} (hr : isRes r = true) (hq : isFlow q = true) : isFlow (absI q) = true ∧ (0 ≤ absI q ∧ absI q ≤ 100000) ∧ (-100000000000 ≤ drop r (absI q) * absI q ∧ drop r (absI q) * absI q ≤ 100000000000) ∧ -1000000000 ≤ pw r q ∧ pw r q ≤ 1000000000 := by
  obtain ⟨h1, h2⟩ := isFlow_t hq
  have h3 : 0 ≤ absI q ∧ absI q ≤ 100000 := by unfold absI; omega
  have h4 : isFlow (absI q) = true := by unfold isFlow inB; exact decide_eq_true (by omega)
  obtain ⟨h5, h6⟩ := drop_bnd hr h4
  have h7 : drop r (absI q) * absI q ≤ 1000000 * 100000 := Int.le_trans (Int.mul_le_mul_of_nonneg_right h6 h3.1) (Int.mul_le_mul_of_nonneg_left h3.2 (by omega))
  have h8 : -(1000000 * 100000) ≤ drop r (absI q) * absI q := by
    have := Int.mul_le_mul_of_nonneg_right h5 h3.1
    have h9 : -1000000 * absI q = -(1000000 * absI q) := by omega
    omega
  refine ⟨h4, h3, by omega, ?_⟩
  have := dr_scale (a := drop r (absI q) * absI q) (b := 100) (m := 1000000000) (by omega) (by omega) (by omega)
  exact this
def pwTo (rs fs : List Int) : Nat → Int
  | 0 => 0
  | k + 1 => pwTo rs fs k + pw (rs.getD k 0) (fs.getD k 0)
theorem pwTo_snoc {rs fs : List Int} {k : Nat} {r f : Int} (hr : rs[k]? = some r) (hf : fs[k]? = some f) : pwTo rs fs (k + 1) = pwTo rs fs k + pw r f := by
  simp only [pwTo]; rw [List.getD_eq_getElem?_getD, List.getD_eq_getElem?_getD, hr, hf]; rfl
theorem pwTo_bnd {rs fs : List Int} {N : Int} (h1 : lstOk N 1 1000000 rs = true) (h2 : lstOk N (-100000) 100000 fs = true) : ∀ k : Nat, (k : Int) ≤ N → -(1000000000 * (k : Int)) ≤ pwTo rs fs k ∧ pwTo rs fs k ≤ 1000000000 * k
  | 0, _ => by simp [pwTo]
  | k + 1, hk => by
    have ih := pwTo_bnd h1 h2 k (by omega)
    obtain ⟨r, hr, r1, r2⟩ := lst_at h1 (k := k) (by omega)
    obtain ⟨f, hf, f1, f2⟩ := lst_at h2 (k := k) (by omega)
    have h3 := (pw_in (r := r) (q := f) (by unfold isRes inB; exact decide_eq_true (by omega)) (by unfold isFlow inB; exact decide_eq_true (by omega))).2.2.2
    rw [pwTo_snoc hr hf]
    omega
def lossR (J : Int) (xs : List Awy) (rs fs : List Int) : Int × Int :=
  if mineOk J xs = true then (if (lstOk xs.length 1 1000000 rs && lstOk xs.length (-100000) 100000 fs) = true then (pwTo rs fs xs.length, 0) else (0, 7)) else (0, 1)
theorem lossR_1 {J : Int} {xs : List Awy} {rs fs : List Int} (h : mineOk J xs = false) : lossR J xs rs fs = (0, 1) := by unfold lossR; rw [h]; rfl
theorem lossR_2 {J : Int} {xs : List Awy} {rs fs : List Int} (h : mineOk J xs = true) (h1 : (lstOk xs.length 1 1000000 rs && lstOk xs.length (-100000) 100000 fs) = false) : lossR J xs rs fs = (0, 7) := by unfold lossR; rw [h, h1]; rfl
theorem lossR_3 {J : Int} {xs : List Awy} {rs fs : List Int} (h : mineOk J xs = true) (h1 : (lstOk xs.length 1 1000000 rs && lstOk xs.length (-100000) 100000 fs) = true) : lossR J xs rs fs = (pwTo rs fs xs.length, 0) := by unfold lossR; rw [h, h1]; rfl
set_option maxHeartbeats 800000 in
theorem l07Res_any (m : Nat) (M : Option Addr) (d : Nat) (p : Addr) (A : Option Addr) (n c : Nat) (xs : List Int) (w : World) (hr : Reads w w.heap.size 1 A n (ints xs)) (hn : n ≤ 1048576) (h0 : w.cell? ⟨p.block, p.off + 1, none⟩ = some (.slice M m d)) :
    Calls Try.prog 124 #[.pointer (some p), .slice A n c] w fun e w' => e = .returned (.bool (lstOk (m : Int) (1) 1000000 xs)) ∧ w = w' := by
  have HL := Lib.hid (ints_len hr)
  rcases Bool.eq_false_or_eq_true ((n : Int) == (m : Int)) with hnj | hnj
  all_goals
    have HN := Lib.hid hnj
    go_enter Try.func124, Try.ntmps124
    go_wp2
    go_loop [5] (fun i => ∃ k : Nat, k ≤ n ∧ i = .int .i64 k ∧ Hid ((xs.take k).all (fun x => inB x (1) 1000000) = true)) (fun i => n - (intOf i).toNat)
    case atStart => exact ⟨0, by omega, rfl, rfl⟩
    case round =>
      obtain ⟨k, hk, rfl, HK⟩ := hrel
      by_cases hlt : k < n
      · obtain ⟨ad, u, rfl, had, hx, hc⟩ := hr.at_ hlt
        obtain ⟨b, hb, rfl⟩ := ints_at hx
        have HX := Lib.hid hb
        clear hb hx
        cases hp : inB b (1) 1000000
        · have HP : Hid (inB b (1) 1000000 = false) := hp
          go_wp2_with (go_at_call 132; refine ((show Calls Try.prog _ _ _ (fun e w' => e = .returned (.bool (inB _ (1) 1000000)) ∧ _ = w') from l03Res_any _ _)).mono ?_; rintro e w' ⟨rfl, rfl⟩)
          go_ret
          exact ⟨ret_bool (by unfold lstOk allIn; rw [all_false (p := fun x => inB x (1) 1000000) HX.out HP.out, Bool.false_and]), rfl⟩
        · have HP : Hid (inB b (1) 1000000 = true) := hp
          go_wp2_with (go_at_call 132; refine ((show Calls Try.prog _ _ _ (fun e w' => e = .returned (.bool (inB _ (1) 1000000)) ∧ _ = w') from l03Res_any _ _)).mono ?_; rintro e w' ⟨rfl, rfl⟩)
          go_round
          case rel => exact ⟨k + 1, by omega, by go_num, all_take HX.out HK.out HP.out⟩
          case measure => simp [intOf]; omega
      · have e : k = n := by omega
        subst e
        have HA : Hid (allIn (1) 1000000 xs = true) := all_whole HL.out HK.out
        go_wp2
        go_ret
        exact ⟨ret_bool (by unfold lstOk; rw [HA.out, HL.out, HN.out]; first | rfl | simp_all), rfl⟩
end Go.Proofs.Ytjmhhbjbmgpagaa

/- Contracts of the draughts of all airways, and of the test of levels and temperatures. -/
namespace Go.Proofs.Ytjmhhbjbmgpagaa
set_option linter.unusedVariables false
set_option linter.unusedSimpArgs false
open Go.RowKit
def askR (J : Int) (xs : List Awy) (ls ts : List Int) : Int :=
  if mineOk J xs = true then (if (lstOk J (-3000) 3000 ls && lstOk xs.length (-300) 600 ts) = true then 0 else 7) else 1
theorem askR_0 {J : Int} {xs : List Awy} {ls ts : List Int} (h : mineOk J xs = true) (h1 : lstOk J (-3000) 3000 ls = true) (h2 : lstOk xs.length (-300) 600 ts = true) : askR J xs ls ts = 0 := by unfold askR; rw [h, h1, h2]; rfl
theorem askR_7 {J : Int} {xs : List Awy} {ls ts : List Int} (h : mineOk J xs = true) (h1 : (lstOk J (-3000) 3000 ls && lstOk xs.length (-300) 600 ts) = false) : askR J xs ls ts = 7 := by unfold askR; rw [h, h1]; rfl
theorem askR_1 {J : Int} {xs : List Awy} {ls ts : List Int} (h : mineOk J xs = false) : askR J xs ls ts = 1 := by unfold askR; rw [h]; rfl
theorem askR_cases (J : Int) (xs : List Awy) (ls ts : List Int) : (askR J xs ls ts = 0 ∧ mineOk J xs = true ∧ lstOk J (-3000) 3000 ls = true ∧ lstOk xs.length (-300) 600 ts = true) ∨ askR J xs ls ts = 7 ∨ askR J xs ls ts = 1 := by
  rcases Bool.eq_false_or_eq_true (mineOk J xs) with h | h
  · rcases Bool.eq_false_or_eq_true (lstOk J (-3000) 3000 ls && lstOk xs.length (-300) 600 ts) with h1 | h1
    · have h2 := h1
      rw [Bool.and_eq_true] at h2
      exact .inl ⟨askR_0 h h2.1 h2.2, h, h2.1, h2.2⟩
    · exact .inr (.inl (askR_7 h h1))
  · exact .inr (.inr (askR_1 h))
def drAt (xs : List Awy) (ls ts : List Int) (k : Nat) : Int :=
  match xs[k]? with
  | some x => columnT (ls.getD x.b.toNat 0 - ls.getD x.a.toNat 0) (ts.getD k 0)
  | none => 0
def drTo (xs : List Awy) (ls ts : List Int) (k : Nat) : List Int := (List.range k).map (drAt xs ls ts)
theorem drTo_snoc {xs : List Awy} {ls ts : List Int} {k ta tb : Nat} {x : Awy} {la lb t : Int} (h : xs[k]? = some x) (hb : x.b = (tb : Int)) (ha : x.a = (ta : Int)) (eb : ls[tb]? = some lb) (ea : ls[ta]? = some la) (et : ts[k]? = some t) : drTo xs ls ts (k + 1) = drTo xs ls ts k ++ [columnT (lb - la) t] := by
  have e : drAt xs ls ts k = columnT (lb - la) t := by
    unfold drAt
    rw [h]
    show columnT (ls.getD x.b.toNat 0 - ls.getD x.a.toNat 0) (ts.getD k 0) = _
    rw [hb, ha, Int.toNat_natCast, Int.toNat_natCast, List.getD_eq_getElem?_getD, List.getD_eq_getElem?_getD, List.getD_eq_getElem?_getD, eb, ea, et]; rfl
  unfold drTo
  rw [List.range_succ, List.map_append, List.map_singleton, e]
theorem drTo_len (xs : List Awy) (ls ts : List Int) (k : Nat) : (drTo xs ls ts k).length = k := by unfold drTo; simp
def drsR (J : Int) (xs : List Awy) (ls ts : List Int) : List Int × Int := if askR J xs ls ts = 0 then (drTo xs ls ts xs.length, 0) else ([], askR J xs ls ts)
set_option maxHeartbeats 800000 in
theorem l09Ask_any (J : Int) (M : Option Addr) (m d : Nat) (xs : List Awy) (A1 : Option Addr) (n1 c1 : Nat) (ls : List Int) (A2 : Option Addr) (n2 c2 : Nat) (ts : List Int) (p : Addr) (w : World) (hm : Reads w w.heap.size 7 M m (Awy.recs xs)) (hmn : m ≤ 1048576) (hxs : ∀ x ∈ xs, x.s.size ≤ maxLen)
    (hr1 : Reads w w.heap.size 1 A1 n1 (ints ls)) (hn1 : n1 ≤ 1048576) (hr2 : Reads w w.heap.size 1 A2 n2 (ints ts)) (hn2 : n2 ≤ 1048576) (hcp : Cells w p [.int .i64 J, .slice M m d]) :
    Calls Try.prog 37 #[.pointer (some p), .slice A1 n1 c1, .slice A2 n2 c2] w fun e w' => e = .returned (.int .i64 (askR J xs ls ts)) ∧ Below w.heap.size w w' := by
  have HLm := Lib.hid (recs_rlen Awy.clen (by omega) hm)
  have hp0 := hcp.z rfl
  have hp1 := hcp.at_ 0 rfl
  have hpl := block_lt_of_cell hp0
  have cc := l04Ok_any J M m d xs p w hm hmn hxs hcp
  have HXX := Lib.hid hxs
  clear hxs hcp
  go_enter Try.func37, Try.ntmps37
  go_wp2_with fail; ((with_reducible refine (cc).mono ?_); rintro e w1 ⟨rfl, hb1⟩)
  have g0 : w1.cell? p = some (.int .i64 J) := (hb1.cell hpl).trans hp0
  have g1 : w1.cell? ⟨p.block, p.off + 1, none⟩ = some (.slice M m d) := (hb1.cell (p := ⟨p.block, p.off + 1, none⟩) hpl).trans hp1
  clear cc hp0 hp1
  rcases Bool.eq_false_or_eq_true (mineOk J xs) with hok | hok
  · have HOK := Lib.hid hok
    have cl := l09Levels_any J p A1 n1 c1 ls w1 ((hr1.below hb1).more hb1.size) hn1 g0
    have ct := l09Temps_any m M d p A2 n2 c2 ts w1 ((hr2.below hb1).more hb1.size) hn2 g1
    rcases Bool.eq_false_or_eq_true (lstOk J (-3000) 3000 ls) with hl | hl
    · rcases Bool.eq_false_or_eq_true (lstOk m (-300) 600 ts) with ht | ht
      · have HV := Lib.hid (askR_0 HOK.out hl (by rw [HLm.out]; exact ht))
        rw [hl] at cl
        rw [ht] at ct
        clear hl ht
        go_wp2_with (first | (go_at_call 92; refine cl.mono ?_; rintro e w' ⟨rfl, rfl⟩) | (go_at_call 93; refine ct.mono ?_; rintro e w' ⟨rfl, rfl⟩))
        go_ret
        exact ⟨by rw [HV.out]; rfl, hb1⟩
      · have HV := Lib.hid (askR_7 HOK.out (ls := ls) (ts := ts) (by rw [HLm.out, ht, Bool.and_false]))
        rw [hl] at cl
        rw [ht] at ct
        clear hl ht
        go_wp2_with (first | (go_at_call 92; refine cl.mono ?_; rintro e w' ⟨rfl, rfl⟩) | (go_at_call 93; refine ct.mono ?_; rintro e w' ⟨rfl, rfl⟩))
        go_ret
        exact ⟨by rw [HV.out]; rfl, hb1⟩
    · have HV := Lib.hid (askR_7 HOK.out (ls := ls) (ts := ts) (by rw [hl]; rfl))
      rw [hl] at cl
      clear hl
      go_wp2_with (first | (go_at_call 92; refine cl.mono ?_; rintro e w' ⟨rfl, rfl⟩))
      go_ret
      exact ⟨by rw [HV.out]; rfl, hb1⟩
  · have HV := Lib.hid (askR_1 (ls := ls) (ts := ts) hok)
    go_wp2
    go_ret
    exact ⟨by rw [HV.out]; rfl, hb1⟩
set_option maxHeartbeats 800000 in
theorem columnsCode_any (J : Int) (M : Option Addr) (m d : Nat) (xs : List Awy) (A1 : Option Addr) (n1 c1 : Nat) (ls : List Int) (A2 : Option Addr) (n2 c2 : Nat) (ts : List Int) (by_ : Int) (w : World) (hm : Reads w w.heap.size 7 M m (Awy.recs xs)) (hmn : m ≤ 1048576) (hxs : ∀ x ∈ xs, x.s.size ≤ maxLen)
    (hr1 : Reads w w.heap.size 1 A1 n1 (ints ls)) (hn1 : n1 ≤ 1048576) (hr2 : Reads w w.heap.size 1 A2 n2 (ints ts)) (hn2 : n2 ≤ 1048576) :
    Calls Try.prog 42 #[.agg #[.int .i64 J, .slice M m d], .slice A1 n1 c1, .slice A2 n2 c2, .int .i64 by_] w fun e w' => e = .returned (.int .i64 (askR J xs ls ts)) ∧ Below w.heap.size w w' := by
  have HLm := Lib.hid (recs_rlen Awy.clen (by omega) hm)
  have hb : Below w.heap.size w (w.alloc (.cells #[.int .i64 J, .slice M m d] 31)) := (Below.refl _ _).alloc (Nat.le_refl _) _
  have cc := implValidMine_any J M m d xs _ ((hm.below hb).more hb.size) hmn hxs
  have HXX := Lib.hid hxs
  clear hxs
  go_enter Try.func42, Try.ntmps42
  go_wp2_with fail; ((with_reducible refine (cc).mono ?_); rintro e w1 ⟨rfl, hb1⟩)
  have B1 : Below w.heap.size w w1 := hb.trans (hb1.mono (by simp))
  have z1 : w.heap.size < w1.heap.size := by have h := hb1.size; simp at h; omega
  have g0 : w1.cell? ⟨w.heap.size, 0, none⟩ = some (.int .i64 J) := (hb1.cell (p := ⟨w.heap.size, 0, none⟩) (by simp)).trans (by go_simp)
  have g1 : w1.cell? ⟨w.heap.size, 1, none⟩ = some (.slice M m d) := (hb1.cell (p := ⟨w.heap.size, 1, none⟩) (by simp)).trans (by go_simp)
  clear cc hb hb1
  rcases Bool.eq_false_or_eq_true (mineOk J xs) with hok | hok
  · have HOK := Lib.hid hok
    have cl := hasLevels_any J M m d A1 n1 c1 ls w1 ((hr1.below B1).more B1.size) hn1
    rcases Bool.eq_false_or_eq_true (lstOk J (-3000) 3000 ls) with hl | hl
    · have HL := Lib.hid hl
      rw [hl] at cl
      clear hl
      go_wp2_with fail; ((with_reducible refine (cl).mono ?_); rintro e w2 ⟨rfl, hb2⟩)
      have B2 : Below w.heap.size w w2 := B1.trans (hb2.mono B1.size)
      have g2 : w2.cell? ⟨w.heap.size, 0, none⟩ = some (.int .i64 J) := (hb2.cell (p := ⟨w.heap.size, 0, none⟩) z1).trans g0
      have g3 : w2.cell? ⟨w.heap.size, 1, none⟩ = some (.slice M m d) := (hb2.cell (p := ⟨w.heap.size, 1, none⟩) z1).trans g1
      clear cl g0 g1 hb2
      have ct := hasList_any J M m d A2 n2 c2 (-300) 600 ts w2 ((hr2.below B2).more B2.size) hn2
      rcases Bool.eq_false_or_eq_true (lstOk m (-300) 600 ts) with ht | ht
      · have HV := Lib.hid (askR_0 HOK.out HL.out (by rw [HLm.out]; exact ht))
        rw [ht] at ct
        clear ht
        go_wp2_with fail; ((with_reducible refine (ct).mono ?_); rintro e w3 ⟨rfl, hb3⟩)
        go_wp2
        go_ret
        exact ⟨by rw [HV.out]; rfl, B2.trans (hb3.mono B2.size)⟩
      · have HV := Lib.hid (askR_7 HOK.out (ls := ls) (ts := ts) (by rw [HLm.out, ht, Bool.and_false]))
        rw [ht] at ct
        clear ht
        go_wp2_with fail; ((with_reducible refine (ct).mono ?_); rintro e w3 ⟨rfl, hb3⟩)
        go_wp2
        go_ret
        exact ⟨by rw [HV.out]; rfl, B2.trans (hb3.mono B2.size)⟩
    · have HV := Lib.hid (askR_7 HOK.out (ls := ls) (ts := ts) (by rw [hl]; rfl))
      rw [hl] at cl
      clear hl
      go_wp2_with fail; ((with_reducible refine (cl).mono ?_); rintro e w2 ⟨rfl, hb2⟩)
      go_wp2
      go_ret
      exact ⟨by rw [HV.out]; rfl, B1.trans (hb2.mono B1.size)⟩
  · have HV := Lib.hid (askR_1 (ls := ls) (ts := ts) hok)
    go_wp2
    go_ret
    exact ⟨by rw [HV.out]; rfl, B1⟩
set_option maxHeartbeats 1600000 in
set_option maxRecDepth 100000 in
theorem l09Draughts_any (J : Int) (M : Option Addr) (m d : Nat) (xs : List Awy) (A1 : Option Addr) (n1 c1 : Nat) (ls : List Int) (A2 : Option Addr) (n2 c2 : Nat) (ts : List Int) (p : Addr) (w : World) (hm : Reads w w.heap.size 7 M m (Awy.recs xs))
    (hr1 : Reads w w.heap.size 1 A1 n1 (ints ls)) (hr2 : Reads w w.heap.size 1 A2 n2 (ints ts)) (hp1 : w.cell? ⟨p.block, p.off + 1, none⟩ = some (.slice M m d)) (hok : mineOk J xs = true) (hl : lstOk J (-3000) 3000 ls = true) (ht : lstOk xs.length (-300) 600 ts = true) :
    Calls Try.prog 40 #[.pointer (some p), .slice A1 n1 c1, .slice A2 n2 c2] w fun e w' => ∃ A' c', e = .returned (.slice A' m c') ∧ w'.ownsRow w.heap.size 2 1 (.slice A' m c') m (ints (drTo xs ls ts m)) ∧ m ≤ 24 ∧ Below w.heap.size w w' := by
  obtain ⟨i0, hi0, hz0, hz1, hz2⟩ := info_parts info_Int64S
  have HLm := Lib.hid (recs_rlen Awy.clen (by omega) hm)
  have HO := Lib.hid (mineOk_t hok)
  have HL := Lib.hid hl
  have HT := Lib.hid ht
  have hm24 : m ≤ 24 := by have := HO.out.2.1; rw [HLm.out] at this; exact this
  have hpl : p.block < w.heap.size := block_lt_of_cell (a := ⟨p.block, p.off + 1, none⟩) hp1
  clear hok hl ht
  go_enter Try.func40, Try.ntmps40
  go_wp2
  go_loopw [7, 8] (fun o i wr => ∃ (k : Nat) (A' : Option Addr) (c' : Nat), k ≤ m ∧ o = .slice A' k c' ∧ i = .int .i64 k ∧ wr.ownsRow w.heap.size 2 1 (.slice A' k c') k (ints (drTo xs ls ts k)) ∧ Below w.heap.size w wr) (fun _ i _ => m - (intOf i).toNat)
  case atStart => exact ⟨0, _, 0, by omega, rfl, rfl, own_empty _ _ _, (Below.refl _ _).alloc (Nat.le_refl _) _⟩
  case round =>
    obtain ⟨k, A', c', hk, rfl, rfl, hown, hbr⟩ := hrel
    obtain ⟨wo, rfl⟩ : ∃ wo : World, wo = wr := ⟨_, rfl⟩
    have g1 : wo.cell? ⟨p.block, p.off + 1, none⟩ = some (.slice M m d) := (hbr.cell (p := ⟨p.block, p.off + 1, none⟩) hpl).trans hp1
    by_cases hlt : k < m
    · obtain ⟨ad, x, rfl, had, hx, hc⟩ := (hm.below hbr).rec_at Awy.clen (by omega) hlt
      obtain ⟨ho, ⟨xa1, xa2⟩, ⟨xb1, xb2⟩⟩ := HO.out.2.2 x (List.mem_of_getElem? hx)
      obtain ⟨ta, hta⟩ : ∃ t : Nat, x.a = t := ⟨x.a.toNat, by omega⟩
      obtain ⟨tb, htb⟩ : ∃ t : Nat, x.b = t := ⟨x.b.toNat, by omega⟩
      obtain ⟨la, hla, la1, la2⟩ := lst_at HL.out (k := ta) (by omega)
      obtain ⟨lb, hlb, lb1, lb2⟩ := lst_at HL.out (k := tb) (by omega)
      obtain ⟨t, htt, t1, t2⟩ := lst_at HT.out (k := k) (by rw [HLm.out]; omega)
      obtain ⟨af, rfl, haf, hna, hca⟩ := (hr1.below hbr).int_at hla
      obtain ⟨af', e1, _, hnb, hcb⟩ := (hr1.below hbr).int_at hlb
      injection e1 with e1
      subst e1
      obtain ⟨at_, rfl, hat0, hnt, hct⟩ := (hr2.below hbr).int_at htt
      have HS := Lib.hid (drTo_snoc hx htb hta hlb hla htt)
      obtain ⟨a0, a1, a2, a3, a4, a5, a6⟩ := Awy.open_ hc
      rw [hta] at a1
      rw [htb] at a2
      have hna' : (ta : Int) < (n1 : Int) := by omega
      have hnb' : (tb : Int) < (n1 : Int) := by omega
      have hnt' : (k : Int) < (n2 : Int) := by omega
      have hwd : IntKind.i64.wrap (lb - la) = lb - la := IntWalk.i64_in _ (by omega)
      have HC := Lib.hid (fun W : World => l09Column_any (lb - la) t W (by unfold inB; exact decide_eq_true (by omega)) (by unfold inB; exact decide_eq_true (by omega)))
      have hsz := hbr.size
      have bx2 : (⟨(ad.add (k * 7)).block, (ad.add (k * 7)).off + 2, none⟩ : Addr).block < w.heap.size := by show (ad.add (k * 7)).block < _; rw [block_of_add]; exact had
      have bx1 : (⟨(ad.add (k * 7)).block, (ad.add (k * 7)).off + 1, none⟩ : Addr).block < w.heap.size := by show (ad.add (k * 7)).block < _; rw [block_of_add]; exact had
      have bfb : (af.add tb).block < w.heap.size := by rw [block_of_add]; exact haf
      have bfa : (af.add ta).block < w.heap.size := by rw [block_of_add]; exact haf
      have bta : (at_.add k).block < w.heap.size := by rw [block_of_add]; exact hat0
      have HG : Hid (∀ {w6 : World} (p : Addr), ((wo.drew).alloc (.cells #[.int .i64 (columnT (lb - la) t)] 2)).grownBy w6 (Value.ownBlock (.slice A' k c')) → p.block < w.heap.size → w6.cell? p = wo.cell? p) := fun p hgrow hp => by
        have h1 := ((below_drew (Below.refl w.heap.size wo)).alloc hsz (.cells #[.int .i64 (columnT (lb - la) t)] 2)).grown hgrow (by simp; omega) fun q hq => (((hown.drew).alloc (.cells #[.int .i64 (columnT (lb - la) t)] 2)).lt q hq).1
        exact h1.cell hp
      clear hx hc hta htb hla hlb ho htt
      go_wp2
      go_region_held3 (fun w' => w'.cell? ⟨(ad.add (k * 7)).block, (ad.add (k * 7)).off + 2, none⟩ = some (.int .i64 tb) ∧ w'.cell? ⟨(ad.add (k * 7)).block, (ad.add (k * 7)).off + 1, none⟩ = some (.int .i64 ta) ∧ w'.cell? (af.add tb) = some (.int .i64 lb) ∧ w'.cell? (af.add ta) = some (.int .i64 la) ∧ w'.cell? (at_.add k) = some (.int .i64 t))
        (first | go_keep | (exact ⟨(HG.out (⟨(ad.add (k * 7)).block, (ad.add (k * 7)).off + 2, none⟩) hgrow bx2).trans a2, (HG.out (⟨(ad.add (k * 7)).block, (ad.add (k * 7)).off + 1, none⟩) hgrow bx1).trans a1, (HG.out _ hgrow bfb).trans hcb, (HG.out _ hgrow bfa).trans hca, (HG.out _ hgrow bta).trans hct⟩))
        ((first | (refine step_append_lies _ (by rfl) _ _ _ (by rfl) w.heap.size 2 i0 _ 1 8 Try.underlying25 hi0 hz0 hz1 hz2 rfl (by omega) (.slice A' k c') k (ints (drTo xs ls ts k)) (by rfl) ((hown.drew).alloc _) ⟨wo.heap.size, 0, none⟩ 1 1 [.int .i64 (columnT (lb - la) t)] (by rfl) (by rfl) (World.news_of_block (cs := #[.int .i64 (columnT (lb - la) t)]) (t := 2) (fr := (0, 0)) (heap_alloc_new wo.drew _)) (by simp [Value.oneCell']) (by omega) (by unfold maxLen; omega) (by omega) (by simp; omega) (wo.heap.size + 1) (by simp) ?_; intro gg cap w6 ho6 hgrow hat hlt6) | (go_simp; go_at_call 94; refine (HC.out _).mono ?_; rintro e w' ⟨rfl, rfl⟩)))
      have hdr := (below_drew hbr).alloc (by show _ ≤ wo.heap.size; omega) (.cells #[.int .i64 (columnT (lb - la) t)] 2)
      have hb6 : Below w.heap.size w w6 := hdr.grown hgrow (by simp; omega) fun q hq => (((hown.drew).alloc (.cells #[.int .i64 (columnT (lb - la) t)] 2)).lt q hq).1
      go_wp2
      go_roundw
      case rel => exact ⟨k + 1, _, _, by omega, by first | rfl | go_num, by go_num, by rw [HS.out]; simpa [ints] using ho6, hb6⟩
      case measure => simp [intOf]; omega
    · have e : k = m := by omega
      subst e
      go_wp2
      go_ret
      exact ⟨A', c', rfl, hown, hm24, hbr⟩
set_option maxHeartbeats 1600000 in
set_option maxRecDepth 100000 in
theorem draughts_any (J : Int) (M : Option Addr) (m d : Nat) (xs : List Awy) (A1 : Option Addr) (n1 c1 : Nat) (ls : List Int) (A2 : Option Addr) (n2 c2 : Nat) (ts : List Int) (w : World) (hm0 : Reads w w.heap.size 7 M m (Awy.recs xs))
    (hr10 : Reads w w.heap.size 1 A1 n1 (ints ls)) (hr20 : Reads w w.heap.size 1 A2 n2 (ints ts)) (hok : mineOk J xs = true) (hl : lstOk J (-3000) 3000 ls = true) (ht : lstOk xs.length (-300) 600 ts = true) :
    Calls Try.prog 45 #[.agg #[.int .i64 J, .slice M m d], .slice A1 n1 c1, .slice A2 n2 c2] w fun e w' => ∃ A' c', e = .returned (.slice A' m c') ∧ w'.ownsRow w.heap.size 2 1 (.slice A' m c') m (ints (drTo xs ls ts m)) ∧ m ≤ 24 ∧ Below w.heap.size w w' := by
  obtain ⟨i0, hi0, hz0, hz1, hz2⟩ := info_parts info_Int64S
  have HLm := Lib.hid (recs_rlen Awy.clen (by omega) hm0)
  have HO := Lib.hid (mineOk_t hok)
  have HL := Lib.hid hl
  have HT := Lib.hid ht
  have hm24 : m ≤ 24 := by have := HO.out.2.1; rw [HLm.out] at this; exact this
  have hb0 : Below w.heap.size w (w.alloc (.cells #[.int .i64 J, .slice M m d] 31)) := (Below.refl _ _).alloc (Nat.le_refl _) _
  have hm : Reads (w.alloc (.cells #[.int .i64 J, .slice M m d] 31)) (w.heap.size + 1) 7 M m (Awy.recs xs) := (hm0.below hb0).more (by omega)
  have hr1 : Reads (w.alloc (.cells #[.int .i64 J, .slice M m d] 31)) (w.heap.size + 1) 1 A1 n1 (ints ls) := (hr10.below hb0).more (by omega)
  have hr2 : Reads (w.alloc (.cells #[.int .i64 J, .slice M m d] 31)) (w.heap.size + 1) 1 A2 n2 (ints ts) := (hr20.below hb0).more (by omega)
  clear hok hl ht
  go_enter Try.func45, Try.ntmps45
  go_wp2
  go_loopw [7, 13] (fun o i wr => ∃ (k : Nat) (A' : Option Addr) (c' : Nat), k ≤ m ∧ o = .slice A' k c' ∧ i = .int .i64 k ∧ wr.ownsRow (w.heap.size + 1) 2 1 (.slice A' k c') k (ints (drTo xs ls ts k)) ∧ Below (w.heap.size + 1) (w.alloc (.cells #[.int .i64 J, .slice M m d] 31)) wr) (fun _ i _ => m - (intOf i).toNat)
  case atStart => exact ⟨0, none, 0, by omega, rfl, rfl, own_nil _ _ _ _, Below.refl _ _⟩
  case round =>
    obtain ⟨k, A', c', hk, rfl, rfl, hown, hbr⟩ := hrel
    obtain ⟨wo, rfl⟩ : ∃ wo : World, wo = wr := ⟨_, rfl⟩
    have zo : w.heap.size + 1 ≤ wo.heap.size := by have h := hbr.size; simp at h; omega
    by_cases hlt : k < m
    · obtain ⟨ad, x, rfl, had, hx, hc⟩ := (hm.below hbr).rec_at Awy.clen (by omega) hlt
      obtain ⟨ho, ⟨xa1, xa2⟩, ⟨xb1, xb2⟩⟩ := HO.out.2.2 x (List.mem_of_getElem? hx)
      obtain ⟨ta, hta⟩ : ∃ t : Nat, x.a = t := ⟨x.a.toNat, by omega⟩
      obtain ⟨tb, htb⟩ : ∃ t : Nat, x.b = t := ⟨x.b.toNat, by omega⟩
      obtain ⟨la, hla, la1, la2⟩ := lst_at HL.out (k := ta) (by omega)
      obtain ⟨lb, hlb, lb1, lb2⟩ := lst_at HL.out (k := tb) (by omega)
      obtain ⟨t, htt, t1, t2⟩ := lst_at HT.out (k := k) (by rw [HLm.out]; omega)
      obtain ⟨af, rfl, haf, hna, hca⟩ := (hr1.below hbr).int_at hla
      obtain ⟨af', e1, _, hnb, hcb⟩ := (hr1.below hbr).int_at hlb
      injection e1 with e1
      subst e1
      obtain ⟨at_, rfl, hat0, hnt, hct⟩ := (hr2.below hbr).int_at htt
      have HS := Lib.hid (drTo_snoc hx htb hta hlb hla htt)
      obtain ⟨a0, a1, a2, a3, a4, a5, a6⟩ := Awy.open_ hc
      rw [hta] at a1
      rw [htb] at a2
      have hna' : (ta : Int) < (n1 : Int) := by omega
      have hnb' : (tb : Int) < (n1 : Int) := by omega
      have hnt' : (k : Int) < (n2 : Int) := by omega
      have hwd : IntKind.i64.wrap (lb - la) = lb - la := IntWalk.i64_in _ (by omega)
      have F1 : (wo.alloc (.cells #[.string x.s, .int .i64 ta, .int .i64 tb, .int .i64 x.l, .int .i64 x.c, .int .i64 x.f, .int .i64 x.h] 99)).cell? ⟨wo.heap.size, 1, none⟩ = some (.int .i64 ta) := ((Blk.new wo _ _).cell 1).trans rfl
      have F2 : (wo.alloc (.cells #[.string x.s, .int .i64 ta, .int .i64 tb, .int .i64 x.l, .int .i64 x.c, .int .i64 x.f, .int .i64 x.h] 99)).cell? ⟨wo.heap.size, 2, none⟩ = some (.int .i64 tb) := ((Blk.new wo _ _).cell 2).trans rfl
      have F4 : (wo.alloc (.cells #[.string x.s, .int .i64 ta, .int .i64 tb, .int .i64 x.l, .int .i64 x.c, .int .i64 x.f, .int .i64 x.h] 99)).cell? (af.add ta) = some (.int .i64 la) := (World.cell?_alloc_lt _ _ _ (block_lt_of_cell hca)).trans hca
      have F5 : (wo.alloc (.cells #[.string x.s, .int .i64 ta, .int .i64 tb, .int .i64 x.l, .int .i64 x.c, .int .i64 x.f, .int .i64 x.h] 99)).cell? (af.add tb) = some (.int .i64 lb) := (World.cell?_alloc_lt _ _ _ (block_lt_of_cell hcb)).trans hcb
      have F6 : (wo.alloc (.cells #[.string x.s, .int .i64 ta, .int .i64 tb, .int .i64 x.l, .int .i64 x.c, .int .i64 x.f, .int .i64 x.h] 99)).cell? (at_.add k) = some (.int .i64 t) := (World.cell?_alloc_lt _ _ _ (block_lt_of_cell hct)).trans hct
      have HC := Lib.hid (fun W : World => columnDraught_any (lb - la) t W (by unfold inB; exact decide_eq_true (by omega)) (by unfold inB; exact decide_eq_true (by omega)))
      have hsz := hbr.size
      have hown1 : (wo.alloc (.cells #[.string x.s, .int .i64 ta, .int .i64 tb, .int .i64 x.l, .int .i64 x.c, .int .i64 x.f, .int .i64 x.h] 99)).ownsRow (w.heap.size + 1) 2 1 (.slice A' k c') k (ints (drTo xs ls ts k)) := hown.alloc _
      have hbr1 := hbr.alloc zo (.cells #[.string x.s, .int .i64 ta, .int .i64 tb, .int .i64 x.l, .int .i64 x.c, .int .i64 x.f, .int .i64 x.h] 99)
      have bfb : (af.add tb).block < w.heap.size + 1 := by rw [block_of_add]; exact haf
      have bfa : (af.add ta).block < w.heap.size + 1 := by rw [block_of_add]; exact haf
      have bta : (at_.add k).block < w.heap.size + 1 := by rw [block_of_add]; exact hat0
      have hwob : ∀ q, Value.ownBlock (.slice A' k c') = some q → w.heap.size + 1 ≤ q ∧ q < wo.heap.size := fun q hq => hown.lt q hq
      clear hx hc hta htb hla hlb ho htt hca hcb hct
      go_wp2
      have HSZ1 : Hid ((wo.alloc (.cells #[.string x.s, .int .i64 ta, .int .i64 tb, .int .i64 x.l, .int .i64 x.c, .int .i64 x.f, .int .i64 x.h] 99)).heap.size = wo.heap.size + 1) := show _ = _ by simp
      generalize hW1 : wo.alloc (.cells #[.string x.s, .int .i64 ta, .int .i64 tb, .int .i64 x.l, .int .i64 x.c, .int .i64 x.f, .int .i64 x.h] 99) = wb at *
      have HG : Hid (∀ {w6 : World} {p : Addr} {v : Value} (nn : Nat), ((wb.drewN (1 + nn)).alloc (.cells #[.int .i64 (columnT (lb - la) t)] 2)).grownBy w6 (Value.ownBlock (.slice A' k c')) → (∀ q, w.heap.size + 1 ≤ q ∧ q < wo.heap.size → q ≠ p.block) → wb.cell? p = some v → w6.cell? p = some v) := fun nn hgrow hq hc => by
        have hpl := block_lt_of_cell hc
        have hs1 := HSZ1.out
        have h1 := hgrow.cell_far _ (show _ < ((wb.drewN (1 + nn)).alloc (.cells #[.int .i64 (columnT (lb - la) t)] 2)).heap.size by simp; omega) (fun e => hq _ (hwob _ e.symm) rfl)
        rw [h1]
        exact (World.cell?_alloc_lt _ _ _ (show _ < (wb.drewN (1 + nn)).heap.size from hpl)).trans hc
      go_region_held3 (fun w' => w'.cell? ⟨wo.heap.size, 2, none⟩ = some (.int .i64 tb) ∧ w'.cell? ⟨wo.heap.size, 1, none⟩ = some (.int .i64 ta) ∧ w'.cell? (af.add tb) = some (.int .i64 lb) ∧ w'.cell? (af.add ta) = some (.int .i64 la) ∧ w'.cell? (at_.add k) = some (.int .i64 t))
        (first | go_keep | (exact ⟨HG.out nn hgrow (fun q hq => by show q ≠ wo.heap.size; omega) F2, HG.out nn hgrow (fun q hq => by show q ≠ wo.heap.size; omega) F1, HG.out nn hgrow (fun q hq => by omega) F5, HG.out nn hgrow (fun q hq => by omega) F4, HG.out nn hgrow (fun q hq => by omega) F6⟩))
        ((first | (refine step_append_lies _ (by rfl) _ _ _ (by rfl) (w.heap.size + 1) 2 i0 _ 1 8 Try.underlying25 hi0 hz0 hz1 hz2 rfl (by omega) (.slice A' k c') k (ints (drTo xs ls ts k)) (by rfl) ((own_drewN hown1 (1 + nn)).alloc _) ⟨wb.heap.size, 0, none⟩ 1 1 [.int .i64 (columnT (lb - la) t)] (by rfl) (by rfl) (World.news_of_block (cs := #[.int .i64 (columnT (lb - la) t)]) (t := 2) (fr := (0, 0)) (heap_alloc_new (wb.drewN (1 + nn)) _)) (by simp [Value.oneCell']) (by omega) (by unfold maxLen; omega) (by omega) (by have := HSZ1.out; simp; omega) (wb.heap.size + 1) (by simp) ?_; intro gg cap w6 ho6 hgrow hat hlt6) | (go_simp; go_at_call 100; refine (HC.out _).mono ?_; rintro e w' ⟨rfl, nn, rfl⟩)))
      have hdr := (below_drewN hbr1 (1 + nn)).alloc (by have := HSZ1.out; show _ ≤ wb.heap.size; omega) (.cells #[.int .i64 (columnT (lb - la) t)] 2)
      have hb6 := hdr.grown hgrow (by have := HSZ1.out; simp; omega) fun q hq => (((own_drewN hown1 (1 + nn)).alloc (.cells #[.int .i64 (columnT (lb - la) t)] 2)).lt q hq).1
      go_wp2
      go_roundw
      case rel => exact ⟨k + 1, _, _, by omega, by first | rfl | go_num, by go_num, by rw [HS.out]; simpa [ints] using ho6, hb6⟩
      case measure => simp [intOf]; omega
    · have e : k = m := by omega
      subst e
      go_wp2
      go_ret
      exact ⟨A', c', rfl, own_base hown (by omega), hm24, hb0.trans (hbr.mono (by omega))⟩
end Go.Proofs.Ytjmhhbjbmgpagaa

/- Contracts of WarmAirways. -/
namespace Go.Proofs.Ytjmhhbjbmgpagaa
set_option linter.unusedVariables false
set_option linter.unusedSimpArgs false
open Go.RowKit
def incAt (as_ : List Int) (k : Nat) : Bool := decide (k = 0) || decide (as_.getD (k - 1) 0 < as_.getD k 0)
def incOk (as_ : List Int) : Bool := allUpto as_.length (incAt as_)
def riAt (as_ : List Int) (l h : Int) (k : Nat) : Bool := inB (as_.getD k 0) l h && incAt as_ k
def risesOk (as_ : List Int) (l h : Int) : Bool := allUpto as_.length (riAt as_ l h)
theorem getD_of {as_ : List Int} {k : Nat} {a : Int} (h : as_[k]? = some a) : as_.getD k 0 = a := by rw [List.getD_eq_getElem?_getD, h]; rfl
theorem incAt_z (as_ : List Int) : incAt as_ 0 = true := rfl
theorem incAt_s {as_ : List Int} {k j : Nat} {a b : Int} (hk : k = j + 1) (ha : as_[k]? = some a) (hb : as_[j]? = some b) : incAt as_ k = decide (b < a) := by
  unfold incAt
  rw [decide_eq_false (show ¬ k = 0 by omega), Bool.false_or, getD_of ha, show k - 1 = j by omega, getD_of hb]
theorem riAt_eq {as_ : List Int} {k : Nat} {a l h : Int} (ha : as_[k]? = some a) : riAt as_ l h k = (inB a l h && incAt as_ k) := by unfold riAt; rw [getD_of ha]
theorem rises_eq (as_ : List Int) (l h : Int) : risesOk as_ l h = (incOk as_ && allIn l h as_) := by
  rw [Bool.eq_iff_iff, Bool.and_eq_true]
  constructor
  · intro e
    refine ⟨allUpto_t fun k hk => ?_, ?_⟩
    · have := allUpto_get e hk
      unfold riAt at this
      rw [Bool.and_eq_true] at this
      exact this.2
    · unfold allIn
      rw [List.all_eq_true]
      intro x hx
      obtain ⟨k, hk⟩ := List.getElem?_of_mem hx
      have hkl : k < as_.length := by
        rcases Nat.lt_or_ge k as_.length with h1 | h1
        · exact h1
        · rw [List.getElem?_eq_none h1] at hk; cases hk
      have := allUpto_get e hkl
      rw [riAt_eq hk, Bool.and_eq_true] at this
      exact this.1
  · rintro ⟨h1, h2⟩
    refine allUpto_t fun k hk => ?_
    have hx : as_[k]? = some as_[k] := List.getElem?_eq_getElem hk
    rw [riAt_eq hx, Bool.and_eq_true]
    exact ⟨all_mem (p := fun x => inB x l h) h2 (List.getElem_mem hk), allUpto_get h1 hk⟩
theorem rises_mem {as_ : List Int} {l h : Int} (e : risesOk as_ l h = true) {k : Nat} {a : Int} (ha : as_[k]? = some a) : l ≤ a ∧ a ≤ h := by
  rw [rises_eq, Bool.and_eq_true] at e
  exact allIn_mem e.2 (List.mem_of_getElem? ha)
def wmTo (ts as_ : List Int) (q : Int) : Nat → List Int
  | 0 => ts
  | k + 1 => (wmTo ts as_ q k).set (as_.getD k 0).toNat ((wmTo ts as_ q k).getD (as_.getD k 0).toNat 0 + q)
theorem wmTo_len (ts as_ : List Int) (q : Int) : ∀ k, (wmTo ts as_ q k).length = ts.length
  | 0 => rfl
  | k + 1 => by simp only [wmTo]; rw [List.length_set]; exact wmTo_len ts as_ q k
theorem wmTo_snoc {ts as_ : List Int} {q a : Int} {k i : Nat} (h : as_[k]? = some a) (ha : a = (i : Int)) : wmTo ts as_ q (k + 1) = (wmTo ts as_ q k).set i ((wmTo ts as_ q k).getD i 0 + q) := by
  simp only [wmTo]; rw [getD_of h, ha, Int.toNat_natCast]
theorem wmTo_bnd {ts as_ : List Int} {q : Int} (hts : ∀ t ∈ ts, -300 ≤ t ∧ t ≤ 600) (q1 : -900 ≤ q) (q2 : q ≤ 900) : ∀ k i : Nat, -(600 + 900 * (k : Int)) ≤ (wmTo ts as_ q k).getD i 0 ∧ (wmTo ts as_ q k).getD i 0 ≤ 600 + 900 * k
  | 0, i => by
    simp only [wmTo, List.getD_eq_getElem?_getD]
    cases e : ts[i]? with
    | none => simp
    | some t => have := hts t (List.mem_of_getElem? e); simp; omega
  | k + 1, i => by
    have ih := wmTo_bnd (as_ := as_) hts q1 q2 k
    simp only [wmTo]
    have h1 := ih i
    have h2 := ih (as_.getD k 0).toNat
    rw [List.getD_eq_getElem?_getD (l := List.set _ _ _), List.getElem?_set]
    split
    · split
      · simp only [Option.getD_some]; omega
      · simp; omega
    · rw [← List.getD_eq_getElem?_getD]; omega
def wmR (J : Int) (xs : List Awy) (ts as_ : List Int) (q : Int) : List Int × Int :=
  if mineOk J xs = true then (if inB q (-900) 900 = true then (if (lstOk xs.length (-300) 600 ts && risesOk as_ 0 ((xs.length : Int) - 1)) = true then
    (if lstOk xs.length (-300) 600 (wmTo ts as_ q as_.length) = true then (wmTo ts as_ q as_.length, 0) else ([], 6)) else ([], 7)) else ([], 2)) else ([], 1)
section
variable {J : Int} {xs : List Awy} {ts as_ : List Int} {q : Int}
theorem wmR_1 (h : mineOk J xs = false) : wmR J xs ts as_ q = ([], 1) := by unfold wmR; rw [h]; rfl
theorem wmR_2 (h : mineOk J xs = true) (h1 : inB q (-900) 900 = false) : wmR J xs ts as_ q = ([], 2) := by unfold wmR; rw [h, h1]; rfl
theorem wmR_3 (h : mineOk J xs = true) (h1 : inB q (-900) 900 = true) (h2 : (lstOk xs.length (-300) 600 ts && risesOk as_ 0 ((xs.length : Int) - 1)) = false) : wmR J xs ts as_ q = ([], 7) := by unfold wmR; rw [h, h1, h2]; rfl
theorem wmR_4 (h : mineOk J xs = true) (h1 : inB q (-900) 900 = true) (h2 : (lstOk xs.length (-300) 600 ts && risesOk as_ 0 ((xs.length : Int) - 1)) = true) (h3 : lstOk xs.length (-300) 600 (wmTo ts as_ q as_.length) = false) : wmR J xs ts as_ q = ([], 6) := by unfold wmR; rw [h, h1, h2, h3]; rfl
theorem wmR_5 (h : mineOk J xs = true) (h1 : inB q (-900) 900 = true) (h2 : (lstOk xs.length (-300) 600 ts && risesOk as_ 0 ((xs.length : Int) - 1)) = true) (h3 : lstOk xs.length (-300) 600 (wmTo ts as_ q as_.length) = true) : wmR J xs ts as_ q = (wmTo ts as_ q as_.length, 0) := by unfold wmR; rw [h, h1, h2, h3]; rfl
end
/-- An owned row of numbers is a block. -/
theorem own_blk {w : World} {base e n c : Nat} {A : Option Addr} {xs : List Int} (h : w.ownsRow base e 1 (.slice A n c) n (ints xs)) (hn : 0 < n) :
    ∃ g cur, A = some ⟨g, 0, none⟩ ∧ base ≤ g ∧ Blk w g e cur ∧ n ≤ c ∧ c ≤ maxLen ∧ cur.size = c ∧ cur.toList.take n = ints xs := by
  rcases h.2 with ⟨_, h0⟩ | ⟨g, cap, cur, hv, hbg, hgb, hnc, hcm, hcs, htake⟩
  · omega
  · injection hv with hA _ hc
    subst hA
    subst hc
    exact ⟨g, cur, rfl, hbg, hgb, hnc, hcm, by omega, by simpa using htake⟩
theorem blk_own {w : World} {base g e n c : Nat} {cur : Array Value} {xs : List Int} (hb : Blk w g e cur) (hbg : base ≤ g) (hnc : n ≤ c) (hcm : c ≤ maxLen) (hcs : cur.size = c) (hl : xs.length = n) (ht : cur.toList.take n = ints xs) :
    w.ownsRow base e 1 (.slice (some ⟨g, 0, none⟩) n c) n (ints xs) := ⟨by simp [ints, hl], .inr ⟨g, c, cur, rfl, hbg, hb, hnc, hcm, by omega, by simpa using ht⟩⟩
theorem take_set_ints {cur : Array Value} {n j : Nat} {xs : List Int} {v : Int} (ht : cur.toList.take n = ints xs) : (cur.setIfInBounds j (.int .i64 v)).toList.take n = ints (xs.set j v) := by
  rw [Array.toList_setIfInBounds, List.take_set, ht]
  unfold ints
  rw [List.map_set]
theorem blk_int {w : World} {g e n j : Nat} {cur : Array Value} {xs : List Int} {v : Int} (hb : Blk w g e cur) (ht : cur.toList.take n = ints xs) (hl : xs.length = n) (hj : xs[j]? = some v) : w.cell? ⟨g, j, none⟩ = some (.int .i64 v) := by
  have hjl : j < n := by
    rcases Nat.lt_or_ge j n with h1 | h1
    · exact h1
    · rw [List.getElem?_eq_none (by omega)] at hj; cases hj
  have h1 : (cur.toList.take n)[j]? = (ints xs)[j]? := by rw [ht]
  rw [List.getElem?_take, if_pos hjl, Array.getElem?_toList] at h1
  rw [hb.cell j, h1]
  unfold ints
  rw [List.getElem?_map, hj]; rfl
set_option maxHeartbeats 400000 in
theorem l00Own_any (A : Option Addr) (n c : Nat) (xs : List Int) (w : World) (hr : Reads w w.heap.size 1 A n (ints xs)) (hn : n ≤ 1048576) :
    Calls Try.prog 78 #[.slice A n c] w fun e w' => ∃ A' c', e = .returned (.slice A' n c') ∧ w'.ownsRow w.heap.size 2 1 (.slice A' n c') n (ints xs) ∧ Below w.heap.size w w' := by
  obtain ⟨i0, hi0, hz0, hz1, hz2⟩ := info_parts info_Int64S
  have HL := Lib.hid (ints_len hr)
  have hrb := fun (o : Obj) => (hr.alloc (Nat.le_refl _) o)
  go_enter Try.func78, Try.ntmps78
  go_wp2_with (at_builtin; refine wpList_append_any _ rfl _ _ 25 rfl w.heap.size 2 i0 _ 1 8 Try.underlying25 hi0 hz0 hz1 hz2 rfl (by omega) _ 0 [] rfl (own_empty _ _ _) w.heap.size A n c (ints xs) rfl (hrb _) (ints_one xs) (by unfold maxLen; omega) (by omega) (by simp) ?_; intro v' w1 ho1 hg1 ha1)
  obtain ⟨A', c', rfl⟩ := own_shape ho1
  have hb1 : Below w.heap.size w w1 := ((Below.refl _ _).alloc (Nat.le_refl _) _).grown hg1 (by simp) fun k hk => ((own_empty w 2 1).lt k hk).1
  go_ret
  simp only [Nat.zero_add, List.nil_append] at ho1
  exact ⟨A', c', by simp, ho1, hb1⟩
end Go.Proofs.Ytjmhhbjbmgpagaa

/- The pressure of a fan: plain laws. -/
namespace Go.Proofs.Ytjmhhbjbmgpagaa
set_option linter.unusedVariables false
set_option linter.unusedSimpArgs false
/-- A number on a line through two points, or that of the nearer end. -/
def lineT (x0 y0 x1 y1 x : Int) : Int := if x ≤ x0 ∨ x1 ≤ x0 then y0 else if x1 ≤ x then y1 else y0 + dr ((y1 - y0) * (x - x0)) (x1 - x0)
theorem lineT_0 {x0 y0 x1 y1 x : Int} (h : x ≤ x0) : lineT x0 y0 x1 y1 x = y0 := by unfold lineT; rw [if_pos (.inl h)]
theorem lineT_1 {x0 y0 x1 y1 x : Int} (h0 : x0 < x1) (h : x1 ≤ x) : lineT x0 y0 x1 y1 x = y1 := by unfold lineT; rw [if_neg (by omega), if_pos h]
theorem lineT_m {x0 y0 x1 y1 x : Int} (h0 : x0 < x) (h : x < x1) : lineT x0 y0 x1 y1 x = y0 + dr ((y1 - y0) * (x - x0)) (x1 - x0) := by unfold lineT; rw [if_neg (by omega), if_neg (by omega)]
theorem dr_mul {a c : Int} (hc : 0 < c) : dr (a * c) c = a := by
  have h1 := dr_scale (a := a * c) (b := c) (m := a) hc
  unfold dr
  by_cases ha : a * c < 0
  · rw [if_pos ha]
    have e : c - 2 * (a * c) = c + (-a) * (2 * c) := by
      rw [Int.neg_mul, Int.mul_left_comm]; omega
    rw [e, Int.add_mul_ediv_right _ _ (by omega), Int.ediv_eq_zero_of_lt (by omega) (by omega)]
    omega
  · rw [if_neg ha]
    have e : 2 * (a * c) + c = c + a * (2 * c) := by rw [Int.mul_left_comm]; omega
    rw [e, Int.add_mul_ediv_right _ _ (by omega), Int.ediv_eq_zero_of_lt (by omega) (by omega)]
    omega
theorem dr_zero {c : Int} (hc : 0 < c) : dr 0 c = 0 := by have := dr_mul (a := 0) hc; rwa [Int.zero_mul] at this
theorem lineT_bnd {x0 y0 x1 y1 x : Int} (h0 : x0 < x1) (hy : y1 ≤ y0) : y1 ≤ lineT x0 y0 x1 y1 x ∧ lineT x0 y0 x1 y1 x ≤ y0 := by
  rcases Int.lt_or_le x0 x with h1 | h1
  · rcases Int.lt_or_le x x1 with h2 | h2
    · rw [lineT_m h1 h2]
      have e1 : (y1 - y0) * (x1 - x0) ≤ (y1 - y0) * (x - x0) := Int.mul_le_mul_of_nonpos_left (by omega) (by omega)
      have e2 : (y1 - y0) * (x - x0) ≤ 0 := Int.mul_nonpos_of_nonpos_of_nonneg (by omega) (by omega)
      have e3 := dr_mono (c := x1 - x0) (by omega) e1
      have e4 := dr_mono (c := x1 - x0) (by omega) e2
      rw [dr_mul (by omega)] at e3
      rw [dr_zero (by omega)] at e4
      omega
    · rw [lineT_1 h0 h2]; omega
  · rw [lineT_0 h1]; omega
theorem lineT_mono {x0 y0 x1 y1 x x' : Int} (h0 : x0 < x1) (hy : y1 ≤ y0) (h : x ≤ x') : lineT x0 y0 x1 y1 x' ≤ lineT x0 y0 x1 y1 x := by
  rcases Int.lt_or_le x0 x with h1 | h1
  · rcases Int.lt_or_le x' x1 with h2 | h2
    · rw [lineT_m h1 (by omega), lineT_m (by omega) h2]
      have e1 : (y1 - y0) * (x' - x0) ≤ (y1 - y0) * (x - x0) := Int.mul_le_mul_of_nonpos_left (by omega) (by omega)
      have e3 := dr_mono (c := x1 - x0) (by omega) e1
      omega
    · rw [lineT_1 h0 h2]; exact (lineT_bnd h0 hy).1
  · rw [lineT_0 h1]; exact (lineT_bnd h0 hy).2
end Go.Proofs.Ytjmhhbjbmgpagaa

/- The pressure of a fan at a flow: plain laws. -/
namespace Go.Proofs.Ytjmhhbjbmgpagaa
set_option linter.unusedVariables false
set_option linter.unusedSimpArgs false
/-- The index of the point behind a flow, from k on. -/
def segOf (cs : List (List Int)) (q : Int) : Nat → Nat → Nat
  | 0, k => k
  | f + 1, k => if k + 1 < cs.length ∧ lockA cs k < q then segOf cs q f (k + 1) else k
def linAt (cs : List (List Int)) (k : Nat) (q : Int) : Int := lineT (lockA cs (k - 1)) (lockB cs (k - 1)) (lockA cs k) (lockB cs k) q
def prT (cs : List (List Int)) (q : Int) : Int := linAt cs (segOf cs q cs.length 1) q
theorem seg_skip {cs : List (List Int)} {q : Int} : ∀ (f k j : Nat), j ≤ f → (∀ i, k ≤ i → i < k + j → i + 1 < cs.length ∧ lockA cs i < q) → segOf cs q f k = segOf cs q (f - j) (k + j)
  | f, k, 0, _, _ => by simp
  | 0, k, j + 1, h, _ => by omega
  | f + 1, k, j + 1, h, hp => by
    have h1 := hp k (Nat.le_refl _) (by omega)
    simp only [segOf]
    rw [if_pos h1, seg_skip f (k + 1) j (by omega) (fun i hi hj => hp i (by omega) (by omega)), show f + 1 - (j + 1) = f - j by omega, show k + 1 + j = k + (j + 1) by omega]
theorem seg_stop {cs : List (List Int)} {q : Int} {f k : Nat} (h : ¬ (k + 1 < cs.length ∧ lockA cs k < q)) : segOf cs q f k = k := by
  cases f with
  | zero => rfl
  | succ f => simp only [segOf]; rw [if_neg h]
theorem prT_at {cs : List (List Int)} {q : Int} {k : Nat} (h1 : 1 ≤ k) (hk : k + 1 ≤ cs.length) (hb : ∀ j, 1 ≤ j → j < k → lockA cs j < q) (he : k + 1 = cs.length ∨ q ≤ lockA cs k) : prT cs q = linAt cs k q := by
  unfold prT
  rw [seg_skip cs.length 1 (k - 1) (by omega) (fun i hi hj => ⟨by omega, hb i hi (by omega)⟩), show 1 + (k - 1) = k by omega, seg_stop (by omega)]
theorem seg_ex (cs : List (List Int)) (q : Int) (h2 : 2 ≤ cs.length) : ∃ k, 1 ≤ k ∧ k + 1 ≤ cs.length ∧ (∀ j, 1 ≤ j → j < k → lockA cs j < q) ∧ (k + 1 = cs.length ∨ q ≤ lockA cs k) := by
  have key : ∀ d k : Nat, k + d + 1 = cs.length → 1 ≤ k → (∀ j, 1 ≤ j → j < k → lockA cs j < q) → ∃ k, 1 ≤ k ∧ k + 1 ≤ cs.length ∧ (∀ j, 1 ≤ j → j < k → lockA cs j < q) ∧ (k + 1 = cs.length ∨ q ≤ lockA cs k) := by
    intro d
    induction d with
    | zero => intro k hk h1 hb; exact ⟨k, h1, by omega, hb, .inl (by omega)⟩
    | succ d ih =>
      intro k hk h1 hb
      rcases Int.lt_or_le (lockA cs k) q with h | h
      · refine ih (k + 1) (by omega) (by omega) fun j hj1 hj => ?_
        rcases Nat.lt_succ_iff_lt_or_eq.1 hj with h3 | rfl
        · exact hb j hj1 h3
        · exact h
      · exact ⟨k, h1, by omega, hb, .inr h⟩
  exact key (cs.length - 2) 1 (by omega) (by omega) fun j h1 h2 => by omega
section
variable {cs : List (List Int)}
theorem crv_step (h : crvOk cs = true) {k : Nat} (h1 : 1 ≤ k) (hk : k < cs.length) : lockA cs (k - 1) < lockA cs k ∧ lockB cs k ≤ lockB cs (k - 1) := by
  obtain ⟨_, _, hc⟩ := crvOk_t h
  rcases (crv_t (hc k hk)).2.2.2.2.2 with h0 | h0
  · omega
  · exact h0
theorem crv_num (h : crvOk cs = true) {k : Nat} (hk : k < cs.length) : (0 ≤ lockA cs k ∧ lockA cs k ≤ 100000) ∧ 0 ≤ lockB cs k ∧ lockB cs k ≤ 10000 := by
  obtain ⟨_, _, hc⟩ := crvOk_t h
  obtain ⟨_, a, b, c, d, _⟩ := crv_t (hc k hk)
  exact ⟨⟨a, b⟩, c, d⟩
theorem lockB_mono (h : crvOk cs = true) : ∀ (d k : Nat), k + d < cs.length → lockB cs (k + d) ≤ lockB cs k
  | 0, k, _ => Int.le_refl _
  | d + 1, k, hk => by
    have h1 := lockB_mono h d k (by omega)
    have h2 := (crv_step h (k := k + d + 1) (by omega) (by omega)).2
    rw [show k + d + 1 - 1 = k + d by omega] at h2
    exact Int.le_trans h2 h1
theorem linAt_bnd (h : crvOk cs = true) {k : Nat} {q : Int} (h1 : 1 ≤ k) (hk : k < cs.length) : lockB cs k ≤ linAt cs k q ∧ linAt cs k q ≤ lockB cs (k - 1) :=
  lineT_bnd (crv_step h h1 hk).1 (crv_step h h1 hk).2
theorem prT_bnd (h : crvOk cs = true) (q : Int) : 0 ≤ prT cs q ∧ prT cs q ≤ 10000 := by
  obtain ⟨k, h1, h2, h3, h4⟩ := seg_ex cs q (crvOk_t h).1
  rw [prT_at h1 h2 h3 h4]
  have h5 := linAt_bnd (q := q) h h1 (by omega)
  have h6 := crv_num h (k := k) (by omega)
  have h7 := crv_num h (k := k - 1) (by omega)
  omega
theorem prT_mono (h : crvOk cs = true) {q q' : Int} (hq : q ≤ q') : prT cs q' ≤ prT cs q := by
  obtain ⟨k, h1, h2, h3, h4⟩ := seg_ex cs q (crvOk_t h).1
  obtain ⟨k', h1', h2', h3', h4'⟩ := seg_ex cs q' (crvOk_t h).1
  rw [prT_at h1 h2 h3 h4, prT_at h1' h2' h3' h4']
  rcases Nat.lt_trichotomy k k' with hk | rfl | hk
  · have h5 := linAt_bnd (q := q) h h1 (by omega)
    have h6 := linAt_bnd (q := q') h h1' (by omega)
    have h7 := lockB_mono h (k' - 1 - k) k (by omega)
    rw [show k + (k' - 1 - k) = k' - 1 by omega] at h7
    omega
  · exact lineT_mono (crv_step h h1 (by omega)).1 (crv_step h h1 (by omega)).2 hq
  · exfalso
    have h5 := h3 k' h1' hk
    rcases h4' with h6 | h6
    · omega
    · omega
theorem prT_low (h : crvOk cs = true) {q : Int} (hq : q ≤ lockA cs 0) : prT cs q = lockB cs 0 := by
  have h2 := (crvOk_t h).1
  have h5 := (crv_step h (k := 1) (by omega) (by omega)).1
  rw [prT_at (k := 1) (by omega) (by omega) (fun j h1 h2 => by omega) (.inr (by rw [show (1 : Nat) - 1 = 0 from rfl] at h5; omega))]
  exact lineT_0 hq
theorem prT_high (h : crvOk cs = true) {q : Int} (hq : ∀ j, 1 ≤ j → j < cs.length → lockA cs j < q) : prT cs q = lockB cs (cs.length - 1) := by
  have h2 := (crvOk_t h).1
  rw [prT_at (k := cs.length - 1) (by omega) (by omega) (fun j h1 h2 => hq j h1 (by omega)) (.inl (by omega))]
  exact lineT_1 (crv_step h (by omega) (by omega)).1 (Int.le_of_lt (hq _ (by omega) (by omega)))
end
end Go.Proofs.Ytjmhhbjbmgpagaa

/- Contracts of the pressure of a fan. -/
namespace Go.Proofs.Ytjmhhbjbmgpagaa
set_option linter.unusedVariables false
set_option linter.unusedSimpArgs false
open Go.RowKit
/-- A point of a curve, opened. -/
theorem pt_at {w : World} {B n k : Nat} {A : Option Addr} {rs : List Row} (hr : RSS w B A n rs) (hok : crvOk (dat rs) = true) (hk : k < n) :
    ∃ ad ra cc, A = some ad ∧ w.cell? (ad.add k) = some (.slice (some ra) 2 cc) ∧ w.cell? ra = some (.int .i64 (lockA (dat rs) k)) ∧ w.cell? (ra.add 0) = some (.int .i64 (lockA (dat rs) k)) ∧ w.cell? ⟨ra.block, ra.off + 1, none⟩ = some (.int .i64 (lockB (dat rs) k)) := by
  obtain ⟨ad, r, e, hx, hc, hrr⟩ := hr.at_ hk
  obtain ⟨x1, x2, x3⟩ := lock_row (dat_at hx)
  have hl : (dat rs).length = n := by rw [dat_len]; exact hr.len
  have h2 := crv_two ((crvOk_t hok).2.2 k (by omega))
  obtain ⟨ra, hA, hn2, c0, c0', c1⟩ := open_two hrr (by omega)
  rw [← x2] at c0 c0'
  rw [← x3] at c1
  rw [hA, hn2] at hc
  exact ⟨ad, ra, _, e, hc, c0, c0', c1⟩
theorem line_in {x0 y0 x1 y1 x : Int} (hx0 : 0 ≤ x0 ∧ x0 ≤ 100000) (hy0 : 0 ≤ y0 ∧ y0 ≤ 10000) (hx1 : 0 ≤ x1 ∧ x1 ≤ 100000) (hy1 : 0 ≤ y1 ∧ y1 ≤ 10000) (hx : -100000 ≤ x ∧ x ≤ 100000) :
    -2000000000 ≤ (y1 - y0) * (x - x0) ∧ (y1 - y0) * (x - x0) ≤ 2000000000 := mul_bnd (X := 10000) (Y := 200000) (by omega) (by omega) (by omega) (by omega) (by omega)
set_option maxHeartbeats 800000 in
theorem l01Line_any (x0 y0 x1 y1 x : Int) (w : World) (hx0 : 0 ≤ x0 ∧ x0 ≤ 100000) (hy0 : 0 ≤ y0 ∧ y0 ≤ 10000) (hx1 : 0 ≤ x1 ∧ x1 ≤ 100000) (hy1 : 0 ≤ y1 ∧ y1 ≤ 10000) (hx : -100000 ≤ x ∧ x ≤ 100000) :
    Calls Try.prog 156 #[.int .i64 x0, .int .i64 y0, .int .i64 x1, .int .i64 y1, .int .i64 x] w fun e w' => e = .returned (.int .i64 (lineT x0 y0 x1 y1 x)) ∧ w = w' := by
  obtain ⟨h1, h2⟩ := line_in hx0 hy0 hx1 hy1 hx
  by_cases c1 : x ≤ x0
  · have HV := Lib.hid (lineT_0 (y0 := y0) (x1 := x1) (y1 := y1) c1)
    go_enter Try.func156, Try.ntmps156
    go_wp2
    go_ret
    exact ⟨ret_int HV.out.symm, rfl⟩
  · by_cases c2 : x1 ≤ x0
    · have HV : Hid (lineT x0 y0 x1 y1 x = y0) := show _ = _ by unfold lineT; rw [if_pos (.inr c2)]
      go_enter Try.func156, Try.ntmps156
      go_wp2
      go_ret
      exact ⟨ret_int HV.out.symm, rfl⟩
    · by_cases c3 : x1 ≤ x
      · have HV := Lib.hid (lineT_1 (x0 := x0) (y0 := y0) (y1 := y1) (by omega) c3)
        go_enter Try.func156, Try.ntmps156
        go_wp2
        go_ret
        exact ⟨ret_int HV.out.symm, rfl⟩
      · have HV := Lib.hid (lineT_m (x0 := x0) (y0 := y0) (x1 := x1) (y1 := y1) (x := x) (by omega) (by omega))
        obtain ⟨d1, d2⟩ := dr_bnd (a := (y1 - y0) * (x - x0)) (b := x1 - x0) (m := 2000000000) (by omega) (by omega) h2
        have cd := l01Div_any ((y1 - y0) * (x - x0)) (x1 - x0) w (by omega) (by omega) (by omega) (by omega)
        go_enter Try.func156, Try.ntmps156
        go_wp2_with fail; ((with_reducible refine (cd).mono ?_); rintro e w' ⟨rfl, rfl⟩)
        go_wp2
        go_ret
        exact ⟨ret_int HV.out.symm, rfl⟩
set_option maxHeartbeats 800000 in
theorem blend_any (x0 y0 x1 y1 x : Int) (w : World) (hx0 : 0 ≤ x0 ∧ x0 ≤ 100000) (hy0 : 0 ≤ y0 ∧ y0 ≤ 10000) (hx1 : 0 ≤ x1 ∧ x1 ≤ 100000) (hy1 : 0 ≤ y1 ∧ y1 ≤ 10000) (hx : -100000 ≤ x ∧ x ≤ 100000) :
    Calls Try.prog 158 #[.int .i64 x0, .int .i64 y0, .int .i64 x1, .int .i64 y1, .int .i64 x] w fun e w' => e = .returned (.int .i64 (lineT x0 y0 x1 y1 x)) ∧ ∃ n, w' = w.drewN n := by
  obtain ⟨h1, h2⟩ := line_in hx0 hy0 hx1 hy1 hx
  by_cases c1 : x ≤ x0
  · have HV := Lib.hid (lineT_0 (y0 := y0) (x1 := x1) (y1 := y1) c1)
    go_enter Try.func158, Try.ntmps158
    go_wp2
    go_ret
    exact ⟨ret_int HV.out.symm, 0, rfl⟩
  · by_cases c2 : x1 ≤ x0
    · have HV : Hid (lineT x0 y0 x1 y1 x = y0) := show _ = _ by unfold lineT; rw [if_pos (.inr c2)]
      go_enter Try.func158, Try.ntmps158
      go_wp2
      go_ret
      exact ⟨ret_int HV.out.symm, 0, rfl⟩
    · by_cases c3 : x1 ≤ x
      · have HV := Lib.hid (lineT_1 (x0 := x0) (y0 := y0) (y1 := y1) (by omega) c3)
        go_enter Try.func158, Try.ntmps158
        go_wp2
        go_ret
        exact ⟨ret_int HV.out.symm, 0, rfl⟩
      · have HV := Lib.hid (lineT_m (x0 := x0) (y0 := y0) (x1 := x1) (y1 := y1) (x := x) (by omega) (by omega))
        obtain ⟨d1, d2⟩ := dr_bnd (a := (y1 - y0) * (x - x0)) (b := x1 - x0) (m := 2000000000) (by omega) (by omega) h2
        have cd := divRound_any ((y1 - y0) * (x - x0)) (x1 - x0) w (by omega) (by omega) (by omega) (by omega)
        go_enter Try.func158, Try.ntmps158
        go_wp2_with fail; ((with_reducible refine (cd).mono ?_); rintro e w' ⟨rfl, n1, rfl⟩)
        go_wp2
        go_ret
        exact ⟨ret_int HV.out.symm, _, rfl⟩
set_option maxHeartbeats 1600000 in
set_option maxRecDepth 100000 in
theorem l06Pressure_any (A : Option Addr) (n c : Nat) (rs : List Row) (q : Int) (p : Addr) (w : World) (hr : RSS w w.heap.size A n rs) (hok : crvOk (dat rs) = true) (hq : -100000 ≤ q ∧ q ≤ 100000) (hp2 : w.cell? ⟨p.block, p.off + 2, none⟩ = some (.slice A n c)) :
    Calls Try.prog 116 #[.pointer (some p), .int .i64 q] w fun e w' => e = .returned (.int .i64 (prT (dat rs) q)) ∧ Below w.heap.size w w' := by
  have HLn : Hid ((dat rs).length = n) := show (dat rs).length = n by rw [dat_len]; exact hr.len
  have HOK := Lib.hid hok
  have hn2 : 2 ≤ n ∧ n ≤ 8 := by have h := crvOk_t hok; have h2 := HLn.out; omega
  obtain ⟨n2, n8⟩ := hn2
  have hpl : p.block < w.heap.size := block_lt_of_cell (a := ⟨p.block, p.off + 2, none⟩) hp2
  obtain ⟨a0, r0, k0, rfl, f0, f1, f2, f3⟩ := pt_at hr hok (k := 0) (by omega)
  have f0' : w.cell? a0 = some (.slice (some r0) 2 k0) := f0
  have hn0 : (0 : Int) < (n : Int) := by omega
  clear hok
  by_cases hl : q ≤ lockA (dat rs) 0
  · have HV := Lib.hid (prT_low HOK.out hl)
    go_enter Try.func116, Try.ntmps116
    go_wp2
    go_ret
    exact ⟨ret_int HV.out.symm, Below.refl _ _⟩
  · go_enter Try.func116, Try.ntmps116
    go_wp2
    go_loop [6] (fun i => ∃ k : Nat, 1 ≤ k ∧ k ≤ n ∧ i = .int .i64 k ∧ Hid (∀ j, 1 ≤ j → j < k → lockA (dat rs) j < q)) (fun i => n - (intOf i).toNat)
    case atStart => exact ⟨1, by omega, by omega, rfl, fun j h1 h2 => by omega⟩
    case round =>
      obtain ⟨k, hk1, hk, rfl, HK⟩ := hrel
      by_cases hlt : k < n
      · obtain ⟨j, hj⟩ : ∃ j, Hid (k = j + 1) := ⟨k - 1, show k = k - 1 + 1 by omega⟩
        have hjn : j < n := by have := hj.out; omega
        have hwj : IntKind.i64.wrap ((k : Int) - 1) = (j : Int) := by have := hj.out; rw [IntWalk.i64_in _ (by omega)]; omega
        have hjI : (j : Int) < (n : Int) := by omega
        have hltI : (k : Int) < (n : Int) := by omega
        obtain ⟨a1, r1, k1, e1, g0, g1, g2, g3⟩ := pt_at hr HOK.out hlt
        obtain ⟨a2, r2, k2, e2, h0, h1, h2, h3⟩ := pt_at hr HOK.out hjn
        injection e1 with e1
        subst e1
        injection e2 with e2
        subst e2
        have b1 := crv_num HOK.out (k := k) (by rw [HLn.out]; exact hlt)
        have b2 := crv_num HOK.out (k := j) (by rw [HLn.out]; exact hjn)
        by_cases hg : q ≤ lockA (dat rs) k
        · have HV : Hid (prT (dat rs) q = lineT (lockA (dat rs) j) (lockB (dat rs) j) (lockA (dat rs) k) (lockB (dat rs) k) q) := show _ = _ by
            rw [prT_at hk1 (by rw [HLn.out]; omega) HK.out (.inr hg)]; unfold linAt; rw [show k - 1 = j by have := hj.out; omega]
          have HC : Hid (∀ m, Calls Try.prog 156 #[.int .i64 (lockA (dat rs) j), .int .i64 (lockB (dat rs) j), .int .i64 (lockA (dat rs) k), .int .i64 (lockB (dat rs) k), .int .i64 q] (w.drewN m) fun e w'' => e = .returned (.int .i64 (prT (dat rs) q)) ∧ ∃ u, w'' = w.drewN u) := fun m => (l01Line_any _ _ _ _ _ (w.drewN m) b2.1 b2.2 b1.1 b1.2 hq).mono fun _ _ ⟨he, hw⟩ => ⟨by rw [he, HV.out], m, hw.symm⟩
          clear b1 b2
          go_wp2
          go_quiet ((go_at_call 156; exact HC.out _))
          go_wp2
          go_ret
          exact ⟨rfl, below_drewN (Below.refl _ _) _⟩
        · have HG : Hid (∀ i, 1 ≤ i → i < k + 1 → lockA (dat rs) i < q) := fun i h1 h2 => by
            rcases Nat.lt_succ_iff_lt_or_eq.1 h2 with h3 | rfl
            · exact HK.out i h1 h3
            · omega
          clear b1 b2
          go_wp2
          go_round
          case rel => exact ⟨k + 1, by omega, by omega, by go_num, HG.out⟩
          case measure => simp [intOf]; omega
      · obtain ⟨j, hj⟩ : ∃ j, Hid (n = j + 1) := ⟨n - 1, show n = n - 1 + 1 by omega⟩
        have hjn : j < n := by have := hj.out; omega
        have hwj : IntKind.i64.wrap ((n : Int) - 1) = (j : Int) := by have := hj.out; rw [IntWalk.i64_in _ (by omega)]; omega
        have hjI : (j : Int) < (n : Int) := by omega
        obtain ⟨a2, r2, k2, e2, h0, h1, h2, h3⟩ := pt_at hr HOK.out hjn
        injection e2 with e2
        subst e2
        have HV : Hid (prT (dat rs) q = lockB (dat rs) j) := show _ = _ by
          rw [prT_high HOK.out (fun i h1 h2 => HK.out i h1 (by rw [HLn.out] at h2; omega)), HLn.out, show n - 1 = j by have := hj.out; omega]
        go_wp2
        go_ret
        exact ⟨ret_int HV.out.symm, Below.refl _ _⟩
set_option maxHeartbeats 1600000 in
set_option maxRecDepth 100000 in
theorem pressure_any (s : ByteArray) (a : Int) (A : Option Addr) (n c : Nat) (rs : List Row) (q : Int) (w : World) (hr0 : RSS w w.heap.size A n rs) (hok : crvOk (dat rs) = true) (hq : -100000 ≤ q ∧ q ≤ 100000) :
    Calls Try.prog 122 #[.agg #[.string s, .int .i64 a, .slice A n c], .int .i64 q] w fun e w' => e = .returned (.int .i64 (prT (dat rs) q)) ∧ Below w.heap.size w w' := by
  have HLn : Hid ((dat rs).length = n) := show (dat rs).length = n by rw [dat_len]; exact hr0.len
  have HOK := Lib.hid hok
  have hn2 : 2 ≤ n ∧ n ≤ 8 := by have h := crvOk_t hok; have h2 := HLn.out; omega
  obtain ⟨n2, n8⟩ := hn2
  have hb0 : Below w.heap.size w (w.alloc (.cells #[.string s, .int .i64 a, .slice A n c] 85)) := (Below.refl _ _).alloc (Nat.le_refl _) _
  have hr := hr0.below hb0
  have p2 : (w.alloc (.cells #[.string s, .int .i64 a, .slice A n c] 85)).cell? ⟨w.heap.size, 2, none⟩ = some (.slice A n c) := ((Blk.new w _ _).cell 2).trans rfl
  have hwn : IntKind.i64.wrap ((n : Int) - 1) = (n : Int) - 1 := IntWalk.i64_in _ (by omega)
  clear hok
  go_enter Try.func122, Try.ntmps122
  go_wp2
  generalize w.alloc (.cells #[.string s, .int .i64 a, .slice A n c] 85) = wb at *
  go_loop [5] (fun i => ∃ k : Nat, 1 ≤ k ∧ k + 1 ≤ n ∧ i = .int .i64 k ∧ Hid (∀ j, 1 ≤ j → j < k → lockA (dat rs) j < q)) (fun i => n - (intOf i).toNat)
  case atStart => exact ⟨1, by omega, by omega, rfl, fun j h1 h2 => by omega⟩
  case round =>
    obtain ⟨k, hk1, hk, rfl, HK⟩ := hrel
    have hlt : k < n := by omega
    obtain ⟨j, hj⟩ : ∃ j, Hid (k = j + 1) := ⟨k - 1, show k = k - 1 + 1 by omega⟩
    have hjn : j < n := by have := hj.out; omega
    have hwj : IntKind.i64.wrap ((k : Int) - 1) = (j : Int) := by have := hj.out; rw [IntWalk.i64_in _ (by omega)]; omega
    have hjI : (j : Int) < (n : Int) := by omega
    have hltI : (k : Int) < (n : Int) := by omega
    obtain ⟨a1, r1, k1, rfl, g0, g1, g2, g3⟩ := pt_at hr HOK.out hlt
    obtain ⟨a2, r2, k2, e2, h0, h1, h2, h3⟩ := pt_at hr HOK.out hjn
    injection e2 with e2
    subst e2
    have b1 := crv_num HOK.out (k := k) (by rw [HLn.out]; exact hlt)
    have b2 := crv_num HOK.out (k := j) (by rw [HLn.out]; exact hjn)
    have HL := Lib.hid (fun (he : k + 1 = (dat rs).length ∨ q ≤ lockA (dat rs) k) => show prT (dat rs) q = lineT (lockA (dat rs) j) (lockB (dat rs) j) (lockA (dat rs) k) (lockB (dat rs) k) q by
      rw [prT_at hk1 (by rw [HLn.out]; omega) HK.out he]; unfold linAt; rw [show k - 1 = j by have := hj.out; omega])
    have HC0 := Lib.hid (fun (W : World) (v : Int) (hv : v = lineT (lockA (dat rs) j) (lockB (dat rs) j) (lockA (dat rs) k) (lockB (dat rs) k) q) (m : Nat) => show Calls Try.prog 158 #[.int .i64 (lockA (dat rs) j), .int .i64 (lockB (dat rs) j), .int .i64 (lockA (dat rs) k), .int .i64 (lockB (dat rs) k), .int .i64 q] (W.drewN m) (fun e w'' => e = .returned (.int .i64 v) ∧ ∃ u, w'' = W.drewN u) from Calls.quiet_of ((blend_any _ _ _ _ _ (W.drewN m) b2.1 b2.2 b1.1 b1.2 hq).mono fun _ _ ⟨he, hw⟩ => ⟨by rw [he, hv], hw⟩))
    clear b1 b2
    by_cases hz : (k : Int) < (n : Int) - 1
    · by_cases hg : lockA (dat rs) k < q
      · have HG : Hid (∀ i, 1 ≤ i → i < k + 1 → lockA (dat rs) i < q) := fun i h1 h2 => by
          rcases Nat.lt_succ_iff_lt_or_eq.1 h2 with h3 | rfl
          · exact HK.out i h1 h3
          · exact hg
        go_wp2
        go_round
        case rel => exact ⟨k + 1, by omega, by omega, by go_num, HG.out⟩
        case measure => simp [intOf]; omega
      · have HV := Lib.hid (HL.out (.inr (by omega)))
        go_wp2
        go_quiet (fail)
        have HC := Lib.hid (HC0.out (wb.drewN nq) _ HV.out)
        have g1q : (wb.drewN nq).cell? r1 = _ := g1
        have g2q : (wb.drewN nq).cell? (r1.add 0) = _ := g2
        have g3q : (wb.drewN nq).cell? ⟨r1.block, r1.off + 1, none⟩ = _ := g3
        have h1q : (wb.drewN nq).cell? r2 = _ := h1
        have h2q : (wb.drewN nq).cell? (r2.add 0) = _ := h2
        have h3q : (wb.drewN nq).cell? ⟨r2.block, r2.off + 1, none⟩ = _ := h3
        have hbq := below_drewN hb0 nq
        generalize wb.drewN nq = wq at HC g1q g2q g3q h1q h2q h3q hbq ⊢
        go_wp2
        go_quiet ((go_at_call 158; exact HC.out _))
        go_wp2
        go_ret
        exact ⟨rfl, below_drewN hbq _⟩
    · have HV := Lib.hid (HL.out (.inl (by rw [HLn.out]; omega)))
      go_wp2
      go_quiet (fail)
      have HC := Lib.hid (HC0.out (wb.drewN nq) _ HV.out)
      have g1q : (wb.drewN nq).cell? r1 = _ := g1
      have g2q : (wb.drewN nq).cell? (r1.add 0) = _ := g2
      have g3q : (wb.drewN nq).cell? ⟨r1.block, r1.off + 1, none⟩ = _ := g3
      have h1q : (wb.drewN nq).cell? r2 = _ := h1
      have h2q : (wb.drewN nq).cell? (r2.add 0) = _ := h2
      have h3q : (wb.drewN nq).cell? ⟨r2.block, r2.off + 1, none⟩ = _ := h3
      have hbq := below_drewN hb0 nq
      generalize wb.drewN nq = wq at HC g1q g2q g3q h1q h2q h3q hbq ⊢
      go_wp2
      go_quiet ((go_at_call 158; exact HC.out _))
      go_wp2
      go_ret
      exact ⟨rfl, below_drewN hbq _⟩
end Go.Proofs.Ytjmhhbjbmgpagaa

/- Contracts of the test of fans and of the best fan, both sides. -/
namespace Go.Proofs.Ytjmhhbjbmgpagaa
set_option linter.unusedVariables false
set_option linter.unusedSimpArgs false
open Go.RowKit
abbrev FKey := ByteArray × Int × List (List Int)
def fkId (ks : List FKey) (k : Nat) : ByteArray := match ks[k]? with | some x => x.1 | none => ByteArray.empty
def fkAt (ks : List FKey) (k : Nat) : Bool :=
  match ks[k]? with
  | some x => fanOk x.1 x.2.1 x.2.2 && (decide (k = 0) || sLt (fkId ks (k - 1)) x.1)
  | none => false
def fansOk (ks : List FKey) : Bool := decide (ks.length ≤ 8) && allUpto ks.length (fkAt ks)
section
variable {ks : List FKey} {k j : Nat} {x y : FKey}
theorem fkId_eq (h : ks[k]? = some x) : fkId ks k = x.1 := by unfold fkId; rw [h]
theorem fk_eq (h : ks[k]? = some x) : fkAt ks k = (fanOk x.1 x.2.1 x.2.2 && (decide (k = 0) || sLt (fkId ks (k - 1)) x.1)) := by unfold fkAt; rw [h]
theorem fk_o (h : ks[k]? = some x) (h0 : fanOk x.1 x.2.1 x.2.2 = false) : fkAt ks k = false := by rw [fk_eq h, h0]; rfl
theorem fk_p (h : ks[k]? = some x) (hk : k = j + 1) (hy : ks[j]? = some y) (h0 : sLt y.1 x.1 = false) : fkAt ks k = false := by
  rw [fk_eq h, show k - 1 = j by omega, fkId_eq hy, h0, decide_eq_false (show ¬ k = 0 by omega)]; simp
theorem fk_z (h : ks[k]? = some x) (h0 : fanOk x.1 x.2.1 x.2.2 = true) (hk : k = 0) : fkAt ks k = true := by rw [fk_eq h, h0, decide_eq_true hk]; rfl
theorem fk_y (h : ks[k]? = some x) (h0 : fanOk x.1 x.2.1 x.2.2 = true) (hk : k = j + 1) (hy : ks[j]? = some y) (h2 : sLt y.1 x.1 = true) : fkAt ks k = true := by
  rw [fk_eq h, h0, show k - 1 = j by omega, fkId_eq hy, h2]; simp
theorem fansOk_l (h : 8 < ks.length) : fansOk ks = false := by unfold fansOk; rw [decide_eq_false (show ¬ ks.length ≤ 8 by omega)]; rfl
theorem fansOk_k (hk : k < ks.length) (h : fkAt ks k = false) : fansOk ks = false := by unfold fansOk; rw [allUpto_f hk h, Bool.and_false]
theorem fansOk_y (h1 : ∀ k, k < ks.length → fkAt ks k = true) : fansOk ks = decide (ks.length ≤ 8) := by unfold fansOk; rw [allUpto_t h1]; simp
theorem fansOk_t (h : fansOk ks = true) : ks.length ≤ 8 ∧ ∀ x ∈ ks, fanOk x.1 x.2.1 x.2.2 = true := by
  unfold fansOk at h
  simp only [Bool.and_eq_true, decide_eq_true_eq] at h
  refine ⟨h.1, fun x hx => ?_⟩
  obtain ⟨k, hk⟩ := List.getElem?_of_mem hx
  have hm := allUpto_get h.2 (len_of_at hk)
  rw [fk_eq hk] at hm
  simp only [Bool.and_eq_true] at hm
  exact hm.1
end
set_option maxHeartbeats 1600000 in
set_option maxRecDepth 100000 in
theorem l06List_any (A : Option Addr) (n c : Nat) (xs : List Fan) (w : World) (hr : FSS w w.heap.size A n xs) (hn : n ≤ 1048576) (hxs : ∀ x ∈ xs, x.ok) :
    Calls Try.prog 61 #[.slice A n c] w fun e w' => e = .returned (.bool (fansOk (fdat xs))) ∧ Below w.heap.size w w' := by
  have HM := Lib.hid hxs
  have HLn : Hid ((fdat xs).length = n) := show _ = _ by rw [fdat_len]; exact hr.len
  clear hxs
  go_enter Try.func61, Try.ntmps61
  go_wp2
  go_loopw [3] (fun i wr => ∃ (k : Nat), k ≤ n ∧ i = .int .i64 k ∧ Hid (∀ j, j < k → fkAt (fdat xs) j = true) ∧ Below w.heap.size w wr) (fun i _ => n - (intOf i).toNat)
  case atStart => exact ⟨0, by omega, rfl, fun j hj => absurd hj (Nat.not_lt_zero _), Below.refl _ _⟩
  case round =>
    obtain ⟨k, hk, rfl, HK, hbw⟩ := hrel
    by_cases hlt : k < n
    · obtain ⟨ad, x, rfl, had, hx, hc, hrx⟩ := (hr.below hbw).at_ hlt
      have HX := Lib.hid (fdat_at hx)
      have hm := HM.out x (List.mem_of_getElem? hx)
      have hlx : Hid (k < (fdat xs).length) := show k < _ by rw [HLn.out]; exact hlt
      have hltI : (k : Int) < (n : Int) := by omega
      obtain ⟨a0, a1, a2⟩ := Fan.open_ hc
      have HA0 : Hid (∀ (b : Bool) (p : Addr), p = ad.add (k * 3) → fanOk x.s x.a (dat x.rs) = b → ∀ t : NB wr, Calls Try.prog 115 #[.pointer (some p)] t.w fun e w' => e = .returned (.bool b) ∧ Below t.w.heap.size t.w w') :=
        fun b p hp hb t => hb ▸ l06Ok_any x.s x.a x.A x.n x.c x.rs p t.w hm.sm ((hrx.below (t.h.mono hbw.size)).more (Nat.le_trans hbw.size t.h.size)) hm.n hm.r (hp ▸ hc.below t.h (block_lt_of_cell a0))
      clear hm hrx
      rcases Bool.eq_false_or_eq_true (fanOk x.s x.a (dat x.rs)) with k0 | k0
      · rcases Nat.eq_zero_or_pos k with h0 | hpos
        · have HY := Lib.hid (fk_z HX.out k0 h0)
          subst h0
          have hcz : Cells wr ad x.cells := hc
          obtain ⟨b0, b1, b2⟩ := Fan.open_ hcz
          have HA := Lib.hid (HA0.out true ad rfl k0)
          clear hcz hc hx k0 HA0
          go_wp2
          have m3_0 := nb_cell b0 (block_lt_of_cell b0); (refine wp_region_nb (by kernel_rfl) (by kernel_rfl) ?_); (repeat (go_big_quiet_step (((go_at_call 115; exact nb_call (HA.out _)))))); (refine wpQuiet_nil ?_); intro w3 hw3; have hb3 := nb_out hw3; clear hw3 m3_0
          go_wp2
          go_roundw
          case rel => exact ⟨1, by omega, by go_num, upto_succ1 HK.out HY.out, hbw.trans (hb3.mono hbw.size)⟩
          case measure => simp [intOf]; omega
        · obtain ⟨j, hj⟩ : ∃ j, Hid (k = j + 1) := ⟨k - 1, show k = k - 1 + 1 by omega⟩
          have hjn : j < n := by have := hj.out; omega
          have hwj : IntKind.i64.wrap ((k : Int) - 1) = (j : Int) := by have := hj.out; rw [IntWalk.i64_in _ (by omega)]; omega
          have hk0 : decide ((0 : Int) < (k : Int)) = true := decide_eq_true (by omega)
          have hjI : (j : Int) < (n : Int) := by omega
          obtain ⟨ad', y, e1, had', hy, hcy, hry⟩ := (hr.below hbw).at_ hjn
          injection e1 with e1
          subst e1
          have HYy := Lib.hid (fdat_at hy)
          have b0 := hcy.z rfl
          have HA := Lib.hid (HA0.out true _ rfl k0)
          clear hy hcy hry hc hx HA0
          cases hl : Op.bytesLess y.s.toList x.s.toList
          · have HY := Lib.hid (fk_p HX.out hj.out HYy.out hl)
            clear k0
            go_wp2
            have m3_0 := nb_cell a0 (block_lt_of_cell a0); have m3_1 := nb_cell b0 (block_lt_of_cell b0); (refine wp_region_nb (by kernel_rfl) (by kernel_rfl) ?_); (repeat (go_big_quiet_step (((go_at_call 115; exact nb_call (HA.out _)))))); (refine wpQuiet_nil ?_); intro w3 hw3; have hb3 := nb_out hw3; clear hw3 m3_0 m3_1
            go_wp2
            go_ret
            exact ⟨ret_bool (fansOk_k hlx.out HY.out).symm, hbw.trans (hb3.mono hbw.size)⟩
          · have HY := Lib.hid (fk_y HX.out k0 hj.out HYy.out hl)
            clear k0
            go_wp2
            have m3_0 := nb_cell a0 (block_lt_of_cell a0); have m3_1 := nb_cell b0 (block_lt_of_cell b0); (refine wp_region_nb (by kernel_rfl) (by kernel_rfl) ?_); (repeat (go_big_quiet_step (((go_at_call 115; exact nb_call (HA.out _)))))); (refine wpQuiet_nil ?_); intro w3 hw3; have hb3 := nb_out hw3; clear hw3 m3_0 m3_1
            go_wp2
            go_roundw
            case rel => exact ⟨k + 1, by omega, by go_num, upto_succ1 HK.out HY.out, hbw.trans (hb3.mono hbw.size)⟩
            case measure => simp [intOf]; omega
      · have HA := Lib.hid (HA0.out false _ rfl k0)
        have HY := Lib.hid (fk_o HX.out k0)
        clear k0 hc hx HA0
        go_wp2
        have m3_0 := nb_cell a0 (block_lt_of_cell a0); (refine wp_region_nb (by kernel_rfl) (by kernel_rfl) ?_); (repeat (go_big_quiet_step (((go_at_call 115; exact nb_call (HA.out _)))))); (refine wpQuiet_nil ?_); intro w3 hw3; have hb3 := nb_out hw3; clear hw3 m3_0
        go_wp2
        go_ret
        exact ⟨ret_bool (fansOk_k hlx.out HY.out).symm, hbw.trans (hb3.mono hbw.size)⟩
    · have e : k = n := by omega
      have HV := Lib.hid (fansOk_y (by rw [HLn.out, ← e]; exact HK.out))
      clear e
      go_wp2
      go_ret
      exact ⟨ret_bool (by rw [HV.out, HLn.out]; exact Bool.eq_iff_iff.2 (by simp only [decide_eq_true_eq]; omega)), hbw⟩
set_option maxHeartbeats 1600000 in
set_option maxRecDepth 100000 in
theorem implValidFans_any (A : Option Addr) (n c : Nat) (xs : List Fan) (w : World) (hr : FSS w w.heap.size A n xs) (hn : n ≤ 1048576) (hxs : ∀ x ∈ xs, x.ok) :
    Calls Try.prog 66 #[.slice A n c] w fun e w' => e = .returned (.bool (fansOk (fdat xs))) ∧ Below w.heap.size w w' := by
  have HM := Lib.hid hxs
  have HLn : Hid ((fdat xs).length = n) := show _ = _ by rw [fdat_len]; exact hr.len
  clear hxs
  by_cases h8 : n ≤ 8
  · go_enter Try.func66, Try.ntmps66
    go_wp2
    go_loopw [10] (fun i wr => ∃ (k : Nat), k ≤ n ∧ i = .int .i64 k ∧ Hid (∀ j, j < k → fkAt (fdat xs) j = true) ∧ Below w.heap.size w wr) (fun i _ => n - (intOf i).toNat)
    case atStart => exact ⟨0, by omega, rfl, fun j hj => absurd hj (Nat.not_lt_zero _), Below.refl _ _⟩
    case round =>
      obtain ⟨k, hk, rfl, HK, hbw⟩ := hrel
      obtain ⟨wo, rfl⟩ : ∃ wo : World, wo = wr := ⟨_, rfl⟩
      by_cases hlt : k < n
      · obtain ⟨ad, x, rfl, had, hx, hc, hrx⟩ := (hr.below hbw).at_ hlt
        have HX := Lib.hid (fdat_at hx)
        have hm := HM.out x (List.mem_of_getElem? hx)
        have hlx : Hid (k < (fdat xs).length) := show k < _ by rw [HLn.out]; exact hlt
        have hltI : (k : Int) < (n : Int) := by omega
        obtain ⟨a0, a1, a2⟩ := Fan.open_ hc
        have hbo : Below wo.heap.size wo (wo.alloc (.cells #[.string x.s, .int .i64 x.a, .slice x.A x.n x.c] 85)) := (Below.refl _ _).alloc (Nat.le_refl _) _
        have f0 : (wo.alloc (.cells #[.string x.s, .int .i64 x.a, .slice x.A x.n x.c] 85)).cell? ⟨wo.heap.size, 0, none⟩ = some (.string x.s) := ((Blk.new wo _ _).cell 0).trans rfl
        have f1 : (wo.alloc (.cells #[.string x.s, .int .i64 x.a, .slice x.A x.n x.c] 85)).cell? ⟨wo.heap.size, 1, none⟩ = some (.int .i64 x.a) := ((Blk.new wo _ _).cell 1).trans rfl
        have f2 : (wo.alloc (.cells #[.string x.s, .int .i64 x.a, .slice x.A x.n x.c] 85)).cell? ⟨wo.heap.size, 2, none⟩ = some (.slice x.A x.n x.c) := ((Blk.new wo _ _).cell 2).trans rfl
        have HA0 : Hid (∀ (b : Bool), fanOk x.s x.a (dat x.rs) = b → ∀ t : NB (wo.alloc (.cells #[.string x.s, .int .i64 x.a, .slice x.A x.n x.c] 85)), Calls Try.prog 118 #[.agg #[.string x.s, .int .i64 x.a, .slice x.A x.n x.c]] t.w fun e w' => e = .returned (.bool b) ∧ Below t.w.heap.size t.w w') :=
          fun b hb t => hb ▸ implValidFan_any x.s x.a x.A x.n x.c x.rs t.w hm.sm (by
            have hbt := hbo.trans (t.h.mono hbo.size)
            exact (hrx.below (hbt.mono hbw.size)).more (Nat.le_trans hbw.size hbt.size)) hm.n hm.r
        clear hm hrx
        rcases Bool.eq_false_or_eq_true (fanOk x.s x.a (dat x.rs)) with k0 | k0
        · have HA := Lib.hid (HA0.out true k0)
          rcases Nat.eq_zero_or_pos k with h0 | hpos
          · have HY := Lib.hid (fk_z HX.out k0 h0)
            subst h0
            have hcz : Cells wo ad x.cells := hc
            obtain ⟨b0, b1, b2⟩ := Fan.open_ hcz
            clear hcz hc hx k0 HA0
            have HB := Lib.hid hbo
            clear hbo
            go_wp2
            have m3_0 := nb_cell f0 (block_lt_of_cell f0); have m3_1 := nb_cell f1 (block_lt_of_cell f1); have m3_2 := nb_cell f2 (block_lt_of_cell f2); (refine wp_region_nb (by kernel_rfl) (by kernel_rfl) ?_); (repeat (go_big_quiet_step (((go_at_call 118; exact nb_call (HA.out _)))))); (refine wpQuiet_nil ?_); intro w3 hw3; have hb3 := nb_out hw3; clear hw3 m3_0 m3_1 m3_2
            have hb4 := HB.out.trans (hb3.mono HB.out.size)
            go_wp2
            go_roundw
            case rel => exact ⟨1, by omega, by go_num, upto_succ1 HK.out HY.out, hbw.trans (hb4.mono hbw.size)⟩
            case measure => simp [intOf]; omega
          · obtain ⟨j, hj⟩ : ∃ j, Hid (k = j + 1) := ⟨k - 1, show k = k - 1 + 1 by omega⟩
            have hjn : j < n := by have := hj.out; omega
            have hwj : IntKind.i64.wrap ((k : Int) - 1) = (j : Int) := by have := hj.out; rw [IntWalk.i64_in _ (by omega)]; omega
            have hk0 : decide ((0 : Int) < (k : Int)) = true := decide_eq_true (by omega)
            have hjI : (j : Int) < (n : Int) := by omega
            obtain ⟨ad', y, e1, had', hy, hcy, hry⟩ := (hr.below hbw).at_ hjn
            injection e1 with e1
            subst e1
            have HYy := Lib.hid (fdat_at hy)
            have b0 := hcy.z rfl
            have f9 : (wo.alloc (.cells #[.string x.s, .int .i64 x.a, .slice x.A x.n x.c] 85)).cell? (ad.add (j * 3)) = some (.string y.s) := (World.cell?_alloc_lt _ _ _ (block_lt_of_cell b0)).trans b0
            have HB := Lib.hid hbo
            clear hy hcy hry hc hx HA0 hbo
            have hle := leq_lt y.s.toList x.s.toList
            cases hl : Op.bytesLess y.s.toList x.s.toList <;> rw [hl] at hle <;> cases q1 : Op.bytesLess x.s.toList y.s.toList <;> cases q2 : (x.s.toList == y.s.toList) <;> rw [q1, q2] at hle <;> first | (exact absurd hle (by decide)) | skip
            · have HY := Lib.hid (fk_p HX.out hj.out HYy.out hl)
              clear hle hl k0
              go_wp2
              have m3_0 := nb_cell f0 (block_lt_of_cell f0); have m3_1 := nb_cell f1 (block_lt_of_cell f1); have m3_2 := nb_cell f2 (block_lt_of_cell f2); have m3_3 := nb_cell f9 (block_lt_of_cell f9); (refine wp_region_nb (by kernel_rfl) (by kernel_rfl) ?_); (repeat (go_big_quiet_step (((go_at_call 118; exact nb_call (HA.out _)))))); (refine wpQuiet_nil ?_); intro w3 hw3; have hb3 := nb_out hw3; clear hw3 m3_0 m3_1 m3_2 m3_3
              have hb4 := HB.out.trans (hb3.mono HB.out.size)
              go_wp2
              go_ret
              exact ⟨ret_bool (fansOk_k hlx.out HY.out).symm, hbw.trans (hb4.mono hbw.size)⟩
            · have HY := Lib.hid (fk_p HX.out hj.out HYy.out hl)
              clear hle hl k0
              go_wp2
              have m3_0 := nb_cell f0 (block_lt_of_cell f0); have m3_1 := nb_cell f1 (block_lt_of_cell f1); have m3_2 := nb_cell f2 (block_lt_of_cell f2); have m3_3 := nb_cell f9 (block_lt_of_cell f9); (refine wp_region_nb (by kernel_rfl) (by kernel_rfl) ?_); (repeat (go_big_quiet_step (((go_at_call 118; exact nb_call (HA.out _)))))); (refine wpQuiet_nil ?_); intro w3 hw3; have hb3 := nb_out hw3; clear hw3 m3_0 m3_1 m3_2 m3_3
              have hb4 := HB.out.trans (hb3.mono HB.out.size)
              go_wp2
              go_ret
              exact ⟨ret_bool (fansOk_k hlx.out HY.out).symm, hbw.trans (hb4.mono hbw.size)⟩
            · have HY := Lib.hid (fk_p HX.out hj.out HYy.out hl)
              clear hle hl k0
              go_wp2
              have m3_0 := nb_cell f0 (block_lt_of_cell f0); have m3_1 := nb_cell f1 (block_lt_of_cell f1); have m3_2 := nb_cell f2 (block_lt_of_cell f2); have m3_3 := nb_cell f9 (block_lt_of_cell f9); (refine wp_region_nb (by kernel_rfl) (by kernel_rfl) ?_); (repeat (go_big_quiet_step (((go_at_call 118; exact nb_call (HA.out _)))))); (refine wpQuiet_nil ?_); intro w3 hw3; have hb3 := nb_out hw3; clear hw3 m3_0 m3_1 m3_2 m3_3
              have hb4 := HB.out.trans (hb3.mono HB.out.size)
              go_wp2
              go_ret
              exact ⟨ret_bool (fansOk_k hlx.out HY.out).symm, hbw.trans (hb4.mono hbw.size)⟩
            · have HY := Lib.hid (fk_y HX.out k0 hj.out HYy.out hl)
              clear hle hl k0
              go_wp2
              have m3_0 := nb_cell f0 (block_lt_of_cell f0); have m3_1 := nb_cell f1 (block_lt_of_cell f1); have m3_2 := nb_cell f2 (block_lt_of_cell f2); have m3_3 := nb_cell f9 (block_lt_of_cell f9); (refine wp_region_nb (by kernel_rfl) (by kernel_rfl) ?_); (repeat (go_big_quiet_step (((go_at_call 118; exact nb_call (HA.out _)))))); (refine wpQuiet_nil ?_); intro w3 hw3; have hb3 := nb_out hw3; clear hw3 m3_0 m3_1 m3_2 m3_3
              have hb4 := HB.out.trans (hb3.mono HB.out.size)
              go_wp2
              go_roundw
              case rel => exact ⟨k + 1, by omega, by go_num, upto_succ1 HK.out HY.out, hbw.trans (hb4.mono hbw.size)⟩
              case measure => simp [intOf]; omega
        · have HA := Lib.hid (HA0.out false k0)
          have HY := Lib.hid (fk_o HX.out k0)
          have HB := Lib.hid hbo
          clear k0 hc hx HA0 hbo
          go_wp2
          have m3_0 := nb_cell f0 (block_lt_of_cell f0); have m3_1 := nb_cell f1 (block_lt_of_cell f1); have m3_2 := nb_cell f2 (block_lt_of_cell f2); (refine wp_region_nb (by kernel_rfl) (by kernel_rfl) ?_); (repeat (go_big_quiet_step (((go_at_call 118; exact nb_call (HA.out _)))))); (refine wpQuiet_nil ?_); intro w3 hw3; have hb3 := nb_out hw3; clear hw3 m3_0 m3_1 m3_2
          have hb4 := HB.out.trans (hb3.mono HB.out.size)
          go_wp2
          go_ret
          exact ⟨ret_bool (fansOk_k hlx.out HY.out).symm, hbw.trans (hb4.mono hbw.size)⟩
      · have e : k = n := by omega
        have HV : Hid (fansOk (fdat xs) = true) := show _ = _ by rw [fansOk_y (by rw [HLn.out, ← e]; exact HK.out), HLn.out]; exact decide_eq_true h8
        clear e
        go_wp2
        go_ret
        exact ⟨ret_bool HV.out.symm, hbw⟩
  · have HV := Lib.hid (fansOk_l (ks := fdat xs) (by rw [HLn.out]; omega))
    go_enter Try.func66, Try.ntmps66
    go_wp2
    go_ret
    exact ⟨ret_bool HV.out.symm, Below.refl _ _⟩
end Go.Proofs.Ytjmhhbjbmgpagaa
