/- Contracts of the pushes of all airways, both sides. -/
import Derived.Test.YtjmhhbjbmgpagaaPsh
namespace Go.Proofs.Ytjmhhbjbmgpagaa
set_option linter.unusedVariables false
set_option linter.unusedSimpArgs false
open Go.RowKit
def puR (J : Int) (xs : List Awy) (ks : List FKey) (ds fs : List Int) : List Int × Int :=
  if mineOk J xs = true ∧ fansOk ks = true then (if fansIn xs.length ks = true ∧ lstOk xs.length (-100000) 100000 ds = true ∧ lstOk xs.length (-100000) 100000 fs = true then (puTo ks ds fs ks.length, 0) else ([], 7)) else ([], 1)
theorem puR_1 {J : Int} {xs : List Awy} {ks : List FKey} {ds fs : List Int} (h : ¬ (mineOk J xs = true ∧ fansOk ks = true)) : puR J xs ks ds fs = ([], 1) := if_neg h
theorem puR_7 {J : Int} {xs : List Awy} {ks : List FKey} {ds fs : List Int} (h : mineOk J xs = true) (h1 : fansOk ks = true) (h2 : ¬ (fansIn xs.length ks = true ∧ lstOk xs.length (-100000) 100000 ds = true ∧ lstOk xs.length (-100000) 100000 fs = true)) : puR J xs ks ds fs = ([], 7) := by
  unfold puR; rw [if_pos ⟨h, h1⟩, if_neg h2]
theorem puR_0 {J : Int} {xs : List Awy} {ks : List FKey} {ds fs : List Int} (h : mineOk J xs = true) (h1 : fansOk ks = true) (h2 : fansIn xs.length ks = true) (h3 : lstOk xs.length (-100000) 100000 ds = true) (h4 : lstOk xs.length (-100000) 100000 fs = true) : puR J xs ks ds fs = (puTo ks ds fs ks.length, 0) := by
  unfold puR; rw [if_pos ⟨h, h1⟩, if_pos ⟨h2, h3, h4⟩]
set_option maxHeartbeats 800000 in
theorem l07Pressures_any (m : Nat) (M : Option Addr) (d : Nat) (p : Addr) (A : Option Addr) (n c : Nat) (xs : List Int) (w : World) (hr : Reads w w.heap.size 1 A n (ints xs)) (hn : n ≤ 1048576) (h0 : w.cell? ⟨p.block, p.off + 1, none⟩ = some (.slice M m d)) :
    Calls Try.prog 63 #[.pointer (some p), .slice A n c] w fun e w' => e = .returned (.bool (lstOk (m : Int) (-100000) 100000 xs)) ∧ w = w' := by
  have HL := Lib.hid (ints_len hr)
  rcases Bool.eq_false_or_eq_true ((n : Int) == (m : Int)) with hnj | hnj
  all_goals
    have HN := Lib.hid hnj
    go_enter Try.func63, Try.ntmps63
    go_wp2
    go_loop [5] (fun i => ∃ k : Nat, k ≤ n ∧ i = .int .i64 k ∧ Hid ((xs.take k).all (fun x => inB x (-100000) 100000) = true)) (fun i => n - (intOf i).toNat)
    case atStart => exact ⟨0, by omega, rfl, rfl⟩
    case round =>
      obtain ⟨k, hk, rfl, HK⟩ := hrel
      by_cases hlt : k < n
      · obtain ⟨ad, u, rfl, had, hx, hc⟩ := hr.at_ hlt
        obtain ⟨b, hb, rfl⟩ := ints_at hx
        have HX := Lib.hid hb
        clear hb hx
        cases hp : inB b (-100000) 100000
        · have HP : Hid (inB b (-100000) 100000 = false) := hp
          go_wp2_with (go_at_call 77; refine (l00In_any _ _ _ _).mono ?_; rintro e w' ⟨rfl, rfl⟩)
          go_ret
          exact ⟨ret_bool (by unfold lstOk allIn; rw [all_false (p := fun x => inB x (-100000) 100000) HX.out HP.out, Bool.false_and]), rfl⟩
        · have HP : Hid (inB b (-100000) 100000 = true) := hp
          go_wp2_with (go_at_call 77; refine (l00In_any _ _ _ _).mono ?_; rintro e w' ⟨rfl, rfl⟩)
          go_round
          case rel => exact ⟨k + 1, by omega, by go_num, all_take HX.out HK.out HP.out⟩
          case measure => simp [intOf]; omega
      · have e : k = n := by omega
        subst e
        have HA : Hid (allIn (-100000) 100000 xs = true) := all_whole HL.out HK.out
        go_wp2
        go_ret
        exact ⟨ret_bool (by unfold lstOk; rw [HA.out, HL.out, HN.out]; first | rfl | simp_all), rfl⟩
set_option maxHeartbeats 3200000 in
set_option maxRecDepth 100000 in
theorem specPushesOf_any (J : Int) (M : Option Addr) (m d : Nat) (xs : List Awy) (A0 : Option Addr) (n0 c0 : Nat) (fs0 : List Fan) (A1 : Option Addr) (n1 c1 : Nat) (ds : List Int) (A2 : Option Addr) (n2 c2 : Nat) (fs : List Int) (w : World) (hm : Reads w w.heap.size 7 M m (Awy.recs xs)) (hmn : m ≤ 1048576) (hxs : ∀ x ∈ xs, x.s.size ≤ maxLen) (hr0 : FSS w w.heap.size A0 n0 fs0) (hn0 : n0 ≤ 1048576) (hx0 : ∀ x ∈ fs0, x.ok) (hr1 : Reads w w.heap.size 1 A1 n1 (ints ds)) (hn1 : n1 ≤ 1048576) (hr2 : Reads w w.heap.size 1 A2 n2 (ints fs)) (hn2 : n2 ≤ 1048576) :
    Calls Try.prog 25 #[.agg #[.int .i64 J, .slice M m d], .slice A0 n0 c0, .slice A1 n1 c1, .slice A2 n2 c2] w fun e w' => ∃ A' n' c', e = .returned (.tuple #[.slice A' n' c', .int .i64 (puR J xs (fdat fs0) ds fs).2]) ∧ w'.ownsRow w.heap.size 2 1 (.slice A' n' c') n' (ints (puR J xs (fdat fs0) ds fs).1) ∧ n' ≤ 1048576 ∧ Below w.heap.size w w' := by
  have HLm := Lib.hid (recs_rlen Awy.clen (by omega) hm)
  have HLk : Hid ((fdat fs0).length = n0) := show _ = _ by rw [fdat_len]; exact hr0.len
  have HL1 := Lib.hid (ints_len hr1)
  have HL2 := Lib.hid (ints_len hr2)
  have hb : Below w.heap.size w (w.alloc (.cells #[.int .i64 J, .slice M m d] 31)) := (Below.refl _ _).alloc (Nat.le_refl _) _
  have g0 : (w.alloc (.cells #[.int .i64 J, .slice M m d] 31)).cell? ⟨w.heap.size, 0, none⟩ = some (.int .i64 J) := ((Blk.new w _ _).cell 0).trans rfl
  have g1 : (w.alloc (.cells #[.int .i64 J, .slice M m d] 31)).cell? ⟨w.heap.size, 1, none⟩ = some (.slice M m d) := ((Blk.new w _ _).cell 1).trans rfl
  have z0 : w.heap.size < (w.alloc (.cells #[.int .i64 J, .slice M m d] 31)).heap.size := by simp
  have hmW : ∀ W, Below w.heap.size w W → Reads W W.heap.size 7 M m (Awy.recs xs) := fun W hb => (hm.below hb).more hb.size
  have h0W : ∀ W, Below w.heap.size w W → FSS W W.heap.size A0 n0 fs0 := fun W hb => (hr0.below hb).more hb.size
  have h1W : ∀ W, Below w.heap.size w W → Reads W W.heap.size 1 A1 n1 (ints ds) := fun W hb => (hr1.below hb).more hb.size
  have h2W : ∀ W, Below w.heap.size w W → Reads W W.heap.size 1 A2 n2 (ints fs) := fun W hb => (hr2.below hb).more hb.size
  have HW := Lib.hid (And.intro hmW (And.intro h0W (And.intro h1W h2W)))
  have cm := l04Ok_any J M m d xs ⟨w.heap.size, 0, none⟩ _ (hmW _ hb) hmn hxs (Cells.new w _ _)
  have HFL : Hid (∀ W, Below w.heap.size w W → Calls Try.prog 61 #[.slice A0 n0 c0] W fun e w' => e = .returned (.bool (fansOk (fdat fs0))) ∧ Below W.heap.size W w') := fun W hb => l06List_any A0 n0 c0 fs0 W (h0W W hb) hn0 hx0
  clear hxs hx0 hmW h0W h1W h2W
  rcases Bool.eq_false_or_eq_true (mineOk J xs) with k1 | k1
  · rw [k1] at cm
    have HCM := Lib.hid cm
    clear cm
    rcases Bool.eq_false_or_eq_true (fansOk (fdat fs0)) with k2 | k2
    · have hm24 : m ≤ 24 := by have := (mineOk_t k1).2.1; rw [HLm.out] at this; exact this
      have K1 := Lib.hid k1
      have K2 := Lib.hid k2
      clear k1
      rcases Bool.eq_false_or_eq_true (fansIn m (fdat fs0)) with k3 | k3
      · skip
        rcases Bool.eq_false_or_eq_true (lstOk m (-100000) 100000 ds) with k4 | k4
        · skip
          rcases Bool.eq_false_or_eq_true (lstOk m (-100000) 100000 fs) with k5 | k5
          · skip
            have HV := Lib.hid (puR_0 (J := J) (xs := xs) (ks := fdat fs0) (ds := ds) (fs := fs) K1.out K2.out (by rw [HLm.out]; exact k3) (by rw [HLm.out]; exact k4) (by rw [HLm.out]; exact k5))
            have K3 := Lib.hid k3
            have K4 := Lib.hid (lstOk_t k4)
            have K5 := Lib.hid (lstOk_t k5)
            obtain rfl : n1 = m := by have h1 := K4.out.1; have h2 := HL1.out; omega
            obtain rfl : n2 = n1 := by have h1 := K5.out.1; have h2 := HL2.out; omega
            go_enter Try.func25, Try.ntmps25
            go_wp2_with fail; ((with_reducible refine HCM.out.mono ?_); rintro e w1 ⟨rfl, hb1⟩)
            have B1 := hb.trans (hb1.mono hb.size)
            have p0 := (hb1.cell (p := ⟨w.heap.size, 0, none⟩) z0).trans g0
            have p1 := (hb1.cell (p := ⟨w.heap.size, 1, none⟩) z0).trans g1
            have z1 := Nat.lt_of_lt_of_le z0 hb1.size
            have cc := HFL.out w1 B1
            rw [k2] at cc
            have HC := Lib.hid cc
            clear cc
            go_wp2_with fail; ((with_reducible refine HC.out.mono ?_); rintro e w2 ⟨rfl, hb2⟩)
            have B2 := B1.trans (hb2.mono B1.size)
            have p0 := (hb2.cell (p := ⟨w.heap.size, 0, none⟩) z1).trans p0
            have p1 := (hb2.cell (p := ⟨w.heap.size, 1, none⟩) z1).trans p1
            have z2 := Nat.lt_of_lt_of_le z1 hb2.size
            clear k2
            have cc := l07Fans_any M n2 d A0 n0 c0 fs0 ⟨w.heap.size, 0, none⟩ w2 (HW.out.2.1 _ B2) hn0 hmn K2.out p1
            rw [k3] at cc
            have HC := Lib.hid cc
            clear cc
            go_wp2_with fail; ((with_reducible refine HC.out.mono ?_); rintro e w'' ⟨rfl, qq, rfl⟩)
            have B3 := below_drewN B2 qq
            have p1 : (w2.drewN qq).cell? ⟨w.heap.size, 1, none⟩ = _ := p1
            generalize w2.drewN qq = w3 at *
            have cc := l07Pressures_any n2 M d ⟨w.heap.size, 0, none⟩ A1 n2 c1 ds (w3) (HW.out.2.2.1 _ B3) hn1 p1
            rw [k4] at cc
            have HC := Lib.hid cc
            clear cc
            go_wp2_with fail; ((with_reducible refine HC.out.mono ?_); rintro e w' ⟨rfl, rfl⟩)
            have cc := l07Flows_any n2 M d ⟨w.heap.size, 0, none⟩ A2 n2 c2 fs (w3) (HW.out.2.2.2 _ B3) hn2 p1
            rw [k5] at cc
            have HC := Lib.hid cc
            clear cc
            go_wp2_with fail; ((with_reducible refine HC.out.mono ?_); rintro e w' ⟨rfl, rfl⟩)
            clear k3 k4 k5
            have cp := l07Pushes_any A0 n0 c0 fs0 A1 n2 c1 ds A2 c2 fs w3 (HW.out.2.1 _ B3) K2.out K3.out (HW.out.2.2.1 _ B3) (HW.out.2.2.2 _ B3) hmn K4.out.2 K5.out.2
            have HCP := Lib.hid cp
            clear cp
            go_wp2_with fail; ((with_reducible refine HCP.out.mono ?_); rintro e w9 ⟨A', c', rfl, hown, hb9⟩)
            have HO := Lib.hid hown
            clear hown
            go_wp2
            go_ret2
            rw [HV.out]
            exact ⟨A', n2, c', rfl, by show World.ownsRow _ _ _ _ _ _ _; rw [HLk.out]; exact own_base HO.out B3.size, by omega, B3.trans (hb9.mono B3.size)⟩
          · have HV := Lib.hid (puR_7 (xs := xs) (ds := ds) (fs := fs) K1.out K2.out (by rw [HLm.out, k5]; simp))
            go_enter Try.func25, Try.ntmps25
            go_wp2_with fail; ((with_reducible refine HCM.out.mono ?_); rintro e w1 ⟨rfl, hb1⟩)
            have B1 := hb.trans (hb1.mono hb.size)
            have p0 := (hb1.cell (p := ⟨w.heap.size, 0, none⟩) z0).trans g0
            have p1 := (hb1.cell (p := ⟨w.heap.size, 1, none⟩) z0).trans g1
            have z1 := Nat.lt_of_lt_of_le z0 hb1.size
            have cc := HFL.out w1 B1
            rw [k2] at cc
            have HC := Lib.hid cc
            clear cc
            go_wp2_with fail; ((with_reducible refine HC.out.mono ?_); rintro e w2 ⟨rfl, hb2⟩)
            have B2 := B1.trans (hb2.mono B1.size)
            have p0 := (hb2.cell (p := ⟨w.heap.size, 0, none⟩) z1).trans p0
            have p1 := (hb2.cell (p := ⟨w.heap.size, 1, none⟩) z1).trans p1
            have z2 := Nat.lt_of_lt_of_le z1 hb2.size
            clear k2
            have cc := l07Fans_any M m d A0 n0 c0 fs0 ⟨w.heap.size, 0, none⟩ w2 (HW.out.2.1 _ B2) hn0 hmn K2.out p1
            rw [k3] at cc
            have HC := Lib.hid cc
            clear cc
            go_wp2_with fail; ((with_reducible refine HC.out.mono ?_); rintro e w'' ⟨rfl, qq, rfl⟩)
            have B3 := below_drewN B2 qq
            have p1 : (w2.drewN qq).cell? ⟨w.heap.size, 1, none⟩ = _ := p1
            generalize w2.drewN qq = w3 at *
            have cc := l07Pressures_any m M d ⟨w.heap.size, 0, none⟩ A1 n1 c1 ds (w3) (HW.out.2.2.1 _ B3) hn1 p1
            rw [k4] at cc
            have HC := Lib.hid cc
            clear cc
            go_wp2_with fail; ((with_reducible refine HC.out.mono ?_); rintro e w' ⟨rfl, rfl⟩)
            have cc := l07Flows_any m M d ⟨w.heap.size, 0, none⟩ A2 n2 c2 fs (w3) (HW.out.2.2.2 _ B3) hn2 p1
            rw [k5] at cc
            have HC := Lib.hid cc
            clear cc
            go_wp2_with fail; ((with_reducible refine HC.out.mono ?_); rintro e w' ⟨rfl, rfl⟩)
            go_wp2
            go_ret2
            rw [HV.out]
            exact ⟨none, 0, 0, rfl, own_nil _ _ _ _, by omega, B3⟩
        · have HV := Lib.hid (puR_7 (xs := xs) (ds := ds) (fs := fs) K1.out K2.out (by rw [HLm.out, k4]; simp))
          go_enter Try.func25, Try.ntmps25
          go_wp2_with fail; ((with_reducible refine HCM.out.mono ?_); rintro e w1 ⟨rfl, hb1⟩)
          have B1 := hb.trans (hb1.mono hb.size)
          have p0 := (hb1.cell (p := ⟨w.heap.size, 0, none⟩) z0).trans g0
          have p1 := (hb1.cell (p := ⟨w.heap.size, 1, none⟩) z0).trans g1
          have z1 := Nat.lt_of_lt_of_le z0 hb1.size
          have cc := HFL.out w1 B1
          rw [k2] at cc
          have HC := Lib.hid cc
          clear cc
          go_wp2_with fail; ((with_reducible refine HC.out.mono ?_); rintro e w2 ⟨rfl, hb2⟩)
          have B2 := B1.trans (hb2.mono B1.size)
          have p0 := (hb2.cell (p := ⟨w.heap.size, 0, none⟩) z1).trans p0
          have p1 := (hb2.cell (p := ⟨w.heap.size, 1, none⟩) z1).trans p1
          have z2 := Nat.lt_of_lt_of_le z1 hb2.size
          clear k2
          have cc := l07Fans_any M m d A0 n0 c0 fs0 ⟨w.heap.size, 0, none⟩ w2 (HW.out.2.1 _ B2) hn0 hmn K2.out p1
          rw [k3] at cc
          have HC := Lib.hid cc
          clear cc
          go_wp2_with fail; ((with_reducible refine HC.out.mono ?_); rintro e w'' ⟨rfl, qq, rfl⟩)
          have B3 := below_drewN B2 qq
          have p1 : (w2.drewN qq).cell? ⟨w.heap.size, 1, none⟩ = _ := p1
          generalize w2.drewN qq = w3 at *
          have cc := l07Pressures_any m M d ⟨w.heap.size, 0, none⟩ A1 n1 c1 ds (w3) (HW.out.2.2.1 _ B3) hn1 p1
          rw [k4] at cc
          have HC := Lib.hid cc
          clear cc
          go_wp2_with fail; ((with_reducible refine HC.out.mono ?_); rintro e w' ⟨rfl, rfl⟩)
          go_wp2
          go_ret2
          rw [HV.out]
          exact ⟨none, 0, 0, rfl, own_nil _ _ _ _, by omega, B3⟩
      · have HV := Lib.hid (puR_7 (xs := xs) (ds := ds) (fs := fs) K1.out K2.out (by rw [HLm.out, k3]; simp))
        go_enter Try.func25, Try.ntmps25
        go_wp2_with fail; ((with_reducible refine HCM.out.mono ?_); rintro e w1 ⟨rfl, hb1⟩)
        have B1 := hb.trans (hb1.mono hb.size)
        have p0 := (hb1.cell (p := ⟨w.heap.size, 0, none⟩) z0).trans g0
        have p1 := (hb1.cell (p := ⟨w.heap.size, 1, none⟩) z0).trans g1
        have z1 := Nat.lt_of_lt_of_le z0 hb1.size
        have cc := HFL.out w1 B1
        rw [k2] at cc
        have HC := Lib.hid cc
        clear cc
        go_wp2_with fail; ((with_reducible refine HC.out.mono ?_); rintro e w2 ⟨rfl, hb2⟩)
        have B2 := B1.trans (hb2.mono B1.size)
        have p0 := (hb2.cell (p := ⟨w.heap.size, 0, none⟩) z1).trans p0
        have p1 := (hb2.cell (p := ⟨w.heap.size, 1, none⟩) z1).trans p1
        have z2 := Nat.lt_of_lt_of_le z1 hb2.size
        clear k2
        have cc := l07Fans_any M m d A0 n0 c0 fs0 ⟨w.heap.size, 0, none⟩ w2 (HW.out.2.1 _ B2) hn0 hmn K2.out p1
        rw [k3] at cc
        have HC := Lib.hid cc
        clear cc
        go_wp2_with fail; ((with_reducible refine HC.out.mono ?_); rintro e w'' ⟨rfl, qq, rfl⟩)
        have B3 := below_drewN B2 qq
        have p1 : (w2.drewN qq).cell? ⟨w.heap.size, 1, none⟩ = _ := p1
        generalize w2.drewN qq = w3 at *
        go_wp2
        go_ret2
        rw [HV.out]
        exact ⟨none, 0, 0, rfl, own_nil _ _ _ _, by omega, B3⟩
    · have HV := Lib.hid (puR_1 (J := J) (xs := xs) (ks := fdat fs0) (ds := ds) (fs := fs) (by rw [k2]; simp))
      go_enter Try.func25, Try.ntmps25
      go_wp2_with fail; ((with_reducible refine HCM.out.mono ?_); rintro e w1 ⟨rfl, hb1⟩)
      have B1 := hb.trans (hb1.mono hb.size)
      have p0 := (hb1.cell (p := ⟨w.heap.size, 0, none⟩) z0).trans g0
      have p1 := (hb1.cell (p := ⟨w.heap.size, 1, none⟩) z0).trans g1
      have z1 := Nat.lt_of_lt_of_le z0 hb1.size
      have cc := HFL.out w1 B1
      rw [k2] at cc
      have HC := Lib.hid cc
      clear cc
      go_wp2_with fail; ((with_reducible refine HC.out.mono ?_); rintro e w2 ⟨rfl, hb2⟩)
      have B2 := B1.trans (hb2.mono B1.size)
      have p0 := (hb2.cell (p := ⟨w.heap.size, 0, none⟩) z1).trans p0
      have p1 := (hb2.cell (p := ⟨w.heap.size, 1, none⟩) z1).trans p1
      have z2 := Nat.lt_of_lt_of_le z1 hb2.size
      go_wp2
      go_ret2
      rw [HV.out]
      exact ⟨none, 0, 0, rfl, own_nil _ _ _ _, by omega, B2⟩
  · have HV := Lib.hid (puR_1 (J := J) (xs := xs) (ks := fdat fs0) (ds := ds) (fs := fs) (by rw [k1]; simp))
    rw [k1] at cm
    have HCM := Lib.hid cm
    clear cm k1
    go_enter Try.func25, Try.ntmps25
    go_wp2_with fail; ((with_reducible refine HCM.out.mono ?_); rintro e w1 ⟨rfl, hb1⟩)
    have B1 := hb.trans (hb1.mono hb.size)
    have p0 := (hb1.cell (p := ⟨w.heap.size, 0, none⟩) z0).trans g0
    have p1 := (hb1.cell (p := ⟨w.heap.size, 1, none⟩) z0).trans g1
    have z1 := Nat.lt_of_lt_of_le z0 hb1.size
    go_wp2
    go_ret2
    rw [HV.out]
    exact ⟨none, 0, 0, rfl, own_nil _ _ _ _, by omega, B1⟩
set_option maxHeartbeats 3200000 in
set_option maxRecDepth 100000 in
theorem implPushesOf_any (J : Int) (M : Option Addr) (m d : Nat) (xs : List Awy) (A0 : Option Addr) (n0 c0 : Nat) (fs0 : List Fan) (A1 : Option Addr) (n1 c1 : Nat) (ds : List Int) (A2 : Option Addr) (n2 c2 : Nat) (fs : List Int) (w : World) (hm : Reads w w.heap.size 7 M m (Awy.recs xs)) (hmn : m ≤ 1048576) (hxs : ∀ x ∈ xs, x.s.size ≤ maxLen) (hr0 : FSS w w.heap.size A0 n0 fs0) (hn0 : n0 ≤ 1048576) (hx0 : ∀ x ∈ fs0, x.ok) (hr1 : Reads w w.heap.size 1 A1 n1 (ints ds)) (hn1 : n1 ≤ 1048576) (hr2 : Reads w w.heap.size 1 A2 n2 (ints fs)) (hn2 : n2 ≤ 1048576) :
    Calls Try.prog 27 #[.agg #[.int .i64 J, .slice M m d], .slice A0 n0 c0, .slice A1 n1 c1, .slice A2 n2 c2] w fun e w' => ∃ A' n' c', e = .returned (.tuple #[.slice A' n' c', .int .i64 (puR J xs (fdat fs0) ds fs).2]) ∧ w'.ownsRow w.heap.size 2 1 (.slice A' n' c') n' (ints (puR J xs (fdat fs0) ds fs).1) ∧ n' ≤ 1048576 ∧ Below w.heap.size w w' := by
  have HLm := Lib.hid (recs_rlen Awy.clen (by omega) hm)
  have HLk : Hid ((fdat fs0).length = n0) := show _ = _ by rw [fdat_len]; exact hr0.len
  have HL1 := Lib.hid (ints_len hr1)
  have HL2 := Lib.hid (ints_len hr2)
  have hb : Below w.heap.size w (w.alloc (.cells #[.int .i64 J, .slice M m d] 31)) := (Below.refl _ _).alloc (Nat.le_refl _) _
  have g0 : (w.alloc (.cells #[.int .i64 J, .slice M m d] 31)).cell? ⟨w.heap.size, 0, none⟩ = some (.int .i64 J) := ((Blk.new w _ _).cell 0).trans rfl
  have g1 : (w.alloc (.cells #[.int .i64 J, .slice M m d] 31)).cell? ⟨w.heap.size, 1, none⟩ = some (.slice M m d) := ((Blk.new w _ _).cell 1).trans rfl
  have z0 : w.heap.size < (w.alloc (.cells #[.int .i64 J, .slice M m d] 31)).heap.size := by simp
  have hmW : ∀ W, Below w.heap.size w W → Reads W W.heap.size 7 M m (Awy.recs xs) := fun W hb => (hm.below hb).more hb.size
  have h0W : ∀ W, Below w.heap.size w W → FSS W W.heap.size A0 n0 fs0 := fun W hb => (hr0.below hb).more hb.size
  have h1W : ∀ W, Below w.heap.size w W → Reads W W.heap.size 1 A1 n1 (ints ds) := fun W hb => (hr1.below hb).more hb.size
  have h2W : ∀ W, Below w.heap.size w W → Reads W W.heap.size 1 A2 n2 (ints fs) := fun W hb => (hr2.below hb).more hb.size
  have HW := Lib.hid (And.intro hmW (And.intro h0W (And.intro h1W h2W)))
  have cm := implValidMine_any J M m d xs (w.alloc (.cells #[.int .i64 J, .slice M m d] 31)) (hmW _ hb) hmn hxs
  have HFL : Hid (∀ W, Below w.heap.size w W → Calls Try.prog 66 #[.slice A0 n0 c0] W fun e w' => e = .returned (.bool (fansOk (fdat fs0))) ∧ Below W.heap.size W w') := fun W hb => implValidFans_any A0 n0 c0 fs0 W (h0W W hb) hn0 hx0
  clear hxs hx0 hmW h0W h1W h2W
  rcases Bool.eq_false_or_eq_true (mineOk J xs) with k1 | k1
  · rw [k1] at cm
    have HCM := Lib.hid cm
    clear cm
    rcases Bool.eq_false_or_eq_true (fansOk (fdat fs0)) with k2 | k2
    · have hm24 : m ≤ 24 := by have := (mineOk_t k1).2.1; rw [HLm.out] at this; exact this
      have K1 := Lib.hid k1
      have K2 := Lib.hid k2
      clear k1
      rcases Bool.eq_false_or_eq_true (lstOk m (-100000) 100000 fs) with k5 | k5
      · skip
        rcases Bool.eq_false_or_eq_true (lstOk m (-100000) 100000 ds) with k4 | k4
        · skip
          rcases Bool.eq_false_or_eq_true (fansIn m (fdat fs0)) with k3 | k3
          · skip
            have HV := Lib.hid (puR_0 (J := J) (xs := xs) (ks := fdat fs0) (ds := ds) (fs := fs) K1.out K2.out (by rw [HLm.out]; exact k3) (by rw [HLm.out]; exact k4) (by rw [HLm.out]; exact k5))
            have K3 := Lib.hid k3
            have K4 := Lib.hid (lstOk_t k4)
            have K5 := Lib.hid (lstOk_t k5)
            obtain rfl : n1 = m := by have h1 := K4.out.1; have h2 := HL1.out; omega
            obtain rfl : n2 = n1 := by have h1 := K5.out.1; have h2 := HL2.out; omega
            go_enter Try.func27, Try.ntmps27
            go_wp2_with fail; ((with_reducible refine HCM.out.mono ?_); rintro e w1 ⟨rfl, hb1⟩)
            have B1 := hb.trans (hb1.mono hb.size)
            have p0 := (hb1.cell (p := ⟨w.heap.size, 0, none⟩) z0).trans g0
            have p1 := (hb1.cell (p := ⟨w.heap.size, 1, none⟩) z0).trans g1
            have z1 := Nat.lt_of_lt_of_le z0 hb1.size
            have cc := HFL.out w1 B1
            rw [k2] at cc
            have HC := Lib.hid cc
            clear cc
            go_wp2_with fail; ((with_reducible refine HC.out.mono ?_); rintro e w2 ⟨rfl, hb2⟩)
            have B2 := B1.trans (hb2.mono B1.size)
            have p0 := (hb2.cell (p := ⟨w.heap.size, 0, none⟩) z1).trans p0
            have p1 := (hb2.cell (p := ⟨w.heap.size, 1, none⟩) z1).trans p1
            have z2 := Nat.lt_of_lt_of_le z1 hb2.size
            clear k2
            have cc := hasFlows_any J M n2 d A2 n2 c2 fs w2 (HW.out.2.2.2 _ B2) hn2
            rw [k5] at cc
            have HC := Lib.hid cc
            clear cc
            go_wp2_with fail; ((with_reducible refine HC.out.mono ?_); rintro e w3 ⟨rfl, hb3⟩)
            have B3 := B2.trans (hb3.mono B2.size)
            have p0 := (hb3.cell (p := ⟨w.heap.size, 0, none⟩) z2).trans p0
            have p1 := (hb3.cell (p := ⟨w.heap.size, 1, none⟩) z2).trans p1
            have z3 := Nat.lt_of_lt_of_le z2 hb3.size
            have cc := hasList_any J M n2 d A1 n2 c1 (-100000) 100000 ds w3 (HW.out.2.2.1 _ B3) hn1
            rw [k4] at cc
            have HC := Lib.hid cc
            clear cc
            go_wp2_with fail; ((with_reducible refine HC.out.mono ?_); rintro e w4 ⟨rfl, hb4⟩)
            have B4 := B3.trans (hb4.mono B3.size)
            have p0 := (hb4.cell (p := ⟨w.heap.size, 0, none⟩) z3).trans p0
            have p1 := (hb4.cell (p := ⟨w.heap.size, 1, none⟩) z3).trans p1
            have z4 := Nat.lt_of_lt_of_le z3 hb4.size
            have cc := hasFans_any J M n2 d A0 n0 c0 fs0 w4 (HW.out.2.1 _ B4) hn0 hmn
            rw [k3] at cc
            have HC := Lib.hid cc
            clear cc
            go_wp2_with fail; ((with_reducible refine HC.out.mono ?_); rintro e w5 ⟨rfl, hb5⟩)
            have B5 := B4.trans (hb5.mono B4.size)
            have p0 := (hb5.cell (p := ⟨w.heap.size, 0, none⟩) z4).trans p0
            have p1 := (hb5.cell (p := ⟨w.heap.size, 1, none⟩) z4).trans p1
            have z5 := Nat.lt_of_lt_of_le z4 hb5.size
            clear k3 k4 k5
            have cp := pushesOf_any A0 n0 c0 fs0 A1 n2 c1 ds A2 c2 fs w5 (HW.out.2.1 _ B5) K2.out K3.out (HW.out.2.2.1 _ B5) (HW.out.2.2.2 _ B5) hmn K4.out.2 K5.out.2
            have HCP := Lib.hid cp
            clear cp
            go_wp2_with fail; ((with_reducible refine HCP.out.mono ?_); rintro e w9 ⟨A', c', rfl, hown, hb9⟩)
            have HO := Lib.hid hown
            clear hown
            go_wp2
            go_ret2
            rw [HV.out]
            exact ⟨A', n2, c', rfl, by show World.ownsRow _ _ _ _ _ _ _; rw [HLk.out]; exact own_base HO.out B5.size, by omega, B5.trans (hb9.mono B5.size)⟩
          · have HV := Lib.hid (puR_7 (xs := xs) (ds := ds) (fs := fs) K1.out K2.out (by rw [HLm.out, k3]; simp))
            go_enter Try.func27, Try.ntmps27
            go_wp2_with fail; ((with_reducible refine HCM.out.mono ?_); rintro e w1 ⟨rfl, hb1⟩)
            have B1 := hb.trans (hb1.mono hb.size)
            have p0 := (hb1.cell (p := ⟨w.heap.size, 0, none⟩) z0).trans g0
            have p1 := (hb1.cell (p := ⟨w.heap.size, 1, none⟩) z0).trans g1
            have z1 := Nat.lt_of_lt_of_le z0 hb1.size
            have cc := HFL.out w1 B1
            rw [k2] at cc
            have HC := Lib.hid cc
            clear cc
            go_wp2_with fail; ((with_reducible refine HC.out.mono ?_); rintro e w2 ⟨rfl, hb2⟩)
            have B2 := B1.trans (hb2.mono B1.size)
            have p0 := (hb2.cell (p := ⟨w.heap.size, 0, none⟩) z1).trans p0
            have p1 := (hb2.cell (p := ⟨w.heap.size, 1, none⟩) z1).trans p1
            have z2 := Nat.lt_of_lt_of_le z1 hb2.size
            clear k2
            have cc := hasFlows_any J M m d A2 n2 c2 fs w2 (HW.out.2.2.2 _ B2) hn2
            rw [k5] at cc
            have HC := Lib.hid cc
            clear cc
            go_wp2_with fail; ((with_reducible refine HC.out.mono ?_); rintro e w3 ⟨rfl, hb3⟩)
            have B3 := B2.trans (hb3.mono B2.size)
            have p0 := (hb3.cell (p := ⟨w.heap.size, 0, none⟩) z2).trans p0
            have p1 := (hb3.cell (p := ⟨w.heap.size, 1, none⟩) z2).trans p1
            have z3 := Nat.lt_of_lt_of_le z2 hb3.size
            have cc := hasList_any J M m d A1 n1 c1 (-100000) 100000 ds w3 (HW.out.2.2.1 _ B3) hn1
            rw [k4] at cc
            have HC := Lib.hid cc
            clear cc
            go_wp2_with fail; ((with_reducible refine HC.out.mono ?_); rintro e w4 ⟨rfl, hb4⟩)
            have B4 := B3.trans (hb4.mono B3.size)
            have p0 := (hb4.cell (p := ⟨w.heap.size, 0, none⟩) z3).trans p0
            have p1 := (hb4.cell (p := ⟨w.heap.size, 1, none⟩) z3).trans p1
            have z4 := Nat.lt_of_lt_of_le z3 hb4.size
            have cc := hasFans_any J M m d A0 n0 c0 fs0 w4 (HW.out.2.1 _ B4) hn0 hmn
            rw [k3] at cc
            have HC := Lib.hid cc
            clear cc
            go_wp2_with fail; ((with_reducible refine HC.out.mono ?_); rintro e w5 ⟨rfl, hb5⟩)
            have B5 := B4.trans (hb5.mono B4.size)
            have p0 := (hb5.cell (p := ⟨w.heap.size, 0, none⟩) z4).trans p0
            have p1 := (hb5.cell (p := ⟨w.heap.size, 1, none⟩) z4).trans p1
            have z5 := Nat.lt_of_lt_of_le z4 hb5.size
            go_wp2
            go_ret2
            rw [HV.out]
            exact ⟨none, 0, 0, rfl, own_nil _ _ _ _, by omega, B5⟩
        · have HV := Lib.hid (puR_7 (xs := xs) (ds := ds) (fs := fs) K1.out K2.out (by rw [HLm.out, k4]; simp))
          go_enter Try.func27, Try.ntmps27
          go_wp2_with fail; ((with_reducible refine HCM.out.mono ?_); rintro e w1 ⟨rfl, hb1⟩)
          have B1 := hb.trans (hb1.mono hb.size)
          have p0 := (hb1.cell (p := ⟨w.heap.size, 0, none⟩) z0).trans g0
          have p1 := (hb1.cell (p := ⟨w.heap.size, 1, none⟩) z0).trans g1
          have z1 := Nat.lt_of_lt_of_le z0 hb1.size
          have cc := HFL.out w1 B1
          rw [k2] at cc
          have HC := Lib.hid cc
          clear cc
          go_wp2_with fail; ((with_reducible refine HC.out.mono ?_); rintro e w2 ⟨rfl, hb2⟩)
          have B2 := B1.trans (hb2.mono B1.size)
          have p0 := (hb2.cell (p := ⟨w.heap.size, 0, none⟩) z1).trans p0
          have p1 := (hb2.cell (p := ⟨w.heap.size, 1, none⟩) z1).trans p1
          have z2 := Nat.lt_of_lt_of_le z1 hb2.size
          clear k2
          have cc := hasFlows_any J M m d A2 n2 c2 fs w2 (HW.out.2.2.2 _ B2) hn2
          rw [k5] at cc
          have HC := Lib.hid cc
          clear cc
          go_wp2_with fail; ((with_reducible refine HC.out.mono ?_); rintro e w3 ⟨rfl, hb3⟩)
          have B3 := B2.trans (hb3.mono B2.size)
          have p0 := (hb3.cell (p := ⟨w.heap.size, 0, none⟩) z2).trans p0
          have p1 := (hb3.cell (p := ⟨w.heap.size, 1, none⟩) z2).trans p1
          have z3 := Nat.lt_of_lt_of_le z2 hb3.size
          have cc := hasList_any J M m d A1 n1 c1 (-100000) 100000 ds w3 (HW.out.2.2.1 _ B3) hn1
          rw [k4] at cc
          have HC := Lib.hid cc
          clear cc
          go_wp2_with fail; ((with_reducible refine HC.out.mono ?_); rintro e w4 ⟨rfl, hb4⟩)
          have B4 := B3.trans (hb4.mono B3.size)
          have p0 := (hb4.cell (p := ⟨w.heap.size, 0, none⟩) z3).trans p0
          have p1 := (hb4.cell (p := ⟨w.heap.size, 1, none⟩) z3).trans p1
          have z4 := Nat.lt_of_lt_of_le z3 hb4.size
          go_wp2
          go_ret2
          rw [HV.out]
          exact ⟨none, 0, 0, rfl, own_nil _ _ _ _, by omega, B4⟩
      · have HV := Lib.hid (puR_7 (xs := xs) (ds := ds) (fs := fs) K1.out K2.out (by rw [HLm.out, k5]; simp))
        go_enter Try.func27, Try.ntmps27
        go_wp2_with fail; ((with_reducible refine HCM.out.mono ?_); rintro e w1 ⟨rfl, hb1⟩)
        have B1 := hb.trans (hb1.mono hb.size)
        have p0 := (hb1.cell (p := ⟨w.heap.size, 0, none⟩) z0).trans g0
        have p1 := (hb1.cell (p := ⟨w.heap.size, 1, none⟩) z0).trans g1
        have z1 := Nat.lt_of_lt_of_le z0 hb1.size
        have cc := HFL.out w1 B1
        rw [k2] at cc
        have HC := Lib.hid cc
        clear cc
        go_wp2_with fail; ((with_reducible refine HC.out.mono ?_); rintro e w2 ⟨rfl, hb2⟩)
        have B2 := B1.trans (hb2.mono B1.size)
        have p0 := (hb2.cell (p := ⟨w.heap.size, 0, none⟩) z1).trans p0
        have p1 := (hb2.cell (p := ⟨w.heap.size, 1, none⟩) z1).trans p1
        have z2 := Nat.lt_of_lt_of_le z1 hb2.size
        clear k2
        have cc := hasFlows_any J M m d A2 n2 c2 fs w2 (HW.out.2.2.2 _ B2) hn2
        rw [k5] at cc
        have HC := Lib.hid cc
        clear cc
        go_wp2_with fail; ((with_reducible refine HC.out.mono ?_); rintro e w3 ⟨rfl, hb3⟩)
        have B3 := B2.trans (hb3.mono B2.size)
        have p0 := (hb3.cell (p := ⟨w.heap.size, 0, none⟩) z2).trans p0
        have p1 := (hb3.cell (p := ⟨w.heap.size, 1, none⟩) z2).trans p1
        have z3 := Nat.lt_of_lt_of_le z2 hb3.size
        go_wp2
        go_ret2
        rw [HV.out]
        exact ⟨none, 0, 0, rfl, own_nil _ _ _ _, by omega, B3⟩
    · have HV := Lib.hid (puR_1 (J := J) (xs := xs) (ks := fdat fs0) (ds := ds) (fs := fs) (by rw [k2]; simp))
      go_enter Try.func27, Try.ntmps27
      go_wp2_with fail; ((with_reducible refine HCM.out.mono ?_); rintro e w1 ⟨rfl, hb1⟩)
      have B1 := hb.trans (hb1.mono hb.size)
      have p0 := (hb1.cell (p := ⟨w.heap.size, 0, none⟩) z0).trans g0
      have p1 := (hb1.cell (p := ⟨w.heap.size, 1, none⟩) z0).trans g1
      have z1 := Nat.lt_of_lt_of_le z0 hb1.size
      have cc := HFL.out w1 B1
      rw [k2] at cc
      have HC := Lib.hid cc
      clear cc
      go_wp2_with fail; ((with_reducible refine HC.out.mono ?_); rintro e w2 ⟨rfl, hb2⟩)
      have B2 := B1.trans (hb2.mono B1.size)
      have p0 := (hb2.cell (p := ⟨w.heap.size, 0, none⟩) z1).trans p0
      have p1 := (hb2.cell (p := ⟨w.heap.size, 1, none⟩) z1).trans p1
      have z2 := Nat.lt_of_lt_of_le z1 hb2.size
      go_wp2
      go_ret2
      rw [HV.out]
      exact ⟨none, 0, 0, rfl, own_nil _ _ _ _, by omega, B2⟩
  · have HV := Lib.hid (puR_1 (J := J) (xs := xs) (ks := fdat fs0) (ds := ds) (fs := fs) (by rw [k1]; simp))
    rw [k1] at cm
    have HCM := Lib.hid cm
    clear cm k1
    go_enter Try.func27, Try.ntmps27
    go_wp2_with fail; ((with_reducible refine HCM.out.mono ?_); rintro e w1 ⟨rfl, hb1⟩)
    have B1 := hb.trans (hb1.mono hb.size)
    have p0 := (hb1.cell (p := ⟨w.heap.size, 0, none⟩) z0).trans g0
    have p1 := (hb1.cell (p := ⟨w.heap.size, 1, none⟩) z0).trans g1
    have z1 := Nat.lt_of_lt_of_le z0 hb1.size
    go_wp2
    go_ret2
    rw [HV.out]
    exact ⟨none, 0, 0, rfl, own_nil _ _ _ _, by omega, B1⟩
end Go.Proofs.Ytjmhhbjbmgpagaa
