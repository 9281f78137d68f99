/- Contracts of the sums of flows at a junction. -/
import Derived.Test.YtgbmpadlfcbcaaaLev
namespace Go.Proofs.Ytgbmpadlfcbcaaa
set_option linter.unusedVariables false
set_option linter.unusedSimpArgs false
open Go.RowKit
def exStep (j : Int) (x : Awy) (f : Int) : Int := if x.b == j then f else if x.a == j then -f else 0
def exTo (xs : List Awy) (fs : List Int) (j : Int) : Nat → Int
  | 0 => 0
  | k + 1 => exTo xs fs j k + exStep j (xs.getD k default) (fs.getD k 0)
theorem exTo_snoc {xs : List Awy} {fs : List Int} {j : Int} {k : Nat} {x : Awy} {f : Int} (hx : xs[k]? = some x) (hf : fs[k]? = some f) : exTo xs fs j (k + 1) = exTo xs fs j k + exStep j x f := by
  show _ + exStep j (xs.getD k default) (fs.getD k 0) = _
  rw [List.getD_eq_getElem?_getD, List.getD_eq_getElem?_getD, hx, hf]; rfl
theorem exTo_bnd {xs : List Awy} {fs : List Int} {j : Int} (h : ∀ f ∈ fs, -100000 ≤ f ∧ f ≤ 100000) : ∀ k : Nat, -(100000 * (k : Int)) ≤ exTo xs fs j k ∧ exTo xs fs j k ≤ 100000 * k
  | 0 => by simp [exTo]
  | k + 1 => by
    have ih := exTo_bnd (xs := xs) (j := j) h k
    have hg : -100000 ≤ fs.getD k 0 ∧ fs.getD k 0 ≤ 100000 := by
      rw [List.getD_eq_getElem?_getD]
      cases e : fs[k]? with
      | none => simp
      | some f => exact h f (List.mem_of_getElem? e)
    simp only [exTo, exStep]
    split
    · omega
    · split <;> omega
def balOk (J : Int) (xs : List Awy) (fs : List Int) : Bool := allUpto J.toNat (fun j => exTo xs fs j xs.length == 0)
def isBal (J : Int) (xs : List Awy) (fs : List Int) : Bool := mineOk J xs && lstOk xs.length (-100000) 100000 fs && balOk J xs fs
def imbR (J : Int) (xs : List Awy) (fs : List Int) (j : Int) : Int × Int :=
  if mineOk J xs = true then (if inB j 0 (J - 1) = true then (if lstOk xs.length (-100000) 100000 fs = true then (exTo xs fs j xs.length, 0) else (0, 7)) else (0, 2)) else (0, 1)
set_option maxHeartbeats 1600000 in
theorem l07Excess_any (J : Int) (M : Option Addr) (m d : Nat) (xs : List Awy) (A : Option Addr) (n c : Nat) (fs : List Int) (j : Int) (p : Addr) (w : World) (hm : Reads w w.heap.size 7 M m (Awy.recs xs)) (hr : Reads w w.heap.size 1 A n (ints fs))
    (hok : mineOk J xs = true) (hl : lstOk xs.length (-100000) 100000 fs = true) (hp1 : w.cell? ⟨p.block, p.off + 1, none⟩ = some (.slice M m d)) :
    Calls Try.prog 65 #[.pointer (some p), .slice A n c, .int .i64 j] w fun e w' => e = .returned (.int .i64 (exTo xs fs j xs.length)) ∧ w = w' := by
  have HO := Lib.hid (mineOk_t hok)
  have HF := Lib.hid (lstOk_t hl).2
  have HLL := Lib.hid hl
  have HLm := Lib.hid (recs_rlen Awy.clen (by omega) hm)
  have hm24 : m ≤ 24 := by have := HO.out.2.1; rw [HLm.out] at this; exact this
  clear hok hl
  go_enter Try.func65, Try.ntmps65
  go_wp2
  go_loop [7, 8] (fun s i => ∃ k : Nat, k ≤ m ∧ i = .int .i64 k ∧ s = .int .i64 (exTo xs fs j k)) (fun _ i => m - (intOf i).toNat)
  case atStart => exact ⟨0, by omega, rfl, rfl⟩
  case round =>
    obtain ⟨k, hk, rfl, rfl⟩ := hrel
    obtain ⟨s1, s2⟩ := exTo_bnd (xs := xs) (j := j) HF.out k
    by_cases hlt : k < m
    · obtain ⟨ad, x, rfl, had, hx, hc⟩ := hm.rec_at Awy.clen (by omega) hlt
      obtain ⟨a0, a1, a2, a3, a4, a5, a6⟩ := Awy.open_ hc
      have HNE := Lib.hid (HO.out.2.2 x (List.mem_of_getElem? hx))
      obtain ⟨f, hf, f1, f2⟩ := lst_at HLL.out (k := k) (by rw [HLm.out]; omega)
      obtain ⟨af, rfl, haf, hkn, hcf⟩ := hr.int_at hf
      have HS := Lib.hid (exTo_snoc (j := j) hx hf)
      have hltI : (k : Int) < (n : Int) := by omega
      clear hx hf hc
      rcases Bool.eq_false_or_eq_true (x.b == j) with hb | hb <;> rcases Bool.eq_false_or_eq_true (x.a == j) with ha | ha
      · exfalso
        have e1 := eq_of_beq hb
        have e2 := eq_of_beq ha
        exact (awyOk_t HNE.out.1).2.2.1 (e2.trans e1.symm)
      all_goals
        have HE : Hid (exTo xs fs j (k + 1) = exTo xs fs j k + exStep j x f) := HS.out
        have HB := Lib.hid hb
        have HA := Lib.hid ha
        go_wp2
        go_round
        case rel => exact ⟨k + 1, by omega, by go_num, by rw [HE.out]; unfold exStep; rw [HB.out, HA.out]; first | rfl | simp [Int.sub_eq_add_neg] | simp⟩
        case measure => simp [intOf]; omega
    · have e : k = m := by omega
      go_wp2
      go_ret
      exact ⟨ret_int (by first | rw [HLm.out] | rw [e, HLm.out]), rfl⟩
set_option maxHeartbeats 1600000 in
theorem l07Balanced_any (J : Int) (M : Option Addr) (m d : Nat) (xs : List Awy) (A : Option Addr) (n c : Nat) (fs : List Int) (p : Addr) (w : World) (hm : Reads w w.heap.size 7 M m (Awy.recs xs)) (hr : Reads w w.heap.size 1 A n (ints fs))
    (hok : mineOk J xs = true) (hl : lstOk xs.length (-100000) 100000 fs = true) (hp0 : w.cell? p = some (.int .i64 J)) (hp1 : w.cell? ⟨p.block, p.off + 1, none⟩ = some (.slice M m d)) :
    Calls Try.prog 61 #[.pointer (some p), .slice A n c] w fun e w' => e = .returned (.bool (balOk J xs fs)) ∧ w = w' := by
  have hJ := (mineOk_t hok).1
  obtain ⟨N, rfl⟩ : ∃ N : Nat, J = N := ⟨J.toNat, by omega⟩
  have HC : Hid (∀ j : Int, Calls Try.prog 65 #[.pointer (some p), .slice A n c, .int .i64 j] w fun e w' => e = .returned (.int .i64 (exTo xs fs j xs.length)) ∧ w = w') := fun j => l07Excess_any N M m d xs A n c fs j p w hm hr hok hl hp1
  have hN : N ≤ 16 := by omega
  clear hok hl hm hr hJ
  go_enter Try.func61, Try.ntmps61
  go_wp2
  go_loop [5] (fun i => ∃ k : Nat, k ≤ N ∧ i = .int .i64 k ∧ Hid (∀ j, j < k → (exTo xs fs (j : Nat) xs.length == 0) = true)) (fun i => N - (intOf i).toNat)
  case atStart => exact ⟨0, by omega, rfl, fun j hj => absurd hj (Nat.not_lt_zero _)⟩
  case round =>
    obtain ⟨k, hk, rfl, HK⟩ := hrel
    by_cases hlt : k < N
    · cases hz : (exTo xs fs (k : Int) xs.length == 0)
      · have HZ := Lib.hid hz
        have hz' : (exTo xs fs (k : Int) xs.length != 0) = true := by rw [bne, hz]; rfl
        go_wp2_with (go_at_call 65; refine (HC.out _).mono ?_; rintro e w' ⟨rfl, rfl⟩)
        go_ret
        exact ⟨ret_bool (by unfold balOk; rw [allUpto_f (k := k) (by omega) HZ.out]), rfl⟩
      · have HZ := Lib.hid hz
        have hz' : (exTo xs fs (k : Int) xs.length != 0) = false := by rw [bne, hz]; rfl
        go_wp2_with (go_at_call 65; refine (HC.out _).mono ?_; rintro e w' ⟨rfl, rfl⟩)
        go_round
        case rel => exact ⟨k + 1, by omega, by go_num, upto_succ1 (f := fun j => exTo xs fs (j : Nat) xs.length == 0) HK.out HZ.out⟩
        case measure => simp [intOf]; omega
    · have e : k = N := by omega
      have HV : Hid (balOk N xs fs = true) := allUpto_t (by intro j hj; exact HK.out j (by omega))
      clear e
      go_wp2
      go_ret
      exact ⟨ret_bool HV.out.symm, rfl⟩
set_option maxHeartbeats 1600000 in
theorem specIsBalanced_any (J : Int) (M : Option Addr) (m d : Nat) (xs : List Awy) (A : Option Addr) (n c : Nat) (fs : List Int) (w : World) (hm : Reads w w.heap.size 7 M m (Awy.recs xs)) (hmn : m ≤ 1048576) (hxs : ∀ x ∈ xs, x.s.size ≤ maxLen) (hr : Reads w w.heap.size 1 A n (ints fs)) (hn : n ≤ 1048576) :
    Calls Try.prog 21 #[.agg #[.int .i64 J, .slice M m d], .slice A n c] w fun e w' => e = .returned (.bool (isBal J xs fs)) ∧ Below w.heap.size w w' := by
  have HLm := Lib.hid (recs_rlen Awy.clen (by omega) hm)
  have hb : Below w.heap.size w (w.alloc (.cells #[.int .i64 J, .slice M m d] 31)) := (Below.refl _ _).alloc (Nat.le_refl _) _
  have cc := l04Ok_any J M m d xs ⟨w.heap.size, 0, none⟩ _ ((hm.below hb).more hb.size) hmn hxs (Cells.new w _ _)
  have HXX := Lib.hid hxs
  clear hxs
  go_enter Try.func21, Try.ntmps21
  go_wp2_with fail; ((with_reducible refine (cc).mono ?_); rintro e w1 ⟨rfl, hb1⟩)
  have B1 : Below w.heap.size w w1 := hb.trans (hb1.mono (by simp))
  have z1 : w.heap.size < w1.heap.size := by have h := hb1.size; simp at h; omega
  have g0 : w1.cell? ⟨w.heap.size, 0, none⟩ = some (.int .i64 J) := (hb1.cell (p := ⟨w.heap.size, 0, none⟩) (by simp)).trans (by go_simp)
  have g1 : w1.cell? ⟨w.heap.size, 1, none⟩ = some (.slice M m d) := (hb1.cell (p := ⟨w.heap.size, 1, none⟩) (by simp)).trans (by go_simp)
  have hm1 := (hm.below B1).more B1.size
  have hr1 := (hr.below B1).more B1.size
  clear cc hb hb1
  rcases Bool.eq_false_or_eq_true (mineOk J xs) with hok | hok
  · rcases Bool.eq_false_or_eq_true (lstOk m (-100000) 100000 fs) with hl | hl
    · have hl2 : lstOk xs.length (-100000) 100000 fs = true := by rw [HLm.out]; exact hl
      have HL2 := Lib.hid hl2
      have HOK := Lib.hid hok
      have cb := l07Balanced_any J M m d xs A n c fs ⟨w.heap.size, 0, none⟩ w1 hm1 hr1 hok hl2 g0 g1
      have cf := l07Flows_any m M d ⟨w.heap.size, 0, none⟩ A n c fs w1 hr1 hn g1
      rw [hl] at cf
      clear hl2
      go_wp2_with (first | (go_at_call 60; refine cf.mono ?_; rintro e w' ⟨rfl, rfl⟩) | (go_at_call 61; refine cb.mono ?_; rintro e w' ⟨rfl, rfl⟩))
      go_ret
      exact ⟨ret_bool (by unfold isBal; rw [HOK.out, HL2.out]; rfl), B1⟩
    · have hl2 : Hid (lstOk xs.length (-100000) 100000 fs = false) := show _ = _ by rw [HLm.out]; exact hl
      have cf := l07Flows_any m M d ⟨w.heap.size, 0, none⟩ A n c fs w1 hr1 hn g1
      rw [hl] at cf
      go_wp2_with (first | (go_at_call 60; refine cf.mono ?_; rintro e w' ⟨rfl, rfl⟩))
      go_ret
      exact ⟨ret_bool (by unfold isBal; rw [hl2.out]; simp), B1⟩
  · have HOK := Lib.hid hok
    go_wp2
    go_ret
    exact ⟨ret_bool (by unfold isBal; rw [HOK.out]; rfl), B1⟩
set_option maxHeartbeats 1600000 in
theorem specImbalanceAt_any (J : Int) (M : Option Addr) (m d : Nat) (xs : List Awy) (A : Option Addr) (n c : Nat) (fs : List Int) (j : Int) (w : World) (hm : Reads w w.heap.size 7 M m (Awy.recs xs)) (hmn : m ≤ 1048576) (hxs : ∀ x ∈ xs, x.s.size ≤ maxLen) (hr : Reads w w.heap.size 1 A n (ints fs)) (hn : n ≤ 1048576) :
    Calls Try.prog 23 #[.agg #[.int .i64 J, .slice M m d], .slice A n c, .int .i64 j] w fun e w' => e = .returned (.tuple #[.int .i64 (imbR J xs fs j).1, .int .i64 (imbR J xs fs j).2]) ∧ Below w.heap.size w w' := by
  have HLm := Lib.hid (recs_rlen Awy.clen (by omega) hm)
  have hb : Below w.heap.size w (w.alloc (.cells #[.int .i64 J, .slice M m d] 31)) := (Below.refl _ _).alloc (Nat.le_refl _) _
  have cc := l04Ok_any J M m d xs ⟨w.heap.size, 0, none⟩ _ ((hm.below hb).more hb.size) hmn hxs (Cells.new w _ _)
  have HXX := Lib.hid hxs
  clear hxs
  go_enter Try.func23, Try.ntmps23
  go_wp2_with fail; ((with_reducible refine (cc).mono ?_); rintro e w1 ⟨rfl, hb1⟩)
  have B1 : Below w.heap.size w w1 := hb.trans (hb1.mono (by simp))
  have z1 : w.heap.size < w1.heap.size := by have h := hb1.size; simp at h; omega
  have g0 : w1.cell? ⟨w.heap.size, 0, none⟩ = some (.int .i64 J) := (hb1.cell (p := ⟨w.heap.size, 0, none⟩) (by simp)).trans (by go_simp)
  have g1 : w1.cell? ⟨w.heap.size, 1, none⟩ = some (.slice M m d) := (hb1.cell (p := ⟨w.heap.size, 1, none⟩) (by simp)).trans (by go_simp)
  have hm1 := (hm.below B1).more B1.size
  have hr1 := (hr.below B1).more B1.size
  clear cc hb hb1
  rcases Bool.eq_false_or_eq_true (mineOk J xs) with hok | hok
  · obtain ⟨⟨j1, j2⟩, _⟩ := mineOk_t hok
    rcases Bool.eq_false_or_eq_true (inB j 0 (J - 1)) with hj | hj
    · have cj := l04Junction_any J j ⟨w.heap.size, 0, none⟩ w1 (by omega) (by omega) g0
      rw [hj] at cj
      rcases Bool.eq_false_or_eq_true (lstOk m (-100000) 100000 fs) with hl | hl
      · have hl2 : lstOk xs.length (-100000) 100000 fs = true := by rw [HLm.out]; exact hl
        have HV : Hid (imbR J xs fs j = (exTo xs fs j xs.length, 0)) := show _ = _ by unfold imbR; rw [if_pos hok, if_pos hj, if_pos hl2]
        have cb := l07Excess_any J M m d xs A n c fs j ⟨w.heap.size, 0, none⟩ w1 hm1 hr1 hok hl2 g1
        have cf := l07Flows_any m M d ⟨w.heap.size, 0, none⟩ A n c fs w1 hr1 hn g1
        rw [hl] at cf
        clear hl2 hj
        go_wp2_with (first | (go_at_call 64; refine cj.mono ?_; rintro e w' ⟨rfl, rfl⟩) | (go_at_call 60; refine cf.mono ?_; rintro e w' ⟨rfl, rfl⟩) | (go_at_call 65; refine cb.mono ?_; rintro e w' ⟨rfl, rfl⟩))
        go_ret2
        exact ⟨by rw [HV.out]; rfl, B1⟩
      · have hl2 : ¬ lstOk xs.length (-100000) 100000 fs = true := by rw [HLm.out, hl]; exact Bool.false_ne_true
        have HV : Hid (imbR J xs fs j = (0, 7)) := show _ = _ by unfold imbR; rw [if_pos hok, if_pos hj, if_neg hl2]
        have cf := l07Flows_any m M d ⟨w.heap.size, 0, none⟩ A n c fs w1 hr1 hn g1
        rw [hl] at cf
        clear hl2 hj
        go_wp2_with (first | (go_at_call 64; refine cj.mono ?_; rintro e w' ⟨rfl, rfl⟩) | (go_at_call 60; refine cf.mono ?_; rintro e w' ⟨rfl, rfl⟩))
        go_ret2
        exact ⟨by rw [HV.out]; rfl, B1⟩
    · have cj := l04Junction_any J j ⟨w.heap.size, 0, none⟩ w1 (by omega) (by omega) g0
      rw [hj] at cj
      have HV : Hid (imbR J xs fs j = (0, 2)) := show _ = _ by unfold imbR; rw [if_pos hok, if_neg (by rw [hj]; exact Bool.false_ne_true)]
      clear hj
      go_wp2_with (first | (go_at_call 64; refine cj.mono ?_; rintro e w' ⟨rfl, rfl⟩))
      go_ret2
      exact ⟨by rw [HV.out]; rfl, B1⟩
  · have HV : Hid (imbR J xs fs j = (0, 1)) := show _ = _ by unfold imbR; rw [if_neg (by rw [hok]; exact Bool.false_ne_true)]
    go_wp2
    go_ret2
    exact ⟨by rw [HV.out]; rfl, B1⟩
end Go.Proofs.Ytgbmpadlfcbcaaa
