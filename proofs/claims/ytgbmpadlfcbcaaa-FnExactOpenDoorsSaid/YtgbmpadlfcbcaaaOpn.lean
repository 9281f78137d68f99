/- Contracts of OpenDoors. -/
import Derived.Test.YtgbmpadlfcbcaaaDrsI
import Derived.Test.YtgbmpadlfcbcaaaRst
import Derived.Test.YtgbmpadlfcbcaaaWarm
import Derived.StillTailTactics
namespace Go.Proofs.Ytgbmpadlfcbcaaa
set_option linter.unusedVariables false
set_option linter.unusedSimpArgs false
open Go.RowKit
def addOf (x : Dor) (s : Bool) : Int := bif s then x.b else x.c
def odTo (xs : List Dor) (ss : List Bool) (k : Int) : Nat → Int
  | 0 => 0
  | i + 1 => odTo xs ss k i + (if (xs.getD i default).a == k then addOf (xs.getD i default) (ss.getD i false) else 0)
theorem getD_any {α : Type} {l : List α} {k : Nat} {x d : α} (h : l[k]? = some x) : l.getD k d = x := by rw [List.getD_eq_getElem?_getD, h]; rfl
theorem odTo_y {xs : List Dor} {ss : List Bool} {k : Int} {i : Nat} {x : Dor} {s : Bool} (hx : xs[i]? = some x) (hs : ss[i]? = some s) (h : (x.a == k) = true) : odTo xs ss k (i + 1) = odTo xs ss k i + addOf x s := by
  simp only [odTo]; rw [getD_any hx, getD_any hs, if_pos h]
theorem odTo_n {xs : List Dor} {ss : List Bool} {k : Int} {i : Nat} {x : Dor} (hx : xs[i]? = some x) (h : (x.a == k) = false) : odTo xs ss k (i + 1) = odTo xs ss k i := by
  simp only [odTo]; rw [getD_any hx, if_neg (by rw [h]; exact Bool.false_ne_true)]; omega
theorem add_bnd {x : Dor} (h : dorOk x = true) (s : Bool) : 1 ≤ addOf x s ∧ addOf x s ≤ 1000000 := by
  obtain ⟨_, h1, h2⟩ := dorOk_t h
  cases s
  · show 1 ≤ x.c ∧ x.c ≤ 1000000; omega
  · show 1 ≤ x.b ∧ x.b ≤ 1000000; omega
theorem odTo_bnd {xs : List Dor} {ss : List Bool} {k : Int} (h : ∀ x ∈ xs, dorOk x = true) : ∀ i : Nat, i ≤ xs.length → 0 ≤ odTo xs ss k i ∧ odTo xs ss k i ≤ 1000000 * (i : Int)
  | 0, _ => by simp [odTo]
  | i + 1, hi => by
    have ih := odTo_bnd (ss := ss) (k := k) h i (by omega)
    have hx : xs[i]? = some xs[i] := List.getElem?_eq_getElem (by omega)
    simp only [odTo]
    rw [getD_any hx]
    have hb := add_bnd (h _ (List.getElem_mem (show i < xs.length by omega))) (ss.getD i false)
    split <;> omega
def opTo (aw : List Awy) (xs : List Dor) (ss : List Bool) : Nat → List Int
  | 0 => aw.map resI
  | i + 1 => (opTo aw xs ss i).set (xs.getD i default).a.toNat ((opTo aw xs ss i).getD (xs.getD i default).a.toNat 0 + addOf (xs.getD i default) (ss.getD i false))
theorem opTo_len (aw : List Awy) (xs : List Dor) (ss : List Bool) : ∀ i, (opTo aw xs ss i).length = aw.length
  | 0 => by simp [opTo]
  | i + 1 => by simp only [opTo]; rw [List.length_set]; exact opTo_len aw xs ss i
theorem opTo_snoc {aw : List Awy} {xs : List Dor} {ss : List Bool} {i t : Nat} {x : Dor} {s : Bool} {v : Int} (hx : xs[i]? = some x) (hs : ss[i]? = some s) (ht : x.a = (t : Int)) (hv : (opTo aw xs ss i)[t]? = some v) : opTo aw xs ss (i + 1) = (opTo aw xs ss i).set t (v + addOf x s) := by
  simp only [opTo]; rw [getD_any hx, getD_any hs, ht, Int.toNat_natCast, getD_any hv]
theorem opTo_at {aw : List Awy} {xs : List Dor} {ss : List Bool} (h : ∀ x ∈ xs, 0 ≤ x.a ∧ x.a < (aw.length : Int)) (hl : ss.length = xs.length) {k : Nat} {y : Awy} (hy : aw[k]? = some y) : ∀ i, i ≤ xs.length → (opTo aw xs ss i)[k]? = some (resI y + odTo xs ss k i)
  | 0, _ => by simp [opTo, odTo, hy]
  | i + 1, hi => by
    have ih := opTo_at h hl hy i (by omega)
    have hx : xs[i]? = some xs[i] := List.getElem?_eq_getElem (by omega)
    have hs : ss[i]? = some (ss[i]'(by omega)) := List.getElem?_eq_getElem (by omega)
    obtain ⟨h0, h1⟩ := h _ (List.getElem_mem (show i < xs.length by omega))
    obtain ⟨t, ht⟩ : ∃ t : Nat, xs[i].a = t := ⟨xs[i].a.toNat, by omega⟩
    have hv : (opTo aw xs ss i)[t]? = some ((opTo aw xs ss i)[t]'(by rw [opTo_len]; omega)) := List.getElem?_eq_getElem _
    rw [opTo_snoc hx hs ht hv, List.getElem?_set]
    have hk : k < aw.length := by
      rcases Nat.lt_or_ge k aw.length with h2 | h2
      · exact h2
      · rw [List.getElem?_eq_none h2] at hy; cases hy
    by_cases e : t = k
    · subst e
      rw [if_pos rfl, if_pos (by rw [opTo_len]; omega)]
      have e2 := odTo_y (k := (t : Int)) hx hs (by rw [ht]; exact beq_self_eq_true _)
      rw [hv] at ih
      injection ih with ih
      rw [e2, ih]
      congr 1
      omega
    · rw [if_neg e, ih, odTo_n (k := (k : Int)) hx (by rw [ht]; exact beq_eq_false_iff_ne.2 (by omega))]
def opR (J : Int) (aw : List Awy) (xs : List Dor) (ss : List Bool) : List Int × Int :=
  if doorsOk J aw xs = true then (if ss.length = xs.length then (if allIn 1 1000000 (opTo aw xs ss xs.length) = true then (opTo aw xs ss xs.length, 0) else ([], 6)) else ([], 7)) else ([], 1)
section
variable {J : Int} {aw : List Awy} {xs : List Dor} {ss : List Bool}
theorem opR_1 (h : doorsOk J aw xs = false) : opR J aw xs ss = ([], 1) := by unfold opR; rw [h]; rfl
theorem opR_7 (h : doorsOk J aw xs = true) (h1 : ss.length ≠ xs.length) : opR J aw xs ss = ([], 7) := by unfold opR; rw [if_pos h, if_neg h1]
theorem opR_6 (h : doorsOk J aw xs = true) (h1 : ss.length = xs.length) (h2 : allIn 1 1000000 (opTo aw xs ss xs.length) = false) : opR J aw xs ss = ([], 6) := by unfold opR; rw [if_pos h, if_pos h1, h2]; rfl
theorem opR_0 (h : doorsOk J aw xs = true) (h1 : ss.length = xs.length) (h2 : allIn 1 1000000 (opTo aw xs ss xs.length) = true) : opR J aw xs ss = (opTo aw xs ss xs.length, 0) := by unfold opR; rw [if_pos h, if_pos h1, if_pos h2]
theorem op_bad {k : Nat} {y : Awy} (h : doorsOk J aw xs = true) (h1 : ss.length = xs.length) (hy : aw[k]? = some y) (hb : 1000000 < resI y + odTo xs ss k xs.length) : allIn 1 1000000 (opTo aw xs ss xs.length) = false := by
  have hd := doorsOk_t h
  have hv := opTo_at (fun x hx => (hd.2.2 x hx).2) h1 hy xs.length (Nat.le_refl _)
  unfold allIn
  rw [List.all_eq_false]
  exact ⟨_, List.mem_of_getElem? hv, by unfold inB; rw [decide_eq_false (by omega)]; exact Bool.false_ne_true⟩
theorem op_bad1 {k : Nat} {y : Awy} (h : doorsOk J aw xs = true) (h1 : ss.length = xs.length) (hy : aw[k]? = some y) (hb : 1000000 < resI y) : allIn 1 1000000 (opTo aw xs ss xs.length) = false := by
  have := (odTo_bnd (ss := ss) (k := (k : Int)) (fun x hx => ((doorsOk_t h).2.2 x hx).1) xs.length (Nat.le_refl _)).1
  exact op_bad h h1 hy (by omega)
theorem op_badR (h : doorsOk J aw xs = true) (h1 : ss.length = xs.length) (hb : allIn 1 1000000 (aw.map resI) = false) : allIn 1 1000000 (opTo aw xs ss xs.length) = false := by
  unfold allIn at hb
  rw [List.all_eq_false] at hb
  obtain ⟨v, hv, hp⟩ := hb
  obtain ⟨y, hy, rfl⟩ := List.mem_map.1 hv
  obtain ⟨k, hk⟩ := List.getElem?_of_mem hy
  have h2 : 1 ≤ resI y := by unfold resI; omega
  refine op_bad1 h h1 hk ?_
  rcases Int.lt_or_le 1000000 (resI y) with h3 | h3
  · exact h3
  · exact absurd (show inB (resI y) 1 1000000 = true by unfold inB; exact decide_eq_true (by omega)) hp
theorem op_good (h : doorsOk J aw xs = true) (h1 : ss.length = xs.length) (hb : ∀ (k : Nat) (y : Awy), aw[k]? = some y → resI y + odTo xs ss k xs.length ≤ 1000000) : allIn 1 1000000 (opTo aw xs ss xs.length) = true := by
  have hd := doorsOk_t h
  unfold allIn
  rw [List.all_eq_true]
  intro v hv
  obtain ⟨k, hk⟩ := List.getElem?_of_mem hv
  have hkl : k < aw.length := by
    rcases Nat.lt_or_ge k aw.length with h2 | h2
    · exact h2
    · rw [List.getElem?_eq_none (by rw [opTo_len]; exact h2)] at hk; cases hk
  have hy : aw[k]? = some aw[k] := List.getElem?_eq_getElem hkl
  have hv2 := opTo_at (fun x hx => (hd.2.2 x hx).2) h1 hy xs.length (Nat.le_refl _)
  rw [hk] at hv2
  injection hv2 with hv2
  have h3 := hb k _ hy
  have h4 := (odTo_bnd (ss := ss) (k := (k : Int)) (fun x hx => (hd.2.2 x hx).1) xs.length (Nat.le_refl _)).1
  have h5 : 1 ≤ resI aw[k] := by unfold resI; omega
  unfold inB
  exact decide_eq_true (by omega)
end
/-- The first k numbers of the reference's list. -/
def opL (aw : List Awy) (xs : List Dor) (ss : List Bool) (k : Nat) : List Int := (opTo aw xs ss xs.length).take k
theorem opL_snoc {aw : List Awy} {xs : List Dor} {ss : List Bool} {k : Nat} {y : Awy} (h : ∀ x ∈ xs, 0 ≤ x.a ∧ x.a < (aw.length : Int)) (hl : ss.length = xs.length) (hy : aw[k]? = some y) : opL aw xs ss (k + 1) = opL aw xs ss k ++ [resI y + odTo xs ss k xs.length] := by
  unfold opL
  rw [take_snoc (opTo_at h hl hy xs.length (Nat.le_refl _))]
theorem opL_all {aw : List Awy} {xs : List Dor} {ss : List Bool} {k : Nat} (hk : aw.length = k) : opL aw xs ss k = opTo aw xs ss xs.length := by
  unfold opL
  rw [List.take_of_length_le (by rw [opTo_len]; omega)]
def opS (aw : List Awy) (xs : List Dor) (ss : List Bool) : List Int × Int := if allIn 1 1000000 (opTo aw xs ss xs.length) = true then (opTo aw xs ss xs.length, 0) else ([], 6)
theorem opS_0 {aw : List Awy} {xs : List Dor} {ss : List Bool} (h : allIn 1 1000000 (opTo aw xs ss xs.length) = true) : opS aw xs ss = (opTo aw xs ss xs.length, 0) := by unfold opS; rw [if_pos h]
theorem opS_6 {aw : List Awy} {xs : List Dor} {ss : List Bool} (h : allIn 1 1000000 (opTo aw xs ss xs.length) = false) : opS aw xs ss = ([], 6) := by unfold opS; rw [h]; rfl
theorem opR_S {J : Int} {aw : List Awy} {xs : List Dor} {ss : List Bool} (h : doorsOk J aw xs = true) (h1 : ss.length = xs.length) : opR J aw xs ss = opS aw xs ss := by
  unfold opR opS; rw [if_pos h, if_pos h1]
theorem bools_rlen {w : World} {B n : Nat} {A : Option Addr} {ss : List Bool} (h : Reads w B 1 A n (bools ss)) : ss.length = n := by have := h.1; unfold bools at this; simpa using this
theorem Reads.bool_at {w : World} {B n : Nat} {A : Option Addr} {ss : List Bool} (hr : Reads w B 1 A n (bools ss)) {k : Nat} (hk : k < n) : ∃ ad s, A = some ad ∧ ad.block < B ∧ ss[k]? = some s ∧ w.cell? (ad.add k) = some (.bool s) := by
  obtain ⟨ad, u, e, had, hx, hc⟩ := hr.at_ hk
  obtain ⟨b, hb, rfl⟩ := bools_at hx
  exact ⟨ad, b, e, had, hb, hc⟩
set_option maxHeartbeats 3200000 in
set_option maxRecDepth 100000 in
theorem l10Resistances_any (J : Int) (M : Option Addr) (m d : Nat) (aw : List Awy) (A : Option Addr) (n c : Nat) (xs : List Dor) (A2 : Option Addr) (n2 c2 : Nat) (ss : List Bool) (p : Addr) (w : World) (hm : Reads w w.heap.size 7 M m (Awy.recs aw))
    (hr : Reads w w.heap.size 4 A n (Dor.recs xs)) (hr2 : Reads w w.heap.size 1 A2 n2 (bools ss)) (hp1 : w.cell? ⟨p.block, p.off + 1, none⟩ = some (.slice M m d)) (hok : doorsOk J aw xs = true) (hss : ss.length = xs.length) :
    Calls Try.prog 98 #[.pointer (some p), .slice A n c, .slice A2 n2 c2] w fun e w' => ∃ A' n' c', e = .returned (.tuple #[.slice A' n' c', .int .i64 (opS aw xs ss).2]) ∧ w'.ownsRow w.heap.size 2 1 (.slice A' n' c') n' (ints (opS aw xs ss).1) ∧ n' ≤ 1048576 ∧ Below w.heap.size w w' := by
  obtain ⟨i0, hi0, hz0, hz1, hz2⟩ := info_parts info_Int64S
  have HLm := Lib.hid (recs_rlen Awy.clen (by omega) hm)
  have HLn := Lib.hid (recs_rlen Dor.clen (by omega) hr)
  have HL2 := Lib.hid (bools_rlen hr2)
  have HD := Lib.hid (doorsOk_t hok)
  have HOK := Lib.hid hok
  have HSS := Lib.hid hss
  have HO := Lib.hid (mineOk_t HD.out.1)
  have hm24 : m ≤ 24 := by have := HO.out.2.1; rw [HLm.out] at this; exact this
  have hn8 : n ≤ 8 := by have := HD.out.2.1; rw [HLn.out] at this; exact this
  have hn2 : n2 = n := by have h1 := HL2.out; have h2 := HLn.out; omega
  have hpl : p.block < w.heap.size := block_lt_of_cell (a := ⟨p.block, p.off + 1, none⟩) hp1
  have HB := Lib.hid (fun (k : Int) => odTo_bnd (ss := ss) (k := k) (fun x hx => (HD.out.2.2 x hx).1))
  subst hn2
  clear hok hss
  go_enter Try.func98, Try.ntmps98
  go_wp2
  go_loopw [8, 9] (fun o i wr => ∃ (k : Nat) (A' : Option Addr) (c' : Nat), k ≤ m ∧ o = .slice A' k c' ∧ i = .int .i64 k ∧ wr.ownsRow w.heap.size 2 1 (.slice A' k c') k (ints (opL aw xs ss k)) ∧ Hid (∀ (j : Nat) (y : Awy), j < k → aw[j]? = some y → resI y + odTo xs ss j xs.length ≤ 1000000) ∧ Below w.heap.size w wr) (fun _ i _ => m - (intOf i).toNat)
  case atStart => exact ⟨0, _, 0, by omega, rfl, rfl, own_empty _ _ _, (fun j y hj _ => absurd hj (Nat.not_lt_zero _)), (Below.refl _ _).alloc (Nat.le_refl _) _⟩
  case round =>
    obtain ⟨k, A', c', hk, rfl, rfl, hown, HK, hbr⟩ := hrel
    obtain ⟨wo, rfl⟩ : ∃ wo : World, wo = wr := ⟨_, rfl⟩
    have g1 : wo.cell? ⟨p.block, p.off + 1, none⟩ = some (.slice M m d) := (hbr.cell (p := ⟨p.block, p.off + 1, none⟩) hpl).trans hp1
    by_cases hlt : k < m
    · obtain ⟨ad, x, rfl, had, hx, hc⟩ := (hm.below hbr).rec_at Awy.clen (by omega) hlt
      have hax := (HO.out.2.2 x (List.mem_of_getElem? hx)).1
      obtain ⟨_, _, _, _, _, _, _, r1, r2⟩ := raw_in hax
      have r3 : 1 ≤ resI x ∧ resI x ≤ 44000000000000000 := by unfold resI; omega
      obtain ⟨r4, r5⟩ := r3
      have HX := Lib.hid hx
      have HS := Lib.hid (opL_snoc (fun x hx => (HD.out.2.2 x hx).2) HSS.out hx)
      have cr := l03Resistance_any x _ wo hax hc
      clear hx hc hax
      by_cases hg : 1000000 < resI x
      · have HV := Lib.hid (opS_6 (op_bad1 HOK.out HSS.out HX.out hg))
        rw [if_pos hg] at cr
        clear hg
        go_wp2_with fail; ((with_reducible refine (cr).mono ?_); rintro e w' ⟨rfl, n1, rfl⟩)
        go_wp2
        go_ret2
        rw [HV.out]
        exact ⟨none, 0, 0, rfl, own_nil _ _ _ _, by omega, below_drewN hbr _⟩
      · rw [if_neg hg] at cr
        have r6 : resI x ≤ 1000000 := by omega
        clear hg
        go_wp2_with fail; ((with_reducible refine (cr).mono ?_); rintro e w' ⟨rfl, n1, rfl⟩)
        have hownd := own_drewN hown n1
        have hdr := below_drewN hbr n1
        have gd : (wo.drewN n1).cell? ⟨p.block, p.off + 1, none⟩ = some (.slice (some ad) m d) := g1
        generalize wo.drewN n1 = wd at *
        have R1 := hr.below hdr
        have R2 := hr2.below hdr
        go_wp2
        go_loop [10, 12] (fun r i => ∃ q : Nat, q ≤ n2 ∧ r = .int .i64 (resI x + odTo xs ss k q) ∧ i = .int .i64 q) (fun _ i => n2 - (intOf i).toNat)
        case atStart => exact ⟨0, by omega, by simp [odTo], rfl⟩
        case round =>
          obtain ⟨q, hq, rfl, rfl⟩ := hrel
          obtain ⟨o1, o2⟩ := HB.out k q (by rw [HLn.out]; exact hq)
          by_cases hqn : q < n2
          · obtain ⟨a2, z, rfl, _, hz, hcz⟩ := R1.rec_at Dor.clen (by omega) hqn
            obtain ⟨a3, s, rfl, _, hs, hcs⟩ := R2.bool_at hqn
            have hzo := (HD.out.2.2 z (List.mem_of_getElem? hz)).1
            obtain ⟨y0, y1, y2, y3⟩ := Dor.open_ hcz
            have hqI : (q : Int) < (n2 : Int) := by omega
            cases he : (z.a == (k : Int))
            · have HE := Lib.hid (odTo_n (ss := ss) (k := (k : Int)) hz he)
              have hne : (z.a != (k : Int)) = true := by rw [bne, he]; rfl
              clear he hz hs hcz hzo
              go_wp2
              go_round
              case rel => exact ⟨q + 1, by omega, by rw [HE.out], by go_num⟩
              case measure => simp [intOf]; omega
            · have HE := Lib.hid (odTo_y (k := (k : Int)) hz hs he)
              have hne : (z.a != (k : Int)) = false := by rw [bne, he]; rfl
              obtain ⟨b1, b2⟩ := add_bnd hzo s
              clear he hz hs hcz hzo
              cases s
              · have HF : Hid (odTo xs ss k (q + 1) = odTo xs ss k q + z.c) := HE.out
                have b1' : 1 ≤ z.c := b1
                have b2' : z.c ≤ 1000000 := b2
                clear b1 b2 HE
                go_wp2
                go_round
                case rel => exact ⟨q + 1, by omega, by rw [HF.out]; exact congrArg (Value.int .i64) (by omega), by go_num⟩
                case measure => simp [intOf]; omega
              · have HF : Hid (odTo xs ss k (q + 1) = odTo xs ss k q + z.b) := HE.out
                have b1' : 1 ≤ z.b := b1
                have b2' : z.b ≤ 1000000 := b2
                clear b1 b2 HE
                go_wp2
                go_round
                case rel => exact ⟨q + 1, by omega, by rw [HF.out]; exact congrArg (Value.int .i64) (by omega), by go_num⟩
                case measure => simp [intOf]; omega
          · have e : q = n2 := by omega
            have HQ : Hid (odTo xs ss k xs.length = odTo xs ss k q) := show _ = _ by rw [HLn.out, e]
            clear e
            by_cases hb : 1000000 < resI x + odTo xs ss k q
            · have HV := Lib.hid (opS_6 (op_bad HOK.out HSS.out HX.out (by rw [HQ.out]; exact hb)))
              go_wp2
              go_ret2
              rw [HV.out]
              exact ⟨none, 0, 0, rfl, own_nil _ _ _ _, by omega, hdr⟩
            · have HG : Hid (∀ (j : Nat) (y : Awy), j < k + 1 → aw[j]? = some y → resI y + odTo xs ss j xs.length ≤ 1000000) := fun j y hj hy => by
                rcases Nat.lt_succ_iff_lt_or_eq.1 hj with h2 | rfl
                · exact HK.out j y h2 hy
                · rw [HX.out] at hy
                  injection hy with hy
                  subst hy
                  rw [HQ.out]; omega
              go_wp2_with (at_builtin; (refine wpList_app _ rfl _ _ 25 rfl w.heap.size 2 i0 _ 1 8 Try.underlying25 hi0 hz0 hz1 hz2 rfl (by omega) A' _ c' _ rfl ((hownd).alloc _) ⟨_, 0, none⟩ 1 1 [.int .i64 (resI x + odTo xs ss k q)] rfl rfl (cell_one_at (by simp) _ _) (by simp [Value.oneCell']) (by unfold maxLen; omega) (by omega) (by have hz := (hdr).size; simp at hz ⊢; omega) ?_); intro A6 c6 w6 ho6 hb6)
              go_roundw
              case rel => exact ⟨k + 1, A6, c6, by omega, by first | rfl | go_num, by go_num, by rw [HS.out, HQ.out]; simpa [ints] using ho6, HG.out, (hdr.alloc hdr.size _).trans hb6⟩
              case measure => simp [intOf]; omega
    · have e : k = m := by omega
      have HW : Hid (opL aw xs ss k = opTo aw xs ss xs.length) := opL_all (by rw [HLm.out, e])
      have HV := Lib.hid (opS_0 (op_good HOK.out HSS.out (fun j y hy => HK.out j y (by
        have h1 : j < aw.length := by
          rcases Nat.lt_or_ge j aw.length with h2 | h2
          · exact h2
          · rw [List.getElem?_eq_none h2] at hy; cases hy
        rw [HLm.out] at h1; omega) hy)))
      rw [HW.out] at hown
      clear e
      go_wp2
      go_ret2
      rw [HV.out]
      exact ⟨A', k, c', rfl, hown, by omega, hbr⟩
theorem rs_le {xs : List Awy} (h : allIn 1 1000000 (xs.map resI) = true) {k : Nat} {x : Awy} (hx : xs[k]? = some x) : 1 ≤ resI x ∧ resI x ≤ 1000000 :=
  allIn_mem h (List.mem_map.2 ⟨x, List.mem_of_getElem? hx, rfl⟩)
theorem heap_alloc_lt (w : World) (o : Obj) {g : Nat} (h : g < w.heap.size) : (w.alloc o).heap[g]? = w.heap[g]? := by
  show (w.heap.push o)[g]? = _
  rw [Array.getElem?_push, if_neg (by omega)]
set_option maxHeartbeats 3200000 in
set_option maxRecDepth 100000 in
theorem specOpenDoors_any (J : Int) (M : Option Addr) (m d : Nat) (aw : List Awy) (A : Option Addr) (n c : Nat) (xs : List Dor) (A2 : Option Addr) (n2 c2 : Nat) (ss : List Bool) (w : World) (hm : Reads w w.heap.size 7 M m (Awy.recs aw)) (hmn : m ≤ 1048576) (haw : ∀ x ∈ aw, x.s.size ≤ maxLen) (hr : Reads w w.heap.size 4 A n (Dor.recs xs)) (hn : n ≤ 1048576) (hxs : ∀ x ∈ xs, x.s.size ≤ maxLen) (hr2 : Reads w w.heap.size 1 A2 n2 (bools ss)) (hn2 : n2 ≤ 1048576) :
    Calls Try.prog 45 #[.agg #[.int .i64 J, .slice M m d], .slice A n c, .slice A2 n2 c2] w fun e w' => ∃ A' n' c', e = .returned (.tuple #[.slice A' n' c', .int .i64 (opR J aw xs ss).2]) ∧ w'.ownsRow w.heap.size 2 1 (.slice A' n' c') n' (ints (opR J aw xs ss).1) ∧ n' ≤ 1048576 ∧ Below w.heap.size w w' := by
  have HLm := Lib.hid (recs_rlen Awy.clen (by omega) hm)
  have HLn := Lib.hid (recs_rlen Dor.clen (by omega) hr)
  have HL2 := Lib.hid (bools_rlen hr2)
  have hb : Below w.heap.size w (w.alloc (.cells #[.int .i64 J, .slice M m d] 31)) := (Below.refl _ _).alloc (Nat.le_refl _) _
  have cc := l10Ok_any J M m d aw A n c xs ⟨w.heap.size, 0, none⟩ _ ((hm.below hb).more hb.size) hmn haw ((hr.below hb).more hb.size) hn hxs (Cells.new w _ _)
  have HAW := Lib.hid haw
  clear hxs haw
  go_enter Try.func45, Try.ntmps45
  go_wp2_with fail; ((with_reducible refine (cc).mono ?_); rintro e w1 ⟨rfl, hb1⟩)
  have B1 : Below w.heap.size w w1 := hb.trans (hb1.mono (by simp))
  have z1 : w.heap.size < w1.heap.size := by have h := hb1.size; simp at h; omega
  have g0 : w1.cell? ⟨w.heap.size, 0, none⟩ = some (.int .i64 J) := (hb1.cell (p := ⟨w.heap.size, 0, none⟩) (by simp)).trans (by go_simp)
  have g1 : w1.cell? ⟨w.heap.size, 1, none⟩ = some (.slice M m d) := (hb1.cell (p := ⟨w.heap.size, 1, none⟩) (by simp)).trans (by go_simp)
  clear cc hb hb1
  rcases Bool.eq_false_or_eq_true (doorsOk J aw xs) with hok | hok
  · have HOK := Lib.hid hok
    by_cases hss : n2 = n
    · have HSS : Hid (ss.length = xs.length) := show _ = _ by rw [HL2.out, HLn.out]; exact hss
      subst hss
      have hne : ((n2 : Int) != (n2 : Int)) = false := bne_self_eq_false _
      have HV := Lib.hid (opR_S HOK.out HSS.out)
      have cr := l10Resistances_any J M m d aw A n2 c xs A2 n2 c2 ss ⟨w.heap.size, 0, none⟩ w1 ((hm.below B1).more B1.size) ((hr.below B1).more B1.size) ((hr2.below B1).more B1.size) g1 HOK.out HSS.out
      go_wp2_with fail; ((with_reducible refine (cr).mono ?_); rintro e w2 ⟨A', n', c', rfl, hown, hn', hb2⟩)
      go_wp2
      go_ret2
      rw [HV.out]
      exact ⟨A', n', c', rfl, own_base hown B1.size, hn', B1.trans (hb2.mono B1.size)⟩
    · have hne : ((n2 : Int) != (n : Int)) = true := by rw [bne, beq_eq_false_iff_ne.2 (by omega)]; rfl
      have HV := Lib.hid (opR_7 (ss := ss) HOK.out (by rw [HL2.out, HLn.out]; exact hss))
      clear hss
      go_wp2
      go_ret2
      rw [HV.out]
      exact ⟨none, 0, 0, rfl, own_nil _ _ _ _, by omega, B1⟩
  · have HV := Lib.hid (opR_1 (ss := ss) hok)
    go_wp2
    go_ret2
    rw [HV.out]
    exact ⟨none, 0, 0, rfl, own_nil _ _ _ _, by omega, B1⟩
set_option maxHeartbeats 3200000 in
set_option maxRecDepth 100000 in
theorem implOpenDoors_any (J : Int) (M : Option Addr) (m d : Nat) (aw : List Awy) (A : Option Addr) (n c : Nat) (xs : List Dor) (A2 : Option Addr) (n2 c2 : Nat) (ss : List Bool) (w : World) (hm : Reads w w.heap.size 7 M m (Awy.recs aw)) (hmn : m ≤ 1048576) (haw : ∀ x ∈ aw, x.s.size ≤ maxLen) (hr : Reads w w.heap.size 4 A n (Dor.recs xs)) (hn : n ≤ 1048576) (hxs : ∀ x ∈ xs, x.s.size ≤ maxLen) (hr2 : Reads w w.heap.size 1 A2 n2 (bools ss)) (hn2 : n2 ≤ 1048576) (hnc : n ≤ c := by omega) :
    Calls Try.prog 47 #[.agg #[.int .i64 J, .slice M m d], .slice A n c, .slice A2 n2 c2] w fun e w' => ∃ A' n' c', e = .returned (.tuple #[.slice A' n' c', .int .i64 (opR J aw xs ss).2]) ∧ w'.ownsRow w.heap.size 2 1 (.slice A' n' c') n' (ints (opR J aw xs ss).1) ∧ n' ≤ 1048576 ∧ Below w.heap.size w w' := by
  have HLm := Lib.hid (recs_rlen Awy.clen (by omega) hm)
  have HLn := Lib.hid (recs_rlen Dor.clen (by omega) hr)
  have HL2 := Lib.hid (bools_rlen hr2)
  have hb : Below w.heap.size w (w.alloc (.cells #[.int .i64 J, .slice M m d] 31)) := (Below.refl _ _).alloc (Nat.le_refl _) _
  have cc := implValidDoors_any J M m d aw A n c xs _ ((hm.below hb).more hb.size) hmn haw ((hr.below hb).more hb.size) hn hxs hnc
  have HAW := Lib.hid haw
  clear hxs haw
  go_enter Try.func47, Try.ntmps47
  go_wp2_with fail; ((with_reducible refine (cc).mono ?_); rintro e w1 ⟨rfl, hb1⟩)
  have B1 : Below w.heap.size w w1 := hb.trans (hb1.mono (by simp))
  have z1 : w.heap.size < w1.heap.size := by have h := hb1.size; simp at h; omega
  have g0 : w1.cell? ⟨w.heap.size, 0, none⟩ = some (.int .i64 J) := (hb1.cell (p := ⟨w.heap.size, 0, none⟩) (by simp)).trans (by go_simp)
  have g1 : w1.cell? ⟨w.heap.size, 1, none⟩ = some (.slice M m d) := (hb1.cell (p := ⟨w.heap.size, 1, none⟩) (by simp)).trans (by go_simp)
  clear cc hb hb1
  rcases Bool.eq_false_or_eq_true (doorsOk J aw xs) with hok | hok
  · have HOK := Lib.hid hok
    by_cases hss : n2 = n
    · have HSS : Hid (ss.length = xs.length) := show _ = _ by rw [HL2.out, HLn.out]; exact hss
      subst hss
      have hne : ((n2 : Int) != (n2 : Int)) = false := bne_self_eq_false _
      have HD := Lib.hid (doorsOk_t hok)
      have HV := Lib.hid (opR_S HOK.out HSS.out)
      have HO := Lib.hid (mineOk_t HD.out.1)
      have hm24 : m ≤ 24 := by have := HO.out.2.1; rw [HLm.out] at this; exact this
      have hn8 : n2 ≤ 8 := by have := HD.out.2.1; rw [HLn.out] at this; exact this
      have HAT := Lib.hid (fun (k : Nat) (y : Awy) (hy : aw[k]? = some y) => opTo_at (fun x hx => (HD.out.2.2 x hx).2) HSS.out hy)
      have HB := Lib.hid (fun (k : Int) => odTo_bnd (ss := ss) (k := k) (fun x hx => (HD.out.2.2 x hx).1))
      have cr := implResistancesOf_any J M m d aw w1 ((hm.below B1).more B1.size) hmn HAW.out
      rcases Bool.eq_false_or_eq_true (allIn 1 1000000 (aw.map resI)) with hR | hR
      · have HRR := Lib.hid hR
        rw [rsR_3 HD.out.1 hR] at cr
        clear hR
        go_wp2_with fail; ((with_reducible refine (cr).mono ?_); rintro e w2 ⟨A3, n3, c3, rfl, hown0, hn3, hb2⟩)
        clear cr
        have B2 : Below w.heap.size w w2 := B1.trans (hb2.mono B1.size)
        have hn3m : n3 = m := by have h1 := ints_len (Reads.of_own hown0); simp at h1; have h2 := HLm.out; omega
        subst hn3m
        have R1 := (hr.below B2).more B2.size
        have R2 := (hr2.below B2).more B2.size
        go_wp2
        go_loopw [33] (fun i wr => ∃ (k : Nat), k ≤ n2 ∧ i = .int .i64 k ∧ wr.ownsRow w1.heap.size 2 1 (.slice A3 n3 c3) n3 (ints (opTo aw xs ss k)) ∧ Below w1.heap.size w1 wr) (fun i _ => n2 - (intOf i).toNat)
        case atStart => exact ⟨0, by omega, rfl, hown0, hb2⟩
        case round =>
          obtain ⟨k, hk, rfl, hown, hbr⟩ := hrel
          obtain ⟨wo, rfl⟩ : ∃ wo : World, wo = wr := ⟨_, rfl⟩
          have Bo := B1.trans (hbr.mono B1.size)
          by_cases hlt : k < n2
          · obtain ⟨ad, z, rfl, had, hz, hcz⟩ := (hr.below Bo).rec_at Dor.clen (by omega) hlt
            obtain ⟨a3, s, rfl, ha3, hs, hcs⟩ := (hr2.below Bo).bool_at hlt
            obtain ⟨hzo, hz0, hz1⟩ := HD.out.2.2 z (List.mem_of_getElem? hz)
            obtain ⟨y0, y1, y2, y3⟩ := Dor.open_ hcz
            obtain ⟨t, ht⟩ : ∃ t : Nat, z.a = t := ⟨z.a.toNat, by omega⟩
            rw [ht] at y1
            have htm : t < n3 := by have := HLm.out; omega
            have hlen : (opTo aw xs ss k).length = n3 := by rw [opTo_len]; exact HLm.out
            obtain ⟨g, cur, rfl, hbg, hblk, hnc3, hcm, hcs3, htk⟩ := own_blk hown (by omega)
            obtain ⟨v, hv⟩ : ∃ v, (opTo aw xs ss k)[t]? = some v := ⟨_, List.getElem?_eq_getElem (by omega)⟩
            have hyt : aw[t]? = some (aw[t]'(by have := HLm.out; omega)) := List.getElem?_eq_getElem _
            have hve := HAT.out t _ hyt k (by rw [HLn.out]; exact hk)
            rw [hv] at hve
            injection hve with hve
            obtain ⟨o1, o2⟩ := HB.out t k (by rw [HLn.out]; exact hk)
            have hry := rs_le HRR.out hyt
            have hvb : 0 ≤ v ∧ v ≤ 10000000 := by omega
            obtain ⟨v1, v2⟩ := hvb
            have hcv := blk_int hblk htk hlen hv
            obtain ⟨b1, b2⟩ := add_bnd hzo s
            have HY := Lib.hid (opTo_snoc hz hs ht hv)
            have HT := Lib.hid htk
            have HLN := Lib.hid hlen
            have HNC := Lib.hid hnc3
            have HCM := Lib.hid hcm
            have HCS := Lib.hid hcs3
            have hgl : g < wo.heap.size := hblk.lt
            have hblk2 : Blk (wo.alloc (.cells #[.string z.s, .int .i64 t, .int .i64 z.b, .int .i64 z.c] 87)) g 2 cur := (heap_alloc_lt wo _ hgl).trans hblk
            have hfz2 := hblk2.frozen t
            have hcv2 : (wo.alloc (.cells #[.string z.s, .int .i64 t, .int .i64 z.b, .int .i64 z.c] 87)).cell? ⟨g, t, none⟩ = some (.int .i64 v) := (World.cell?_alloc_lt wo _ ⟨g, t, none⟩ hgl).trans hcv
            have f1 : (wo.alloc (.cells #[.string z.s, .int .i64 t, .int .i64 z.b, .int .i64 z.c] 87)).cell? ⟨wo.heap.size, 1, none⟩ = some (.int .i64 t) := ((Blk.new wo _ _).cell 1).trans rfl
            have f2 : (wo.alloc (.cells #[.string z.s, .int .i64 t, .int .i64 z.b, .int .i64 z.c] 87)).cell? ⟨wo.heap.size, 2, none⟩ = some (.int .i64 z.b) := ((Blk.new wo _ _).cell 2).trans rfl
            have f3 : (wo.alloc (.cells #[.string z.s, .int .i64 t, .int .i64 z.b, .int .i64 z.c] 87)).cell? ⟨wo.heap.size, 3, none⟩ = some (.int .i64 z.c) := ((Blk.new wo _ _).cell 3).trans rfl
            have hcs2 : (wo.alloc (.cells #[.string z.s, .int .i64 t, .int .i64 z.b, .int .i64 z.c] 87)).cell? (a3.add k) = some (.bool s) := (World.cell?_alloc_lt _ _ _ (block_lt_of_cell hcs)).trans hcs
            have hb2n : Below w1.heap.size w1 (wo.alloc (.cells #[.string z.s, .int .i64 t, .int .i64 z.b, .int .i64 z.c] 87)) := hbr.alloc hbr.size _
            have htmI : (t : Int) < (n3 : Int) := by omega
            have hltI : (k : Int) < (n2 : Int) := by omega
            clear hz hs hv hve htk hlen hnc3 hcm hcs3 hown hcz ht hyt hzo hry hcs
            cases s
            · have HA : Hid (addOf z false = z.c) := rfl
              have b1' : 1 ≤ z.c := b1
              have b2' : z.c ≤ 1000000 := b2
              have hwv : IntKind.i64.wrap (v + z.c) = v + z.c := IntWalk.i64_in _ (by omega)
              clear b1 b2
              go_wp2
              generalize (wo.alloc (.cells #[.string z.s, .int .i64 t, .int .i64 z.b, .int .i64 z.c] 87)) = wb at *
              go_still_tail 9, (by kernel_rfl)
              go_wp2
              go_roundw
              case rel =>
                refine ⟨k + 1, by omega, by go_num, ?_, (below_drew hb2n).setCell hbg _⟩
                rw [HY.out, HA.out]
                exact blk_own (Blk.set_ (w := wb.drew) hblk2 t _) hbg HNC.out HCM.out (by rw [Array.size_setIfInBounds]; exact HCS.out) (by rw [List.length_set]; exact HLN.out) (take_set_ints HT.out)
              case measure => simp [intOf]; omega
            · have HA : Hid (addOf z true = z.b) := rfl
              have b1' : 1 ≤ z.b := b1
              have b2' : z.b ≤ 1000000 := b2
              have hwv : IntKind.i64.wrap (v + z.b) = v + z.b := IntWalk.i64_in _ (by omega)
              clear b1 b2
              go_wp2
              generalize (wo.alloc (.cells #[.string z.s, .int .i64 t, .int .i64 z.b, .int .i64 z.c] 87)) = wb at *
              go_still_tail 9, (by kernel_rfl)
              go_wp2
              go_roundw
              case rel =>
                refine ⟨k + 1, by omega, by go_num, ?_, (below_drew hb2n).setCell hbg _⟩
                rw [HY.out, HA.out]
                exact blk_own (Blk.set_ (w := wb.drew) hblk2 t _) hbg HNC.out HCM.out (by rw [Array.size_setIfInBounds]; exact HCS.out) (by rw [List.length_set]; exact HLN.out) (take_set_ints HT.out)
              case measure => simp [intOf]; omega
          · have e : k = n2 := by omega
            have HW : Hid (opTo aw xs ss xs.length = opTo aw xs ss k) := show _ = _ by rw [HLn.out, e]
            have ca := allWithin_any A3 n3 c3 (opTo aw xs ss k) 1 1000000 wo (Reads.of_own hown) (by omega)
            clear e
            rcases Bool.eq_false_or_eq_true (allIn 1 1000000 (opTo aw xs ss k)) with hf | hf
            · have HV2 := Lib.hid (opS_0 (aw := aw) (xs := xs) (ss := ss) (by rw [HW.out]; exact hf))
              rw [hf] at ca
              clear hf
              go_wp2_with fail; ((with_reducible refine (ca).mono ?_); rintro e w9 ⟨rfl, hb9⟩)
              go_wp2
              go_ret2
              rw [HV.out, HV2.out, HW.out]
              exact ⟨A3, n3, c3, rfl, own_base (own_below hown hb9) B1.size, by omega, Bo.trans (hb9.mono Bo.size)⟩
            · have HV2 := Lib.hid (opS_6 (aw := aw) (xs := xs) (ss := ss) (by rw [HW.out]; exact hf))
              rw [hf] at ca
              clear hf
              go_wp2_with fail; ((with_reducible refine (ca).mono ?_); rintro e w9 ⟨rfl, hb9⟩)
              go_wp2
              go_ret2
              rw [HV.out, HV2.out]
              exact ⟨none, 0, 0, rfl, own_nil _ _ _ _, by omega, Bo.trans (hb9.mono Bo.size)⟩
      · have HV2 := Lib.hid (opS_6 (op_badR HOK.out HSS.out hR))
        rw [rsR_2 HD.out.1 hR] at cr
        clear hR
        go_wp2_with fail; ((with_reducible refine (cr).mono ?_); rintro e w2 ⟨A3, n3, c3, rfl, hown0, hn3, hb2⟩)
        go_wp2
        go_ret2
        rw [HV.out, HV2.out]
        exact ⟨none, 0, 0, rfl, own_nil _ _ _ _, by omega, B1.trans (hb2.mono B1.size)⟩
    · have hne : ((n2 : Int) != (n : Int)) = true := by rw [bne, beq_eq_false_iff_ne.2 (by omega)]; rfl
      have HV := Lib.hid (opR_7 (ss := ss) HOK.out (by rw [HL2.out, HLn.out]; exact hss))
      clear hss
      go_wp2
      go_ret2
      rw [HV.out]
      exact ⟨none, 0, 0, rfl, own_nil _ _ _ _, by omega, B1⟩
  · have HV := Lib.hid (opR_1 (ss := ss) hok)
    go_wp2
    go_ret2
    rw [HV.out]
    exact ⟨none, 0, 0, rfl, own_nil _ _ _ _, by omega, B1⟩
end Go.Proofs.Ytgbmpadlfcbcaaa
