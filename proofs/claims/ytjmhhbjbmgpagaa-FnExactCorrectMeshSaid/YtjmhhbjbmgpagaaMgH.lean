/- Several texts in one: Rch Tri Que Pth. -/
import Derived.Test.YtjmhhbjbmgpagaaMgG
import Derived.Test.YtjmhhbjbmgpagaaMgA
import Derived.Deep.RegionHeld3
import Derived.Test.YtjmhhbjbmgpagaaMgF
import Derived.Deep.AppendSrc
import Derived.Maps.OwnSet
import Derived.Maps.OwnOps
import Derived.Deep.LoopGhost
/- Contracts of the junctions reached and of the tree, the program's. -/
namespace Go.Proofs.Ytjmhhbjbmgpagaa
set_option linter.unusedVariables false
set_option linter.unusedSimpArgs false
open Go.RowKit
def othI (a b u : Int) : Int := if u = a then b else if u = b then a else 0
def othB (a b u : Int) : Bool := (u == a) || (u == b)
theorem other_any (s : ByteArray) (a b l c f h u : Int) (w : World) :
    Calls Try.prog 151 #[.agg #[.string s, .int .i64 a, .int .i64 b, .int .i64 l, .int .i64 c, .int .i64 f, .int .i64 h], .int .i64 u] w fun e w' => e = .returned (.tuple #[.int .i64 (othI a b u), .bool (othB a b u)]) ∧ Below w.heap.size w w' := by
  by_cases h1 : u = a
  · have H : Hid (othI a b u = b ∧ othB a b u = true) := ⟨if_pos h1, by unfold othB; rw [h1]; simp⟩
    have e1 : (u == a) = true := by rw [h1]; exact beq_self_eq_true _
    clear h1
    go_enter Try.func151, Try.ntmps151
    go_wp2
    go_ret2
    exact ⟨by rw [H.out.1, H.out.2]; rfl, by (repeat (first | exact Below.refl _ _ | assumption | (refine Below.alloc ?_ (by first | exact Nat.le_refl _ | (simp; done) | (simp; omega)) _) | (refine below_drewN ?_ _) | (refine Below.trans ?_ (Below.mono (by assumption) (by first | exact Nat.le_refl _ | (simp; done) | (simp; omega) | omega)))))⟩
  · have e1 : (u == a) = false := beq_eq_false_iff_ne.2 h1
    by_cases h2 : u = b
    · have H : Hid (othI a b u = a ∧ othB a b u = true) := ⟨by unfold othI; rw [if_neg h1, if_pos h2], by unfold othB; rw [h2]; simp⟩
      have e2 : (u == b) = true := by rw [h2]; exact beq_self_eq_true _
      clear h1 h2
      go_enter Try.func151, Try.ntmps151
      go_wp2
      go_ret2
      exact ⟨by rw [H.out.1, H.out.2]; rfl, by (repeat (first | exact Below.refl _ _ | assumption | (refine Below.alloc ?_ (by first | exact Nat.le_refl _ | (simp; done) | (simp; omega)) _) | (refine below_drewN ?_ _) | (refine Below.trans ?_ (Below.mono (by assumption) (by first | exact Nat.le_refl _ | (simp; done) | (simp; omega) | omega)))))⟩
    · have e2 : (u == b) = false := beq_eq_false_iff_ne.2 h2
      have H : Hid (othI a b u = 0 ∧ othB a b u = false) := ⟨by unfold othI; rw [if_neg h1, if_neg h2], by unfold othB; rw [e1, e2]; rfl⟩
      clear h1 h2
      go_enter Try.func151, Try.ntmps151
      go_wp2
      go_ret2
      exact ⟨by rw [H.out.1, H.out.2]; rfl, by (repeat (first | exact Below.refl _ _ | assumption | (refine Below.alloc ?_ (by first | exact Nat.le_refl _ | (simp; done) | (simp; omega)) _) | (refine below_drewN ?_ _) | (refine Below.trans ?_ (Below.mono (by assumption) (by first | exact Nat.le_refl _ | (simp; done) | (simp; omega) | omega)))))⟩
theorem oth_y {E : Edges} {t u : Nat} (h : endB E t u = true) : othI (eA E t : Nat) (eB E t : Nat) (u : Nat) = (stepTo E u t : Nat) ∧ othB (eA E t : Nat) (eB E t : Nat) (u : Nat) = true := by
  unfold endB at h
  simp only [Bool.or_eq_true, beq_iff_eq] at h
  unfold othI othB stepTo
  by_cases h1 : eA E t = u
  · rw [if_pos (by omega), if_pos h1, h1]; simp
  · have h2 : eB E t = u := by rcases h with h | h; exact absurd h h1; exact h
    rw [if_neg (by omega), if_pos (by omega), if_neg h1, h2]; simp
theorem oth_n {E : Edges} {t u : Nat} (h : endB E t u = false) : othI (eA E t : Nat) (eB E t : Nat) (u : Nat) = 0 ∧ othB (eA E t : Nat) (eB E t : Nat) (u : Nat) = false := by
  unfold endB at h
  rw [Bool.or_eq_false_iff] at h
  have h1 := beq_eq_false_iff_ne.1 h.1
  have h2 := beq_eq_false_iff_ne.1 h.2
  unfold othI othB
  rw [if_neg (by omega), if_neg (by omega)]
  refine ⟨rfl, ?_⟩
  rw [Bool.or_eq_false_iff]
  exact ⟨beq_eq_false_iff_ne.2 (by omega), beq_eq_false_iff_ne.2 (by omega)⟩
theorem edge_ne {J : Int} {xs : List Awy} (hok : mineOk J xs = true) {i : Nat} (h : i < xs.length) : eA (edgesOf xs) i ≠ eB (edgesOf xs) i := by
  have hx := List.getElem?_eq_getElem h
  obtain ⟨e1, e2, _, _⟩ := edge_ok hok hx
  obtain ⟨_, _, h3⟩ := mineOk_t hok
  have h4 := (awyOk_t (h3 _ (List.getElem_mem h)).1).2.2.1
  intro e
  exact h4 (by rw [e1, e2, e])
theorem hasI_mem {V : List Nat} {v : Nat} : hasI (nI V) (v : Int) = true ↔ v ∈ V := by
  unfold hasI
  rw [List.any_eq_true]
  constructor
  · rintro ⟨x, hx, e⟩
    rw [beq_iff_eq] at e
    subst e
    exact nI_mem.1 hx
  · exact fun h => ⟨(v : Int), nI_mem.2 h, beq_self_eq_true _⟩
theorem hasI_y {V : List Nat} {v : Nat} (h : v ∈ V) : hasI (nI V) (v : Int) = true := hasI_mem.2 h
theorem hasI_n {V : List Nat} {v : Nat} (h : v ∉ V) : hasI (nI V) (v : Int) = false := by
  cases e : hasI (nI V) (v : Int)
  · rfl
  · exact absurd (hasI_mem.1 e) h
/-- The junctions reached from fr. -/
def IsRch (E : Edges) (T : List Nat) (fr : Nat) (V : List Nat) : Prop := ∀ v, v ∈ V ↔ Conn E T fr v
set_option maxHeartbeats 3200000 in
set_option maxRecDepth 100000 in
theorem reached_any (J : Int) (M : Option Addr) (m d : Nat) (xs : List Awy) (fr : Nat) (A : Option Addr) (n c : Nat) (T : List Nat) (w : World) (hm1 : Reads w w.heap.size 7 M m (Awy.recs xs)) (hT1 : Reads w w.heap.size 1 A n (ints (nI T))) (hok : mineOk J xs = true) (hn : n ≤ 1000) (hTl : ∀ i ∈ T, i < xs.length) (hfr : fr < J.toNat) :
    Calls Try.prog 149 #[.agg #[.int .i64 J, .slice M m d], .int .i64 fr, .slice A n c] w fun e w' => ∃ A' n' c' V, e = .returned (.slice A' n' c') ∧ w'.ownsRow w.heap.size 2 1 (.slice A' n' c') n' (ints (nI V)) ∧ n' ≤ 16 ∧ IsRch (edgesOf xs) T fr V ∧ Below w.heap.size w w' := by
  obtain ⟨i0, hi0, hz0, hz1, hz2⟩ := info_parts info_Int64S
  obtain ⟨⟨j1, j2⟩, hx24, _⟩ := mineOk_t hok
  obtain ⟨jn, rfl⟩ : ∃ jn : Nat, J = jn := ⟨J.toNat, by omega⟩
  rw [Int.toNat_natCast] at hfr
  have hb0 : Below w.heap.size w (w.alloc (.cells #[.int .i64 jn, .slice M m d] 31)) := (Below.refl _ _).alloc (Nat.le_refl _) _
  have hm : Reads (w.alloc (.cells #[.int .i64 jn, .slice M m d] 31)) (w.heap.size + 1) 7 M m (Awy.recs xs) := (hm1.below hb0).more (by omega)
  have hT : Reads (w.alloc (.cells #[.int .i64 jn, .slice M m d] 31)) (w.heap.size + 1) 1 A n (ints (nI T)) := (hT1.below hb0).more (by omega)
  have HLm := Lib.hid (recs_rlen Awy.clen (by omega) hm1)
  have hm24 : m ≤ 24 := by rw [← HLm.out]; exact hx24
  have HLT : Hid (T.length = n) := show _ = _ by have := ints_len hT; rw [nI_len] at this; exact this
  have HOK := Lib.hid hok
  have HTl := Lib.hid hTl
  have HR : Hid (∀ i ∈ T, eA (edgesOf xs) i < jn ∧ eB (edgesOf xs) i < jn) := fun i hi => by have := edge_lt hok (hTl i hi); rwa [Int.toNat_natCast] at this
  have HNE : Hid (∀ i ∈ T, eA (edgesOf xs) i ≠ eB (edgesOf xs) i) := fun i hi => edge_ne hok (hTl i hi)
  have hjn : jn ≤ 16 := by omega
  clear hok hTl hb0
  go_enter Try.func149, Try.ntmps149
  go_wp2
  go_loopw [7, 8] (fun L i wr => ∃ (k : Nat) (A1 : Option Addr) (n1 c1 : Nat) (V : List Nat), L = .slice A1 n1 c1 ∧ i = .int .i64 k ∧ k ≤ n1 ∧ Hid (Rch (edgesOf xs) jn T fr k 0 V) ∧ wr.ownsRow (w.heap.size + 1) 2 1 (.slice A1 n1 c1) n1 (ints (nI V)) ∧ Below (w.heap.size + 1) (w.alloc (.cells #[.int .i64 jn, .slice M m d] 31)) wr) (fun _ i _ => jn - (intOf i).toNat)
  case atStart =>
    refine ⟨0, _, 1, 1, [fr], rfl, rfl, by omega, rch_start hfr, ?_, (Below.refl _ _).alloc (by simp) _⟩
    have h := own_of_blk (xs := ints (nI [fr])) (n := 1) (Blk.new (w.alloc (.cells #[.int .i64 jn, .slice M m d] 31)) 2 #[.int .i64 fr]) rfl rfl (by unfold maxLen; omega) (fun j _ => by rw [← Array.getElem?_toList]; rfl)
    rw [show (w.alloc (.cells #[.int .i64 jn, .slice M m d] 31)).heap.size = w.heap.size + 1 by simp] at h
    exact h
  case round =>
    obtain ⟨k, A1, n1, c1, V, rfl, rfl, hk, HRC, hown, hbr⟩ := hrel
    obtain ⟨wo, rfl⟩ : ∃ wo : World, wo = wr := ⟨_, rfl⟩
    have hnV : n1 ≤ jn := by have h1 := rch_len HRC.out; have h2 := ints_len (Reads.of_own hown); rw [nI_len] at h2; omega
    by_cases hlt : k < n1
    · go_wp2
      go_loopw [7, 23] (fun L i wq => ∃ (q : Nat) (A2 : Option Addr) (n2 c2 : Nat) (V2 : List Nat), L = .slice A2 n2 c2 ∧ i = .int .i64 q ∧ q ≤ n ∧ k < n2 ∧ Hid (Rch (edgesOf xs) jn T fr k q V2) ∧ wq.ownsRow (w.heap.size + 1) 2 1 (.slice A2 n2 c2) n2 (ints (nI V2)) ∧ Below (w.heap.size + 1) (w.alloc (.cells #[.int .i64 jn, .slice M m d] 31)) wq) (fun _ i _ => n - (intOf i).toNat)
      case atStart => exact ⟨0, _, _, _, V, rfl, rfl, by omega, hlt, HRC, hown, hbr⟩
      case round =>
        obtain ⟨q, A2, n2, c2, V2, rfl, rfl, hq, hk2, HRC2, hown2, hbq⟩ := hrel
        clear hown hbr HRC hlt hnV hk
        obtain ⟨wi, rfl⟩ : ∃ wi : World, wi = wr := ⟨_, rfl⟩
        have zo : w.heap.size < wi.heap.size := by have h := hbq.size; simp at h; omega
        have hV2 := ints_len (Reads.of_own hown2)
        rw [nI_len] at hV2
        have hnV2 : n2 ≤ jn := by have h1 := rch_len HRC2.out; omega
        by_cases hqn : q < n
        · obtain ⟨t, htq⟩ : ∃ t, T[q]? = some t := ⟨_, List.getElem?_eq_getElem (by rw [HLT.out]; exact hqn)⟩
          have htT := List.mem_of_getElem? htq
          have htl := HTl.out t htT
          obtain ⟨td, rfl, htd, _, hct⟩ := (hT.below hbq).int_at (nI_at htq)
          obtain ⟨ad, x, rfl, had, hx, hc⟩ := (hm.below hbq).rec_at Awy.clen (by omega) (k := t) (by rw [← HLm.out]; exact htl)
          obtain ⟨ea, eb, ha, hb⟩ := edge_ok HOK.out hx
          obtain ⟨a0, a1, a2, a3, a4, a5, a6⟩ := Awy.open_ hc
          rw [Int.toNat_natCast] at ha hb
          have htm : t < m := by rw [← HLm.out]; exact htl
          obtain ⟨u, hu⟩ : ∃ u, V2[k]? = some u := ⟨_, List.getElem?_eq_getElem (by omega)⟩
          obtain ⟨g, rfl, hg1, hg2, cu, _, _⟩ := own_at hown2 hk2
          have hgu : V2.getD k 0 = u := by rw [List.getD_eq_getElem?_getD, hu]; rfl
          rw [hgu] at cu
          have b1 : wi.cell? ⟨w.heap.size, 1, none⟩ = some (.slice (some ad) m d) := (hbq.cell (p := ⟨w.heap.size, 1, none⟩) (by show w.heap.size < _; omega)).trans (by go_simp)
          rw [ea] at a1
          rw [eb] at a2
          have hqI : (q : Int) < (n : Int) := by omega
          have htI : (t : Int) < (m : Int) := by omega
          have hkI : (k : Int) < (n2 : Int) := by omega
          have HO2 := Lib.hid hown2
          have HU := Lib.hid hu
          have HTQ := Lib.hid htq
          have hne := HNE.out t htT
          cases hend : endB (edgesOf xs) t u
          · obtain ⟨o1, o2⟩ := oth_n hend
            have HA : Hid (∀ W : World, Calls Try.prog 151 #[.agg #[.string x.s, .int .i64 (eA (edgesOf xs) t : Nat), .int .i64 (eB (edgesOf xs) t : Nat), .int .i64 x.l, .int .i64 x.c, .int .i64 x.f, .int .i64 x.h], .int .i64 (u : Nat)] W fun e w' => e = .returned (.tuple #[.int .i64 0, .bool false]) ∧ Below W.heap.size W w') :=
              fun W => by have := other_any x.s (eA (edgesOf xs) t : Nat) (eB (edgesOf xs) t : Nat) x.l x.c x.f x.h (u : Nat) W; rw [o1, o2] at this; exact this
            have HN : Hid (Rch (edgesOf xs) jn T fr k (q + 1) V2) := rch_skip HRC2.out hu htq (fun v hl => by rw [lead_end hl] at hend; cases hend)
            generalize eA (edgesOf xs) t = ua at *
            generalize eB (edgesOf xs) t = ub at *
            clear hx hc htq htl htT ea eb hu hown2 hgu hend o1 o2 hne hV2
            go_wp2
            have m1_0 := nb_cell b1 (block_lt_of_cell b1); have m1_1 := nb_cell a0 (block_lt_of_cell a0); have m1_2 := nb_cell a1 (block_lt_of_cell a1); have m1_3 := nb_cell a2 (block_lt_of_cell a2); have m1_4 := nb_cell a3 (block_lt_of_cell a3); have m1_5 := nb_cell a4 (block_lt_of_cell a4); have m1_6 := nb_cell a5 (block_lt_of_cell a5); have m1_7 := nb_cell a6 (block_lt_of_cell a6); have m1_8 := nb_cell cu (block_lt_of_cell cu); (refine wp_region_nb (by kernel_rfl) (by kernel_rfl) ?_); (repeat (go_big_quiet_step (((go_at_call 151; exact nb_call (HA.out _)))))); (refine wpQuiet_nil ?_); intro w1 hw1; have hb1 := nb_out hw1; clear hw1 m1_0 m1_1 m1_2 m1_3 m1_4 m1_5 m1_6 m1_7 m1_8
            go_wp2
            go_roundw
            case rel => exact ⟨q + 1, _, n2, c2, V2, rfl, by go_num, by omega, hk2, HN, own_below HO2.out hb1, hbq.trans (hb1.mono (by omega))⟩
            case measure => simp [intOf]; omega
          · obtain ⟨o1, o2⟩ := oth_y hend
            have HA : Hid (∀ W : World, Calls Try.prog 151 #[.agg #[.string x.s, .int .i64 (eA (edgesOf xs) t : Nat), .int .i64 (eB (edgesOf xs) t : Nat), .int .i64 x.l, .int .i64 x.c, .int .i64 x.f, .int .i64 x.h], .int .i64 (u : Nat)] W fun e w' => e = .returned (.tuple #[.int .i64 (stepTo (edgesOf xs) u t : Nat), .bool true]) ∧ Below W.heap.size W w') :=
              fun W => by have := other_any x.s (eA (edgesOf xs) t : Nat) (eB (edgesOf xs) t : Nat) x.l x.c x.f x.h (u : Nat) W; rw [o1, o2] at this; exact this
            have hl := lead_to hend
            by_cases hin : stepTo (edgesOf xs) u t ∈ V2
            · have HH := Lib.hid (hasI_y hin)
              have HN : Hid (Rch (edgesOf xs) jn T fr k (q + 1) V2) := rch_skip HRC2.out hu htq (fun v hl' => by rw [lead_one hne hl']; exact hin)
              generalize stepTo (edgesOf xs) u t = v at *
              generalize eA (edgesOf xs) t = ua at *
              generalize eB (edgesOf xs) t = ub at *
              clear hx hc htq htl htT ea eb hu hown2 hgu hend o1 o2 hne hV2 hl hin
              go_wp2
              have m1_0 := nb_cell b1 (block_lt_of_cell b1); have m1_1 := nb_cell a0 (block_lt_of_cell a0); have m1_2 := nb_cell a1 (block_lt_of_cell a1); have m1_3 := nb_cell a2 (block_lt_of_cell a2); have m1_4 := nb_cell a3 (block_lt_of_cell a3); have m1_5 := nb_cell a4 (block_lt_of_cell a4); have m1_6 := nb_cell a5 (block_lt_of_cell a5); have m1_7 := nb_cell a6 (block_lt_of_cell a6); have m1_8 := nb_cell cu (block_lt_of_cell cu); (refine wp_region_nb (by kernel_rfl) (by kernel_rfl) ?_); (repeat (go_big_quiet_step (((go_at_call 151; exact nb_call (HA.out _)))))); (refine wpQuiet_nil ?_); intro w1 hw1; have hb1 := nb_out hw1; clear hw1 m1_0 m1_1 m1_2 m1_3 m1_4 m1_5 m1_6 m1_7 m1_8
              have ho3 := own_below HO2.out hb1
              have cc := contains_any (some ⟨g, 0, none⟩) n2 c2 (nI V2) (v : Nat) w1 (Reads.of_own ho3) (by omega)
              rw [HH.out] at cc
              have HO3 := Lib.hid ho3
              clear ho3
              go_wp2_with fail; ((with_reducible refine cc.mono ?_); rintro e w' ⟨rfl, rfl⟩)
              go_wp2
              go_roundw
              case rel => exact ⟨q + 1, _, n2, c2, V2, rfl, by go_num, by omega, hk2, HN, HO3.out, hbq.trans (hb1.mono (by omega))⟩
              case measure => simp [intOf]; omega
            · have HH := Lib.hid (hasI_n hin)
              have HN : Hid (Rch (edgesOf xs) jn T fr k (q + 1) (V2 ++ [stepTo (edgesOf xs) u t])) := rch_add HRC2.out hu htq hne HR.out hl hin
              generalize stepTo (edgesOf xs) u t = v at *
              generalize eA (edgesOf xs) t = ua at *
              generalize eB (edgesOf xs) t = ub at *
              clear hx hc htq htl htT ea eb hu hown2 hgu hend o1 o2 hne hV2 hl hin
              go_wp2
              have m1_0 := nb_cell b1 (block_lt_of_cell b1); have m1_1 := nb_cell a0 (block_lt_of_cell a0); have m1_2 := nb_cell a1 (block_lt_of_cell a1); have m1_3 := nb_cell a2 (block_lt_of_cell a2); have m1_4 := nb_cell a3 (block_lt_of_cell a3); have m1_5 := nb_cell a4 (block_lt_of_cell a4); have m1_6 := nb_cell a5 (block_lt_of_cell a5); have m1_7 := nb_cell a6 (block_lt_of_cell a6); have m1_8 := nb_cell cu (block_lt_of_cell cu); (refine wp_region_nb (by kernel_rfl) (by kernel_rfl) ?_); (repeat (go_big_quiet_step (((go_at_call 151; exact nb_call (HA.out _)))))); (refine wpQuiet_nil ?_); intro w1 hw1; have hb1 := nb_out hw1; clear hw1 m1_0 m1_1 m1_2 m1_3 m1_4 m1_5 m1_6 m1_7 m1_8
              have ho3 := own_below HO2.out hb1
              have cc := contains_any (some ⟨g, 0, none⟩) n2 c2 (nI V2) (v : Nat) w1 (Reads.of_own ho3) (by omega)
              rw [HH.out] at cc
              have HO3 := Lib.hid ho3
              have hb3 := hbq.trans (hb1.mono (by omega))
              clear ho3
              go_wp2_with fail; ((with_reducible refine cc.mono ?_); rintro e w' ⟨rfl, rfl⟩)
              go_wp2_with (at_builtin; (refine wpList_app _ rfl _ _ 25 rfl (w.heap.size + 1) 2 i0 _ 1 8 Try.underlying25 hi0 hz0 hz1 hz2 rfl (by omega) (some ⟨g, 0, none⟩) _ c2 _ rfl ((HO3.out).alloc _) ⟨_, 0, none⟩ 1 1 [.int .i64 (v : Int)] rfl rfl (cell_one_at (by simp) _ _) (by simp [Value.oneCell']) (by unfold maxLen; omega) (by omega) (by have hz := (hb3).size; simp at hz ⊢; omega) ?_); intro A3 c3 w2 ho2 hb2)
              go_roundw
              case rel => exact ⟨q + 1, A3, n2 + 1, c3, V2 ++ [v], rfl, by go_num, by omega, by omega, HN, by rw [nI_snoc]; simpa [ints] using ho2, (hb3.alloc (by have := hb3.size; simp at this; omega) _).trans hb2⟩
              case measure => simp [intOf]; omega
        · have HN : Hid (Rch (edgesOf xs) jn T fr (k + 1) 0 V2) := rch_next HRC2.out (by rw [HLT.out]; omega)
          have HO2 := Lib.hid hown2
          have hkj : k < jn := by omega
          clear hown2 hV2
          go_wp2
          go_roundw
          case rel => exact ⟨k + 1, A2, n2, c2, V2, rfl, by go_num, by omega, HN, HO2.out, hbq⟩
          case measure => simp [intOf]; omega
    · have HE : Hid (IsRch (edgesOf xs) T fr V) := fun v => rch_end HRC.out (by have h2 := ints_len (Reads.of_own hown); rw [nI_len] at h2; omega) v
      have HO2 := Lib.hid hown
      clear hown
      go_wp2
      go_ret
      exact ⟨A1, n1, c1, V, rfl, own_base HO2.out (by omega), by omega, HE.out, ((Below.refl _ _).alloc (Nat.le_refl _) _).trans (hbr.mono (by omega))⟩
end Go.Proofs.Ytjmhhbjbmgpagaa

/- Contract of the program's tree of a mine. -/
namespace Go.Proofs.Ytjmhhbjbmgpagaa
set_option linter.unusedVariables false
set_option linter.unusedSimpArgs false
open Go.RowKit
theorem treeL_ltm {J : Int} {xs : List Awy} {k : Nat} (hk : k ≤ xs.length) : ∀ i ∈ treeL (edgesOf xs) J.toNat k, i < xs.length := fun i hi => by
  have := treeL_lt (edgesOf xs) J.toNat k i hi; omega
set_option maxHeartbeats 3200000 in
set_option maxRecDepth 100000 in
theorem tree_any (J : Int) (M : Option Addr) (m d : Nat) (xs : List Awy) (w : World) (hm1 : Reads w w.heap.size 7 M m (Awy.recs xs)) (hok : mineOk J xs = true) :
    Calls Try.prog 108 #[.agg #[.int .i64 J, .slice M m d]] w fun e w' => ∃ A' c', e = .returned (.slice A' (treeL (edgesOf xs) J.toNat m).length c') ∧ w'.ownsRow w.heap.size 2 1 (.slice A' (treeL (edgesOf xs) J.toNat m).length c') (treeL (edgesOf xs) J.toNat m).length (ints (nI (treeL (edgesOf xs) J.toNat m))) ∧ Below w.heap.size w w' := by
  obtain ⟨i0, hi0, hz0, hz1, hz2⟩ := info_parts info_Int64S
  obtain ⟨⟨j1, j2⟩, hx24, _⟩ := mineOk_t hok
  obtain ⟨jn, rfl⟩ : ∃ jn : Nat, J = jn := ⟨J.toNat, by omega⟩
  have hb0 : Below w.heap.size w (w.alloc (.cells #[.int .i64 jn, .slice M m d] 31)) := (Below.refl _ _).alloc (Nat.le_refl _) _
  have hm : Reads (w.alloc (.cells #[.int .i64 jn, .slice M m d] 31)) (w.heap.size + 1) 7 M m (Awy.recs xs) := (hm1.below hb0).more (by omega)
  have HLm := Lib.hid (recs_rlen Awy.clen (by omega) hm1)
  have hm24 : m ≤ 24 := by rw [← HLm.out]; exact hx24
  have HOK := Lib.hid hok
  clear hok hx24 hb0
  rw [Int.toNat_natCast]
  generalize hE : edgesOf xs = E at *
  have HE := Lib.hid hE
  clear hE
  go_enter Try.func108, Try.ntmps108
  go_wp2
  go_loopw [3, 9] (fun o i wr => ∃ (k : Nat) (A' : Option Addr) (n' c' : Nat), k ≤ m ∧ n' = (treeL E jn k).length ∧ o = .slice A' n' c' ∧ i = .int .i64 k ∧ wr.ownsRow (w.heap.size + 1) 2 1 (.slice A' n' c') n' (ints (nI (treeL E jn k))) ∧ Below (w.heap.size + 1) (w.alloc (.cells #[.int .i64 jn, .slice M m d] 31)) wr) (fun _ i _ => m - (intOf i).toNat)
  case atStart => exact ⟨0, none, 0, 0, by omega, rfl, rfl, rfl, own_nil _ _ _ _, Below.refl _ _⟩
  case round =>
    obtain ⟨k, A', n', c', hk, hn', rfl, rfl, hown, hbr⟩ := hrel
    obtain ⟨wo, rfl⟩ : ∃ wo : World, wo = wr := ⟨_, rfl⟩
    have zo : w.heap.size < wo.heap.size := by have h := hbr.size; simp at h; omega
    have Bo : Below w.heap.size w wo := ((Below.refl _ _).alloc (Nat.le_refl _) _).trans (hbr.mono (by omega))
    have hnk : n' ≤ k := by rw [hn']; exact treeL_len E jn k
    have HNL := Lib.hid hn'
    clear hn'
    by_cases hlt : k < m
    · obtain ⟨ad, x, rfl, had, hx, hc⟩ := (hm.below hbr).rec_at Awy.clen (by omega) hlt
      obtain ⟨ea, eb, ha, hb⟩ := edge_ok HOK.out hx
      rw [HE.out, Int.toNat_natCast] at ha hb
      rw [HE.out] at ea eb
      obtain ⟨a0, a1, a2, a3, a4, a5, a6⟩ := Awy.open_ hc
      rw [ea] at a1
      rw [eb] at a2
      have g0 : wo.cell? ⟨w.heap.size, 0, none⟩ = some (.int .i64 jn) := (hbr.cell (p := ⟨w.heap.size, 0, none⟩) (by show w.heap.size < _; omega)).trans (by go_simp)
      have g1 : wo.cell? ⟨w.heap.size, 1, none⟩ = some (.slice (some ad) m d) := (hbr.cell (p := ⟨w.heap.size, 1, none⟩) (by show w.heap.size < _; omega)).trans (by go_simp)
      have hkI : (k : Int) < (m : Int) := by omega
      have HLY := Lib.hid (fun h => treeL_y (E := E) (J := jn) (k := k) h fun i hi => by have h1 := edge_lt HOK.out (i := i) (by rw [HLm.out]; omega); rw [HE.out, Int.toNat_natCast] at h1; exact h1)
      have HLN := Lib.hid (fun h => treeL_n (E := E) (J := jn) (k := k) h fun i hi => by have h1 := edge_lt HOK.out (i := i) (by rw [HLm.out]; omega); rw [HE.out, Int.toNat_natCast] at h1; exact h1)
      generalize hua : eA E k = ua at *
      generalize hub : eB E k = ub at *
      obtain ⟨wa, hwa⟩ : ∃ wa, wa = wo.alloc (.cells #[.string x.s, .int .i64 (ua : Nat), .int .i64 (ub : Nat), .int .i64 x.l, .int .i64 x.c, .int .i64 x.f, .int .i64 x.h] 99) := ⟨_, rfl⟩
      have hba : Below (w.heap.size + 1) (w.alloc (.cells #[.int .i64 jn, .slice (some ad) m d] 31)) wa := by rw [hwa]; exact hbr.alloc (by omega) _
      have hoa : wa.ownsRow (w.heap.size + 1) 2 1 (.slice A' n' c') n' (ints (nI (treeL E jn k))) := by rw [hwa]; exact hown.alloc _
      have f1 : wa.cell? ⟨wo.heap.size, 1, none⟩ = some (.int .i64 (ua : Nat)) := by rw [hwa]; exact ((Blk.new wo _ _).cell 1).trans rfl
      have f2 : wa.cell? ⟨wo.heap.size, 2, none⟩ = some (.int .i64 (ub : Nat)) := by rw [hwa]; exact ((Blk.new wo _ _).cell 2).trans rfl
      have f3 : wa.cell? ⟨w.heap.size, 0, none⟩ = some (.int .i64 jn) := by rw [hwa]; exact (World.cell?_alloc_lt _ _ _ (block_lt_of_cell g0)).trans g0
      have f4 : wa.cell? ⟨w.heap.size, 1, none⟩ = some (.slice (some ad) m d) := by rw [hwa]; exact (World.cell?_alloc_lt _ _ _ (block_lt_of_cell g1)).trans g1
      have za : wo.heap.size < wa.heap.size := by rw [hwa]; simp
      have zz : w.heap.size + 1 ≤ wa.heap.size := by omega
      have HWA := Lib.hid hwa
      have Ba : Below w.heap.size w wa := ((Below.refl _ _).alloc (Nat.le_refl _) _).trans (hba.mono (by omega))
      have HRC : Hid (∀ W : World, Below wa.heap.size wa W → Calls Try.prog 149 #[.agg #[.int .i64 jn, .slice (some ad) m d], .int .i64 (ua : Nat), .slice A' n' c'] W fun e w' => ∃ A2 n2 c2 V, e = .returned (.slice A2 n2 c2) ∧ w'.ownsRow W.heap.size 2 1 (.slice A2 n2 c2) n2 (ints (nI V)) ∧ n2 ≤ 16 ∧ IsRch E (treeL E jn k) ua V ∧ Below W.heap.size W w') := fun W hW => by
        have h := reached_any jn (some ad) m d xs ua A' n' c' (treeL E jn k) W (((hm1.below Ba).more Ba.size |>.below hW).more hW.size) (((Reads.of_own hoa).below hW).more hW.size) HOK.out (by omega) (by have := treeL_ltm (J := jn) (xs := xs) (k := k) (by rw [HLm.out]; omega); rw [HE.out, Int.toNat_natCast] at this; exact this) (by rw [Int.toNat_natCast]; exact ha)
        rw [HE.out] at h
        exact h
      have HOA := Lib.hid hoa
      have HHB := Lib.hid hba
      clear hx hc ea eb hua hub hown hwa hoa
      by_cases hcn : Conn E (treeL E jn k) ua ub
      · have HT := Lib.hid (HLY.out hcn)
        have HV : Hid (∀ V, IsRch E (treeL E jn k) ua V → hasI (nI V) (ub : Nat) = true) := fun V h => hasI_y ((h ub).2 hcn)
        clear HLY HLN hcn
        go_wp2
        rw [← HWA.out]
        go_region_held3 (fun w' => w'.cell? ⟨wo.heap.size, 1, none⟩ = some (.int .i64 (ua : Nat)) ∧ w'.cell? ⟨wo.heap.size, 2, none⟩ = some (.int .i64 (ub : Nat)) ∧ w'.cell? ⟨w.heap.size, 0, none⟩ = some (.int .i64 jn) ∧ w'.cell? ⟨w.heap.size, 1, none⟩ = some (.slice (some ad) m d))
          (first | go_keep | (exact ⟨(hb1.cell (p := ⟨wo.heap.size, 1, none⟩) za).trans f1, (hb1.cell (p := ⟨wo.heap.size, 2, none⟩) za).trans f2, (hb1.cell (p := ⟨w.heap.size, 0, none⟩) (Nat.lt_trans zo za)).trans f3, (hb1.cell (p := ⟨w.heap.size, 1, none⟩) (Nat.lt_trans zo za)).trans f4⟩))
          ((first | (go_at_call 149; refine (HRC.out _ ((Below.refl _ _).drew)).mono ?_; rintro e w1 ⟨A2, n2, c2, V, rfl, ho1, hn2, hrv, hb1⟩; have HH := Lib.hid (HV.out V hrv); have HO1 := Lib.hid ho1; clear ho1 hrv) | (go_at_call 109; refine (contains_any A2 n2 c2 (nI V) (ub : Nat) _ (Reads.of_own HO1.out) (by omega)).mono ?_; rintro e w' ⟨rfl, rfl⟩; rw [HH.out])))
        have hb2 : Below wa.heap.size wa w1 := ((Below.refl _ _).drew).trans hb1
        have hb3 := HHB.out.trans (hb2.mono zz)
        have HO3 := Lib.hid (own_below HOA.out hb2)
        clear hb2
        go_wp2
        go_roundw
        case rel => exact ⟨k + 1, A', n', c', by omega, by rw [HT.out]; exact HNL.out, rfl, by go_num, by rw [HT.out]; exact HO3.out, hb3⟩
        case measure => simp [intOf]; omega
      · have HT := Lib.hid (HLN.out hcn)
        have HV : Hid (∀ V, IsRch E (treeL E jn k) ua V → hasI (nI V) (ub : Nat) = false) := fun V h => hasI_n (fun h1 => hcn ((h ub).1 h1))
        clear HLY HLN hcn
        go_wp2
        rw [← HWA.out]
        go_region_held3 (fun w' => w'.cell? ⟨wo.heap.size, 1, none⟩ = some (.int .i64 (ua : Nat)) ∧ w'.cell? ⟨wo.heap.size, 2, none⟩ = some (.int .i64 (ub : Nat)) ∧ w'.cell? ⟨w.heap.size, 0, none⟩ = some (.int .i64 jn) ∧ w'.cell? ⟨w.heap.size, 1, none⟩ = some (.slice (some ad) m d))
          (first | go_keep | (exact ⟨(hb1.cell (p := ⟨wo.heap.size, 1, none⟩) za).trans f1, (hb1.cell (p := ⟨wo.heap.size, 2, none⟩) za).trans f2, (hb1.cell (p := ⟨w.heap.size, 0, none⟩) (Nat.lt_trans zo za)).trans f3, (hb1.cell (p := ⟨w.heap.size, 1, none⟩) (Nat.lt_trans zo za)).trans f4⟩))
          ((first | (go_at_call 149; refine (HRC.out _ ((Below.refl _ _).drew)).mono ?_; rintro e w1 ⟨A2, n2, c2, V, rfl, ho1, hn2, hrv, hb1⟩; have HH := Lib.hid (HV.out V hrv); have HO1 := Lib.hid ho1; clear ho1 hrv) | (go_at_call 109; refine (contains_any A2 n2 c2 (nI V) (ub : Nat) _ (Reads.of_own HO1.out) (by omega)).mono ?_; rintro e w' ⟨rfl, rfl⟩; rw [HH.out])))
        have hb2 : Below wa.heap.size wa w1 := ((Below.refl _ _).drew).trans hb1
        have hb3 := HHB.out.trans (hb2.mono zz)
        have HO3 := Lib.hid (own_below HOA.out hb2)
        clear hb2
        go_wp2_with (at_builtin; (refine wpList_app _ rfl _ _ 25 rfl (w.heap.size + 1) 2 i0 _ 1 8 Try.underlying25 hi0 hz0 hz1 hz2 rfl (by omega) A' _ c' _ rfl ((HO3.out).alloc _) ⟨_, 0, none⟩ 1 1 [.int .i64 (k : Int)] rfl rfl (cell_one_at (by simp) _ _) (by simp [Value.oneCell']) (by unfold maxLen; omega) (by omega) (by have hz := (hb3).size; simp at hz ⊢; omega) ?_); intro A3 c3 w2 ho2 hb2)
        go_roundw
        case rel => exact ⟨k + 1, A3, n' + 1, c3, by omega, by rw [HT.out, List.length_append, ← HNL.out]; rfl, by first | rfl | go_num, by go_num, by rw [HT.out, nI_snoc]; simpa [ints] using ho2, (hb3.alloc (by have := hb3.size; simp at this; omega) _).trans hb2⟩
        case measure => simp [intOf]; omega
    · have HKM : Hid (k = m) := show _ = _ by omega
      have HOW := Lib.hid hown
      clear hown
      go_wp2
      go_ret
      have hn' := HNL.out
      have hown := HOW.out
      rw [HKM.out] at hn' hown
      subst hn'
      exact ⟨A', c', rfl, own_base hown (by omega), Bo⟩
end Go.Proofs.Ytjmhhbjbmgpagaa

/- A queue of numbers: a row of the call's own whose head may be cut off; and a map of distances. -/
namespace Go.Proofs.Ytjmhhbjbmgpagaa
set_option linter.unusedVariables false
set_option linter.unusedSimpArgs false
open Go.RowKit
/-- A queue of numbers in the call's own memory. -/
structure Que (w : World) (base g k n c : Nat) (xs : List Int) : Prop where
  len : xs.length = n
  le : n ≤ c
  mx : c ≤ maxLen
  lo : base ≤ g
  hi : g < w.heap.size
  val : 0 < c → ∃ cur, Blk w g 2 cur ∧ cur.size = k + c ∧ ∀ j b, xs[j]? = some b → cur[k + j]? = some (.int .i64 b)
section
variable {w w' : World} {base g k n c : Nat} {xs : List Int}
theorem que_new (hb : base ≤ w.heap.size) (x : Int) : Que (w.alloc (.cells #[.int .i64 x] 2)) base w.heap.size 0 1 1 [x] :=
  ⟨rfl, Nat.le_refl _, by unfold maxLen; omega, hb, by simp, fun _ => ⟨_, Blk.new w _ _, rfl, fun j b hj => by
    cases j with
    | zero => simp at hj; subst hj; rfl
    | succ j => simp at hj⟩⟩
theorem Que.head {x : Int} (h : Que w base g k n c (x :: xs)) : w.cell? ⟨g, k, none⟩ = some (.int .i64 x) := by
  have h1 := h.len
  have h2 := h.le
  obtain ⟨cur, hb, _, hc⟩ := h.val (by simp at h1; omega)
  rw [hb.cell k]
  simpa using hc 0 x rfl
theorem Que.cut {x : Int} (h : Que w base g k n c (x :: xs)) : Que w base g (if c = 1 then k else k + 1) (n - 1) (c - 1) xs := by
  have h1 := h.len
  have h2 := h.le
  have h3 := h.mx
  simp only [List.length_cons] at h1
  refine ⟨by omega, by omega, by omega, h.lo, h.hi, fun hc => ?_⟩
  obtain ⟨cur, hb, hs, hcur⟩ := h.val (by omega)
  rw [if_neg (by omega)]
  refine ⟨cur, hb, by omega, fun j b hj => ?_⟩
  rw [show k + 1 + j = k + (j + 1) by omega]
  exact hcur (j + 1) b (by simpa using hj)
theorem Que.grown {row : Option Nat} (h : Que w base g k n c xs) (hg : w.grownBy w' row) (hne : some g ≠ row) : Que w' base g k n c xs :=
  ⟨h.len, h.le, h.mx, h.lo, Nat.lt_of_lt_of_le h.hi hg.size, fun hc => by
    obtain ⟨cur, hb, hs, hcur⟩ := h.val hc
    exact ⟨cur, hb.grown hg hne, hs, hcur⟩⟩
theorem Que.below (h : Que w base g k n c xs) (hb : Below w.heap.size w w') : Que w' base g k n c xs :=
  h.grown (row := none) ⟨hb.os, hb.tape, hb.output, hb.size, fun i hi _ => hb.block i hi⟩ (by simp)
theorem Que.drewN (h : Que w base g k n c xs) (m : Nat) : Que (w.drewN m) base g k n c xs := h.below (below_drewN (Below.refl _ _) m)
theorem Que.alloc (h : Que w base g k n c xs) (o : Obj) : Que (w.alloc o) base g k n c xs := h.below ((Below.refl _ _).alloc (Nat.le_refl _) _)
end
section
variable {P : Program} (w : World)
theorem setCells_one (b o : Nat) (v : Value) : w.setCells b o [v] = w.setCell ⟨b, o, none⟩ v := rfl
/-- One number more at the queue's end. -/
theorem run_append_que {i : TypeInfo} (t ty : TypeId) (ht : P.underlying t = some (.slice 2)) (hi : P.info? 2 = some i) {z : Value} (hz : i.zero = some z) (hs : i.size = 1) (hby : i.bytes = 8) (hzs : z.cells.size = 1)
    {base g k n c : Nat} {xs : List Int} (h : Que w base g k n c xs) (x : Int) (ad : Addr) (hx : w.cell? ad = some (.int .i64 x)) (hn : n ≤ 1000000) (hbase : base ≤ w.heap.size) :
    ∃ g' k' c' w', (Builtin.append_ #[t, t] ty #[.slice (some ⟨g, k, none⟩) n c, .slice (some ad) 1 1]).run P w = .ok (.slice (some ⟨g', k', none⟩) (n + 1) c') w' ∧ Que w' base g' k' (n + 1) c' (xs ++ [x]) ∧ w.grownBy w' (some g) := by
  have hl := h.len
  have src : Src P i.size t (.slice (some ad) 1 1) 1 [.int .i64 x] w := Src.ofSlice w ht ad 1 1 _ (by rw [hs]; rfl) (fun j u hj => by
    cases j with
    | zero => simp at hj; subst hj; simpa [Addr.add] using hx
    | succ j => simp at hj) (fun u hu => by rw [List.mem_singleton] at hu; subst hu; rfl)
  by_cases hroom : n + 1 ≤ c
  · obtain ⟨cur, hb, hcs, hcur⟩ := h.val (by omega)
    have hlt : k + n < cur.size := by omega
    have hr := run_append_room_src (P := P) w t t ty 2 i ht hi g k n c _ 1 _ src hroom (fun j hj => by
      have : j = 0 := by simp at hj; omega
      subst this
      rw [hs, hb.cell, Nat.mul_one, Nat.add_zero, Array.getElem?_eq_getElem hlt]; rfl) (fun j hj => hb.frozen _)
    rw [hs, Nat.mul_one, setCells_one] at hr
    refine ⟨g, k, c, _, hr, ⟨by simp [hl], hroom, h.mx, h.lo, by simpa [World.setCell] using h.hi, fun _ => ⟨_, hb.set_ (k + n) _, by simpa using hcs, fun j b hj => ?_⟩⟩, ⟨rfl, rfl, rfl, by simp [World.setCell], fun q hq hne => Below.heap_setCell _ _ _ _ fun e => hne (by rw [e])⟩⟩
    rw [Array.getElem?_setIfInBounds]
    rw [List.getElem?_append] at hj
    split at hj
    · rename_i hjl
      rw [if_neg (by omega)]
      exact hcur j b hj
    · rename_i hjl
      have hj0 : j = n := by
        have := (List.getElem?_eq_some_iff.1 hj).1
        simp at this; omega
      subst hj0
      rw [if_pos rfl, if_pos hlt]
      rw [hl, Nat.sub_self] at hj
      simp at hj
      rw [hj]
  · have hcn : c = n := by have := h.le; omega
    have holds : ∀ j v, (ints xs)[j]? = some v → w.cell? ((⟨g, k, none⟩ : Addr).add j) = some v := fun j v hj => by
      obtain ⟨b, hb1, rfl⟩ := ints_at hj
      have hjl := (List.getElem?_eq_some_iff.1 hb1).1
      obtain ⟨cur, hb, hcs, hcur⟩ := h.val (by omega)
      rw [Addr.add_lit, hb.cell]
      exact hcur j b hb1
    have hr := run_append_grow (P := P) w t ty 2 i z ht hi hz ⟨g, k, none⟩ n c (ints xs) (by rw [hs]; simp [ints, hl]) holds ad 1 1 [.int .i64 x] (by rw [hs]; rfl) (fun j u hj => by
      cases j with
      | zero => simp at hj; subst hj; simpa [Addr.add] using hx
      | succ j => simp at hj) (by omega) (by omega) (growslice_fits (by omega) (by rw [hby]; omega))
    have hge := grownCap_ge w (n + 1) c 2
    have hcm : grownCap w (n + 1) c 2 ≤ maxLen := grownCap_le_maxLen w (n + 1) c 2 (by unfold maxLen; omega)
    refine ⟨w.heap.size, 0, _, _, hr, ⟨by simp [hl], hge, hcm, hbase, by simp, fun _ => ⟨_, heap_alloc_new w.drew _, ?_, fun j b hj => ?_⟩⟩, ⟨rfl, rfl, rfl, by simp, fun q hq _ => heap_alloc_old w.drew _ hq⟩⟩
    · simp only [Array.size_append, List.size_toArray, size_zeroCells, hzs]
      simp [ints, hl]; omega
    · have hjl := (List.getElem?_eq_some_iff.1 hj).1
      rw [Nat.zero_add, Array.getElem?_append_left (by simp [ints, hl] at hjl ⊢; omega)]
      have e : (ints xs).toArray ++ [Value.int .i64 x].toArray = (ints (xs ++ [x])).toArray := by simp [ints]
      rw [e, List.getElem?_toArray]
      unfold ints
      rw [List.getElem?_map, hj]; rfl
theorem wpList_app_que {ops : Array Oper} {rest : List Oper} {o : Oper} {a : Act} {Q : Exit → Act → World → Prop} (hgd : o.guard = none) (s y : Operand) (t : TypeId)
    (ho : o.op = .call { callee := .builtin .append, args := #[s, y], argTypes := #[t, t] })
    {i : TypeInfo} (ht : P.underlying t = some (.slice 2)) (hi : P.info? 2 = some i) {z : Value} (hz : i.zero = some z) (hsz : i.size = 1) (hby : i.bytes = 8) (hzs : z.cells.size = 1)
    {base g k n c : Nat} {xs : List Int} (hs : a.eval s = .slice (some ⟨g, k, none⟩) n c) (hq : Que w base g k n c xs) (x : Int) (ad : Addr) (hy : a.eval y = .slice (some ad) 1 1) (hx : w.cell? ad = some (.int .i64 x)) (hn : n ≤ 1000000) (hbase : base ≤ w.heap.size)
    (h : ∀ g' k' c' w', Que w' base g' k' (n + 1) c' (xs ++ [x]) → w.grownBy w' (some g) → wpList P ops Q rest (a.put o.dst (.slice (some ⟨g', k', none⟩) (n + 1) c')) w') : wpList P ops Q (o :: rest) a w := by
  refine wpList_plain hgd fun K hK => ?_
  obtain ⟨g', k', c', w', hrun, h2, h3⟩ := run_append_que (P := P) w t o.type ht hi hz hsz hby hzs hq x ad hx hn hbase
  unfold Oper.wp execOp
  simp only [ho, resolve, invoke, builtin, Sem.run_bind, Sem.run_pure, Result.andThen_ok, List.map_toArray, List.map_cons, List.map_nil, hs, hy, hrun]
  exact hK _ _ (h g' k' c' w' h2 h3)
end
open Go.Maps (Keyed)
theorem List.reverseRecOn_ {α : Type} {p : List α → Prop} (nil : p []) (snoc : ∀ t x, p t → p (t ++ [x])) : ∀ l, p l := by
  intro l
  have : ∀ r : List α, p r.reverse := by
    intro r
    induction r with
    | nil => exact nil
    | cons x t ih => rw [List.reverse_cons]; exact snoc _ _ ih
  have h := this l.reverse
  rwa [List.reverse_reverse] at h
/-- What a map of distances holds. -/
def farD (V : List (Nat × Nat)) : DataW Unit := V.foldl (fun D p => D.put (.int .i64 p.1) (.lit (.int .i64 p.2))) (.map [])
theorem farD_snoc (V : List (Nat × Nat)) (p : Nat × Nat) : farD (V ++ [p]) = (farD V).put (.int .i64 p.1) (.lit (.int .i64 p.2)) := by
  unfold farD; rw [List.foldl_append]; rfl
theorem farD_isMap : ∀ V : List (Nat × Nat), Maps.IsMap (farD V) := by
  intro V
  unfold farD
  have : ∀ (l : List (Nat × Nat)) (D : DataW Unit), Maps.IsMap D → Maps.IsMap (l.foldl (fun D p => D.put (.int .i64 p.1) (.lit (.int .i64 p.2))) D) := by
    intro l
    induction l with
    | nil => exact fun D h => h
    | cons p t ih => exact fun D h => ih _ (h.put _ _)
  exact this V _ Maps.isMap_empty
theorem lit_ne {a b : Nat} (h : a ≠ b) : (Lit.int .i64 a) ≠ Lit.int .i64 b := by
  intro e
  injection e with _ e
  omega
theorem farD_has_snoc (V : List (Nat × Nat)) (p : Nat × Nat) (u : Nat) : Maps.has (farD (V ++ [p])) (.int .i64 u) = (decide (u = p.1) || Maps.has (farD V) (.int .i64 u)) := by
  rw [farD_snoc]
  by_cases h : u = p.1
  · subst h
    rw [Maps.has_put_same (farD_isMap V) (by first | trivial | exact ⟨⟩ | simp [WideAt.IsKeyLit]), decide_eq_true rfl]; rfl
  · rw [Maps.has_put_other (lit_ne h), decide_eq_false h]; rfl
theorem farD_has : ∀ (V : List (Nat × Nat)) (u : Nat), Maps.has (farD V) (.int .i64 u) = decide (u ∈ V.map (·.1)) := by
  intro V u
  induction V using List.reverseRecOn_ with
  | nil => rfl
  | snoc t p ih =>
    rw [farD_has_snoc, ih, Bool.eq_iff_iff]
    simp only [Bool.or_eq_true, decide_eq_true_eq, List.map_append, List.mem_append, List.map_cons, List.map_nil, List.mem_singleton]
    exact or_comm
theorem farD_at {z : DataW Unit} : ∀ (V : List (Nat × Nat)), (V.map (·.1)).Nodup → ∀ u d, (u, d) ∈ V → (farD V).atKey (.int .i64 u) z = .lit (.int .i64 d) := by
  intro V
  induction V using List.reverseRecOn_ with
  | nil => intro _ u d h; simp at h
  | snoc t p ih =>
    intro hn u d h
    rw [List.map_append, List.nodup_append] at hn
    rw [farD_snoc]
    by_cases hu : u = p.1
    · subst hu
      rw [Maps.atKey_put_same (k := .int .i64 (p.1 : Nat)) (farD_isMap t) trivial]
      rcases List.mem_append.1 h with h | h
      · exact absurd rfl (hn.2.2 p.1 (List.mem_map.2 ⟨_, h, rfl⟩) p.1 (by simp))
      · rw [List.mem_singleton] at h; rw [show d = p.2 from congrArg Prod.snd h]
    · rw [Maps.atKey_put_other (lit_ne hu)]
      rcases List.mem_append.1 h with h | h
      · exact ih hn.1 u d h
      · rw [List.mem_singleton] at h; exact absurd (congrArg Prod.fst h) hu
/-- A key and its value put into a map that is just made. -/
theorem wpList_insert_own {H : Type} {P : Program} (w : World) {ops : Array Oper} {rest : List Oper} {o : Oper} {a : Act} {Q : Exit → Act → World → Prop}
    (hg : o.guard = none) (m x v : Operand) (t : TypeId) (hop : o.op = Op.insert t m x v)
    (k e : TypeId) (K : Keyed P k) (ht : P.underlying t = some (.map k e)) (R : Value → Option (DataW H × List MemPlace)) (b n : Nat) (D : DataW H)
    (hm : a.eval m = .map (some b)) (hown : w.ownsMap P k R b n D) (hn : n < maxLen) (key val : Value) (kl : Lit) (hx : a.eval x = key) (hv : a.eval v = val) (hkey : keyOf P k key = some kl)
    (d : DataW H) (ps : List MemPlace) (hval : R val = some (d, ps))
    (hK : ∀ w', w'.ownsMap P k R b (n + 1) (D.put kl d) → w.grownBy w' (some b) → wpList P ops Q rest (a.put o.dst undef) w') :
    wpList P ops Q (o :: rest) a w := by
  refine wpList_plain hg fun K' hK' => ?_
  obtain ⟨w', hrun, r1, r2⟩ := hown.update K ht hn hkey hval
  unfold Oper.wp
  simp [execOp, hop, hm, hx, hv, hrun, Result.andThen]
  exact hK' _ _ (hK w' r1 r2)
end Go.Proofs.Ytjmhhbjbmgpagaa

/- Contract of the program's shortest walk. -/
namespace Go.Proofs.Ytjmhhbjbmgpagaa
set_option linter.unusedVariables false
set_option linter.unusedSimpArgs false
open Go.RowKit
open Go.Maps (Keyed int_keyed keyOf_int_mk)
theorem downB_eq {E : Edges} {F : List Int} {u t : Nat} (hne : eA E t ≠ eB E t) : downB E F u t = (endB E t u && (F.getD (stepTo E u t) 0 == F.getD u 0 - 1)) := by
  unfold downB endB stepTo
  by_cases h1 : eA E t = u
  · have h2 : (eB E t == u) = false := beq_eq_false_iff_ne.2 (fun h => hne (h1.trans h.symm))
    rw [if_pos h1, h2, h1]; simp
  · have h2 : (eA E t == u) = false := beq_eq_false_iff_ne.2 h1
    rw [if_neg h1, h2]; simp
theorem drop_at {V : List (Nat × Nat)} {k u d : Nat} (h : V[k]? = some (u, d)) : nI ((V.drop k).map (·.1)) = (u : Int) :: nI ((V.drop (k + 1)).map (·.1)) := by
  have hk := (List.getElem?_eq_some_iff.1 h).1
  rw [List.drop_eq_getElem_cons hk, (List.getElem?_eq_some_iff.1 h).2]; rfl
theorem drop_snoc {V : List (Nat × Nat)} {k v d : Nat} (h : k ≤ V.length) : nI (((V ++ [(v, d)]).drop k).map (·.1)) = nI ((V.drop k).map (·.1)) ++ [(v : Int)] := by
  rw [List.drop_append_of_le_length h, List.map_append]; simp [nI]
theorem conn_of_wlk {E : Edges} {T : List Nat} {to n u : Nat} (h : Wlk E T to n u) : Conn E T to u := by
  induction h with
  | zero => exact .refl
  | fwd _ hi ih => exact ih.fwd hi
  | bwd _ hi ih => exact ih.bwd hi
theorem lit_inj {a b : Int} {H : Type} (h : (DataW.lit (Lit.int .i64 a) : DataW H) = .lit (.int .i64 b)) : a = b := by
  injection h with h
  injection h
theorem step_any (J : Int) (M : Option Addr) (m d : Nat) (xs : List Awy) (t u : Nat) (w : World) (hm1 : Reads w w.heap.size 7 M m (Awy.recs xs)) (hok : mineOk J xs = true) (ht : t < xs.length) :
    Calls Try.prog 152 #[.agg #[.int .i64 J, .slice M m d], .int .i64 t, .int .i64 u] w fun e w' => e = .returned (.int .i64 (stepN (edgesOf xs) u t)) ∧ Below w.heap.size w w' := by
  have hb0 : Below w.heap.size w (w.alloc (.cells #[.int .i64 J, .slice M m d] 31)) := (Below.refl _ _).alloc (Nat.le_refl _) _
  have HLm := Lib.hid (recs_rlen Awy.clen (by omega) hm1)
  have hx24 := (mineOk_t hok).2.1
  have htm : t < m := by rw [← HLm.out]; exact ht
  obtain ⟨ad, x, rfl, had, hx, hc⟩ := (hm1.below hb0).rec_at Awy.clen (by omega) htm
  obtain ⟨ea, eb, _, _⟩ := edge_ok hok hx
  obtain ⟨a0, a1, a2, a3, a4, a5, a6⟩ := Awy.open_ hc
  rw [ea] at a1
  have htI : (t : Int) < (m : Int) := by omega
  have HS : Hid (stepN (edgesOf xs) u t = if eA (edgesOf xs) t = u then (t : Int) + 1 else -(t : Int) - 1) := rfl
  have hm24 : m ≤ 24 := by rw [← HLm.out]; exact hx24
  clear hx24 hok
  generalize eA (edgesOf xs) t = ua at *
  by_cases hu : ua = u
  · have he : ((ua : Int) == (u : Int)) = true := by rw [hu]; exact beq_self_eq_true _
    have HV : Hid (stepN (edgesOf xs) u t = (t : Int) + 1) := HS.out.trans (if_pos hu)
    clear hx hc ea eb hu a0 a2 a3 a4 a5 a6
    go_enter Try.func152, Try.ntmps152
    go_wp2
    go_ret
    exact ⟨ret_int HV.out.symm, by (repeat (first | exact Below.refl _ _ | assumption | (refine Below.alloc ?_ (by first | exact Nat.le_refl _ | (simp; done) | (simp; omega)) _) | (refine below_drewN ?_ _) | (refine Below.trans ?_ (Below.mono (by assumption) (by first | exact Nat.le_refl _ | (simp; done) | (simp; omega) | omega)))))⟩
  · have he : ((ua : Int) == (u : Int)) = false := beq_eq_false_iff_ne.2 (by omega)
    have HV : Hid (stepN (edgesOf xs) u t = -(t : Int) - 1) := HS.out.trans (if_neg hu)
    clear hx hc ea eb hu a0 a2 a3 a4 a5 a6
    go_enter Try.func152, Try.ntmps152
    go_wp2
    go_ret
    exact ⟨ret_int HV.out.symm, by (repeat (first | exact Below.refl _ _ | assumption | (refine Below.alloc ?_ (by first | exact Nat.le_refl _ | (simp; done) | (simp; omega)) _) | (refine below_drewN ?_ _) | (refine Below.trans ?_ (Below.mono (by assumption) (by first | exact Nat.le_refl _ | (simp; done) | (simp; omega) | omega)))))⟩
theorem zeroI (w : World) : (zeroValue 3).run Try.prog w = .ok (.int .i64 0) w := by kernel_rfl
theorem keyI (a : Int) (h : -1000 ≤ a ∧ a ≤ 1000) : keyOf Try.prog 2 (.int .i64 a) = some (.int .i64 a) := keyOf_int_mk Try.underlying2 (WalkArith.wf_i64 (by omega))
set_option maxHeartbeats 12800000 in
set_option maxRecDepth 100000 in
theorem path_any (J : Int) (M : Option Addr) (m d : Nat) (xs : List Awy) (fr to : Nat) (A : Option Addr) (n c : Nat) (T : List Nat) (w : World) (hm1 : Reads w w.heap.size 7 M m (Awy.recs xs)) (hT1 : Reads w w.heap.size 1 A n (ints (nI T))) (hok : mineOk J xs = true) (hn : n ≤ 1000) (hTl : ∀ i ∈ T, i < xs.length)
    (hfr : fr < J.toNat) (hto : to < J.toNat) (hcon : Conn (edgesOf xs) T to fr) :
    Calls Try.prog 110 #[.agg #[.int .i64 J, .slice M m d], .int .i64 fr, .int .i64 to, .slice A n c] w fun e w' => ∃ A' n' c', e = .returned (.tuple #[.slice A' n' c', .bool true]) ∧ w'.ownsRow w.heap.size 2 1 (.slice A' n' c') n' (ints (backL (edgesOf xs) J.toNat T fr to)) ∧ n' ≤ 16 ∧ Below w.heap.size w w' := by
  obtain ⟨i0, hi0, hz0, hz1, hz2⟩ := info_parts info_Int64S
  obtain ⟨⟨j1, j2⟩, hx24, _⟩ := mineOk_t hok
  obtain ⟨jn, rfl⟩ : ∃ jn : Nat, J = jn := ⟨J.toNat, by omega⟩
  rw [Int.toNat_natCast] at *
  have hb0 : Below w.heap.size w (w.alloc (.cells #[.int .i64 jn, .slice M m d] 31)) := (Below.refl _ _).alloc (Nat.le_refl _) _
  have hm : Reads (w.alloc (.cells #[.int .i64 jn, .slice M m d] 31)) (w.heap.size + 1) 7 M m (Awy.recs xs) := (hm1.below hb0).more (by omega)
  have hT : Reads (w.alloc (.cells #[.int .i64 jn, .slice M m d] 31)) (w.heap.size + 1) 1 A n (ints (nI T)) := (hT1.below hb0).more (by omega)
  have HLm := Lib.hid (recs_rlen Awy.clen (by omega) hm1)
  have hm24 : m ≤ 24 := by rw [← HLm.out]; exact hx24
  have HLT : Hid (T.length = n) := show _ = _ by have := ints_len hT; rw [nI_len] at this; exact this
  have HOK := Lib.hid hok
  have HTl := Lib.hid hTl
  have HCO := Lib.hid hcon
  have HR : Hid (∀ i ∈ T, eA (edgesOf xs) i < jn ∧ eB (edgesOf xs) i < jn) := fun i hi => by have := edge_lt hok (hTl i hi); rwa [Int.toNat_natCast] at this
  have HNE : Hid (∀ i ∈ T, eA (edgesOf xs) i ≠ eB (edgesOf xs) i) := fun i hi => edge_ne hok (hTl i hi)
  have hjn : jn ≤ 16 := by omega
  have KL : Keyed Try.prog 2 := int_keyed Try.underlying2
  have hmm := @run_makeMap Try.prog
  have HM0 : Hid (((w.alloc (.cells #[.int .i64 jn, .slice M m d] 31)).alloc (.map #[] 0)).ownsMap Try.prog 2 (plainElem (H := Unit) Try.prog 3) (w.heap.size + 1) 0 (.map [])) := by
    have h := World.ownsMap_made (w.alloc (.cells #[.int .i64 jn, .slice M m d] 31)) Try.prog 2 (plainElem (H := Unit) Try.prog 3)
    rwa [show (w.alloc (.cells #[.int .i64 jn, .slice M m d] 31)).heap.size = w.heap.size + 1 by simp] at h
  clear hok hTl hcon hb0
  go_enter Try.func110, Try.ntmps110
  go_wp2_with (refine wpList_insert_own (H := Unit) _ rfl _ _ _ 150 rfl 2 3 KL Try.underlying150 (plainElem Try.prog 3) (w.heap.size + 1) 0 (.map []) (by rfl) HM0.out (by unfold maxLen; omega) _ _ _ rfl rfl (keyI to (by omega)) _ [] (plainElem_int Try.underlying3 (WalkArith.wf_i64 (by omega))) ?_; intro wm hom hgm)
  have HBm : Hid (Below (w.heap.size + 1) (w.alloc (.cells #[.int .i64 jn, .slice M m d] 31)) wm) := ((Below.refl _ _).alloc (by simp) _).grown hgm (by simp) (fun q hq => by injection hq with hq; omega)
  have hzm : w.heap.size + 2 ≤ wm.heap.size := by have h := hgm.size; simp at h; omega
  have HOM := Lib.hid hom
  have HF1 : Hid (farD [(to, 0)] = (DataW.map []).put (.int .i64 to) (.lit (.int .i64 (0 : Nat)))) := rfl
  clear hom hgm HM0 hmm
  go_loopg [11] jn (fun gk W wr => ∃ (k g kk n1 c1 : Nat) (V : List (Nat × Nat)), W = .slice (some ⟨g, kk, none⟩) n1 c1 ∧ Hid (gk + k = jn) ∧ Hid (k ≤ V.length) ∧ Hid (Bfs (edgesOf xs) jn T to k 0 V) ∧ Hid (Que wr (w.heap.size + 2) g kk n1 c1 (nI ((V.drop k).map (·.1)))) ∧
    Hid (wr.ownsMap Try.prog 2 (plainElem (H := Unit) Try.prog 3) (w.heap.size + 1) V.length (farD V)) ∧ Below (w.heap.size + 1) (w.alloc (.cells #[.int .i64 jn, .slice M m d] 31)) wr ∧ w.heap.size + 2 ≤ wr.heap.size)
  case atStart => exact ⟨0, _, 0, 1, 1, [(to, 0)], rfl, (show _ = _ by rfl), (show _ ≤ _ by simp), bfs_start hto, que_new hzm to, by rw [HF1.out]; exact HOM.out.alloc _, HBm.out.alloc (by omega) _, by simp; omega⟩
  case round =>
    obtain ⟨k, g, kk, n1, c1, V, rfl, HGK, HKV, HBF, HQ, HMP, hbr, hzr⟩ := hrel
    obtain ⟨wo, rfl⟩ : ∃ wo : World, wo = wr := ⟨_, rfl⟩
    clear HF1 HOM HBm hzm
    have hlen : n1 + k = V.length := by
      have h1 := HQ.out.len
      rw [nI_len, List.length_map, List.length_drop] at h1
      have := HKV.out; omega
    have HLN := Lib.hid hlen
    by_cases hn1 : 0 < n1
    · obtain ⟨⟨u, du⟩, hu⟩ : ∃ p, V[k]? = some p := ⟨_, List.getElem?_eq_getElem (by omega)⟩
      have HU := Lib.hid hu
      have hkJ : k < jn := by have := bfs_len HBF.out; omega
      have HKJ := Lib.hid hkJ
      clear hu hlen hkJ
      have hn1I : (0 : Int) < (n1 : Int) := by omega
      go_wp2
      go_loopw [11, 38] (fun W i wq => ∃ (q g2 kk2 n2 c2 : Nat) (V2 : List (Nat × Nat)), W = .slice (some ⟨g2, kk2, none⟩) n2 c2 ∧ i = .int .i64 q ∧ q ≤ n ∧ Hid (V2[k]? = some (u, du)) ∧ Hid (Bfs (edgesOf xs) jn T to k q V2) ∧ Hid (Que wq (w.heap.size + 2) g2 kk2 n2 c2 (nI ((V2.drop k).map (·.1)))) ∧
        Hid (wq.ownsMap Try.prog 2 (plainElem (H := Unit) Try.prog 3) (w.heap.size + 1) V2.length (farD V2)) ∧ Below (w.heap.size + 1) (w.alloc (.cells #[.int .i64 jn, .slice M m d] 31)) wq ∧ w.heap.size + 2 ≤ wq.heap.size) (fun _ i _ => n - (intOf i).toNat)
      case atStart => exact ⟨0, g, kk, n1, c1, V, rfl, rfl, by omega, HU, HBF, HQ, HMP, hbr, hzr⟩
      case round =>
        obtain ⟨q, g2, kk2, n2, c2, V2, rfl, rfl, hq, HU2, HBF2, HQ2, HMP2, hbq, hzq⟩ := hrel
        clear HLN hn1 hn1I HKV HBF HQ HMP HU hbr hzr
        obtain ⟨wi, rfl⟩ : ∃ wi : World, wi = wr := ⟨_, rfl⟩
        have hlen2 : n2 + k = V2.length ∧ 0 < n2 := by
          have h1 := HQ2.out.len
          have h2 := (List.getElem?_eq_some_iff.1 HU2.out).1
          rw [nI_len, List.length_map, List.length_drop] at h1
          omega
        have hn2 : 0 < n2 := hlen2.2
        have hV2 : V2.length ≤ jn := bfs_len HBF2.out
        have HL2 := Lib.hid hlen2.1
        have hn2b : n2 ≤ 16 := by omega
        clear hlen2
        have hq0 := (drop_at HU2.out) ▸ HQ2.out
        have cu := hq0.head
        by_cases hqn : q < n
        · obtain ⟨t, htq⟩ : ∃ t, T[q]? = some t := ⟨_, List.getElem?_eq_getElem (by rw [HLT.out]; exact hqn)⟩
          have htT := List.mem_of_getElem? htq
          have htl := HTl.out t htT
          obtain ⟨td, rfl, htd, _, hct⟩ := (hT.below hbq).int_at (nI_at htq)
          obtain ⟨ad, x, rfl, had, hx, hc⟩ := (hm.below hbq).rec_at Awy.clen (by omega) (k := t) (by rw [← HLm.out]; exact htl)
          obtain ⟨ea, eb, ha, hb⟩ := edge_ok HOK.out hx
          obtain ⟨a0, a1, a2, a3, a4, a5, a6⟩ := Awy.open_ hc
          rw [Int.toNat_natCast] at ha hb
          have htm : t < m := by rw [← HLm.out]; exact htl
          have b1 : wi.cell? ⟨w.heap.size, 1, none⟩ = some (.slice (some ad) m d) := (hbq.cell (p := ⟨w.heap.size, 1, none⟩) (by show w.heap.size < _; omega)).trans (by go_simp)
          rw [ea] at a1
          rw [eb] at a2
          have hqI : (q : Int) < (n : Int) := by omega
          have htI : (t : Int) < (m : Int) := by omega
          have hn2I : (0 : Int) < (n2 : Int) := by omega
          have HTQ := Lib.hid htq
          have hne := HNE.out t htT
          clear hq0
          cases hend : endB (edgesOf xs) t u
          · obtain ⟨o1, o2⟩ := oth_n hend
            have HA : Hid (∀ W : World, Calls Try.prog 151 #[.agg #[.string x.s, .int .i64 (eA (edgesOf xs) t : Nat), .int .i64 (eB (edgesOf xs) t : Nat), .int .i64 x.l, .int .i64 x.c, .int .i64 x.f, .int .i64 x.h], .int .i64 (u : Nat)] W fun e w' => e = .returned (.tuple #[.int .i64 0, .bool false]) ∧ Below W.heap.size W w') :=
              fun W => by have := other_any x.s (eA (edgesOf xs) t : Nat) (eB (edgesOf xs) t : Nat) x.l x.c x.f x.h (u : Nat) W; rw [o1, o2] at this; exact this
            have HN : Hid (Bfs (edgesOf xs) jn T to k (q + 1) V2) := bfs_skip HBF2.out HU2.out htq (fun v hl => by rw [lead_end hl] at hend; cases hend)
            generalize eA (edgesOf xs) t = ua at *
            generalize eB (edgesOf xs) t = ub at *
            clear hx hc htq htl htT ea eb hend o1 o2 hne hV2
            go_wp2
            have m1_0 := nb_cell b1 (block_lt_of_cell b1); have m1_1 := nb_cell a0 (block_lt_of_cell a0); have m1_2 := nb_cell a1 (block_lt_of_cell a1); have m1_3 := nb_cell a2 (block_lt_of_cell a2); have m1_4 := nb_cell a3 (block_lt_of_cell a3); have m1_5 := nb_cell a4 (block_lt_of_cell a4); have m1_6 := nb_cell a5 (block_lt_of_cell a5); have m1_7 := nb_cell a6 (block_lt_of_cell a6); have m1_8 := nb_cell cu (block_lt_of_cell cu); (refine wp_region_nb (by kernel_rfl) (by kernel_rfl) ?_); (repeat (go_big_quiet_step (((go_at_call 151; exact nb_call (HA.out _)))))); (refine wpQuiet_nil ?_); intro w1 hw1; have hb1 := nb_out hw1; clear hw1 m1_0 m1_1 m1_2 m1_3 m1_4 m1_5 m1_6 m1_7 m1_8
            have HM1 := Lib.hid (HMP2.out.kept (only_of_below hb1 none) (by simp))
            have HQ1 := Lib.hid (HQ2.out.below hb1)
            have hz1' := hb1.size
            go_wp2_with (at_lookup; refine wpList_lookup_own_ok_int _ rfl _ _ 150 rfl 2 3 .i64 KL Try.underlying150 Try.underlying3 (zeroI _) (w.heap.size + 1) _ _ rfl HM1.out _ _ rfl (keyI 0 (by omega)) ?_; intro c0 hat0 hwc0)
            go_wp2
            go_roundw
            case rel => exact ⟨q + 1, g2, kk2, n2, c2, V2, rfl, by go_num, by omega, HU2, HN, HQ1, HM1, hbq.trans (hb1.mono (by omega)), by omega⟩
            case measure => simp [intOf]; omega
          · obtain ⟨o1, o2⟩ := oth_y hend
            have HA : Hid (∀ W : World, Calls Try.prog 151 #[.agg #[.string x.s, .int .i64 (eA (edgesOf xs) t : Nat), .int .i64 (eB (edgesOf xs) t : Nat), .int .i64 x.l, .int .i64 x.c, .int .i64 x.f, .int .i64 x.h], .int .i64 (u : Nat)] W fun e w' => e = .returned (.tuple #[.int .i64 (stepTo (edgesOf xs) u t : Nat), .bool true]) ∧ Below W.heap.size W w') :=
              fun W => by have := other_any x.s (eA (edgesOf xs) t : Nat) (eB (edgesOf xs) t : Nat) x.l x.c x.f x.h (u : Nat) W; rw [o1, o2] at this; exact this
            have hl := lead_to hend
            have hvJ : stepTo (edgesOf xs) u t < jn := hl.lt HR.out htT
            by_cases hin : stepTo (edgesOf xs) u t ∈ V2.map (·.1)
            · have hH : Maps.has (farD V2) (.int .i64 (stepTo (edgesOf xs) u t : Nat)) = true := by rw [farD_has]; exact decide_eq_true hin
              have HN : Hid (Bfs (edgesOf xs) jn T to k (q + 1) V2) := bfs_skip HBF2.out HU2.out htq (fun v hl' => by rw [lead_one hne hl']; exact hin)
              generalize stepTo (edgesOf xs) u t = v at *
              generalize eA (edgesOf xs) t = ua at *
              generalize eB (edgesOf xs) t = ub at *
              clear hx hc htq htl htT ea eb hend o1 o2 hne hV2 hl hin
              go_wp2
              have m1_0 := nb_cell b1 (block_lt_of_cell b1); have m1_1 := nb_cell a0 (block_lt_of_cell a0); have m1_2 := nb_cell a1 (block_lt_of_cell a1); have m1_3 := nb_cell a2 (block_lt_of_cell a2); have m1_4 := nb_cell a3 (block_lt_of_cell a3); have m1_5 := nb_cell a4 (block_lt_of_cell a4); have m1_6 := nb_cell a5 (block_lt_of_cell a5); have m1_7 := nb_cell a6 (block_lt_of_cell a6); have m1_8 := nb_cell cu (block_lt_of_cell cu); (refine wp_region_nb (by kernel_rfl) (by kernel_rfl) ?_); (repeat (go_big_quiet_step (((go_at_call 151; exact nb_call (HA.out _)))))); (refine wpQuiet_nil ?_); intro w1 hw1; have hb1 := nb_out hw1; clear hw1 m1_0 m1_1 m1_2 m1_3 m1_4 m1_5 m1_6 m1_7 m1_8
              have HM1 := Lib.hid (HMP2.out.kept (only_of_below hb1 none) (by simp))
              have HQ1 := Lib.hid (HQ2.out.below hb1)
              have hz1' := hb1.size
              go_wp2_with (at_lookup; refine wpList_lookup_own_ok_int _ rfl _ _ 150 rfl 2 3 .i64 KL Try.underlying150 Try.underlying3 (zeroI _) (w.heap.size + 1) _ _ rfl HM1.out _ _ rfl (keyI (v : Nat) (by omega)) ?_; intro c0 hat0 hwc0)
              go_wp2
              go_roundw
              case rel => exact ⟨q + 1, g2, kk2, n2, c2, V2, rfl, by go_num, by omega, HU2, HN, HQ1, HM1, hbq.trans (hb1.mono (by omega)), by omega⟩
              case measure => simp [intOf]; omega
            · have hH : Maps.has (farD V2) (.int .i64 (stepTo (edgesOf xs) u t : Nat)) = false := by rw [farD_has]; exact decide_eq_false hin
              have HN : Hid (Bfs (edgesOf xs) jn T to k (q + 1) (V2 ++ [(stepTo (edgesOf xs) u t, du + 1)])) := bfs_add HBF2.out HU2.out htq hne HR.out hl hin
              have HAT : Hid (∀ z : DataW Unit, (farD V2).atKey (.int .i64 (u : Nat)) z = .lit (.int .i64 (du : Nat))) := fun z => farD_at V2 HBF2.out.rch.nodup u du (List.mem_of_getElem? HU2.out)
              have hduJ : du < jn := dist_lt hto HR.out (HBF2.out.dist _ (List.mem_of_getElem? HU2.out))
              have huJ : u < jn := HBF2.out.rch.lt u (List.mem_map.2 ⟨_, List.mem_of_getElem? HU2.out, rfl⟩)
              generalize stepTo (edgesOf xs) u t = v at *
              generalize eA (edgesOf xs) t = ua at *
              generalize eB (edgesOf xs) t = ub at *
              have HU3 : Hid ((V2 ++ [(v, du + 1)])[k]? = some (u, du)) := show _ = _ by rw [List.getElem?_append_left (List.getElem?_eq_some_iff.1 HU2.out).1]; exact HU2.out
              have HDS := Lib.hid (drop_snoc (V := V2) (k := k) (v := v) (d := du + 1) (by have := (List.getElem?_eq_some_iff.1 HU2.out).1; omega))
              have HFS := Lib.hid (farD_snoc V2 (v, du + 1))
              clear hx hc htq htl htT ea eb hend o1 o2 hne hl hin
              go_wp2
              have m1_0 := nb_cell b1 (block_lt_of_cell b1); have m1_1 := nb_cell a0 (block_lt_of_cell a0); have m1_2 := nb_cell a1 (block_lt_of_cell a1); have m1_3 := nb_cell a2 (block_lt_of_cell a2); have m1_4 := nb_cell a3 (block_lt_of_cell a3); have m1_5 := nb_cell a4 (block_lt_of_cell a4); have m1_6 := nb_cell a5 (block_lt_of_cell a5); have m1_7 := nb_cell a6 (block_lt_of_cell a6); have m1_8 := nb_cell cu (block_lt_of_cell cu); (refine wp_region_nb (by kernel_rfl) (by kernel_rfl) ?_); (repeat (go_big_quiet_step (((go_at_call 151; exact nb_call (HA.out _)))))); (refine wpQuiet_nil ?_); intro w1 hw1; have hb1 := nb_out hw1; clear hw1 m1_0 m1_1 m1_2 m1_3 m1_4 m1_5 m1_6 m1_7 m1_8
              have HM1 := Lib.hid (HMP2.out.kept (only_of_below hb1 none) (by simp))
              have HQ1 := Lib.hid (HQ2.out.below hb1)
              have hz1' := hb1.size
              have cu1 : w1.cell? ⟨g2, kk2, none⟩ = some (.int .i64 (u : Nat)) := (hb1.cell (p := ⟨g2, kk2, none⟩) HQ2.out.hi).trans cu
              have hb3 := hbq.trans (hb1.mono (by omega))
              go_wp2_with (first
                | (at_lookup; refine wpList_lookup_own_ok_int _ rfl _ _ 150 rfl 2 3 .i64 KL Try.underlying150 Try.underlying3 (zeroI _) (w.heap.size + 1) _ _ rfl HM1.out _ _ rfl (keyI (v : Nat) (by omega)) ?_; intro c0 hat0 hwc0)
                | (at_lookup; refine wpList_lookup_own_int _ rfl _ _ 150 rfl 2 3 .i64 KL Try.underlying150 Try.underlying3 (zeroI _) (w.heap.size + 1) _ _ rfl HM1.out _ _ rfl (keyI (u : Nat) (by omega)) ?_; intro c1' hat1 hwc1; have e1 := lit_inj (hat1.symm.trans (HAT.out _)); subst e1; clear hat1)
                | (at_mapUpdate; refine wpList_mapUpdate_own _ rfl _ _ _ 150 rfl 2 3 KL Try.underlying150 (plainElem (H := Unit) Try.prog 3) (w.heap.size + 1) _ _ rfl HM1.out (by unfold maxLen; omega) _ (.int .i64 ((du : Int) + 1)) _ rfl rfl (keyI (v : Nat) (by omega)) _ [] (plainElem_int Try.underlying3 (WalkArith.wf_i64 (by omega))) ?_; intro w2 hown2 hgrow2; have HM2 := Lib.hid hown2; have HQ2' : Hid (Que (w2.alloc (.cells #[.int .i64 (v : Nat)] 2)) (w.heap.size + 2) g2 kk2 n2 c2 (nI ((V2.drop k).map (·.1)))) := ((HQ1.out.grown hgrow2 (by have := HQ1.out.lo; intro h; injection h with h; omega)).alloc _); have HB2 : Hid (Below (w.heap.size + 1) (w.alloc (.cells #[.int .i64 jn, .slice (some ad) m d] 31)) w2) := hb3.grown hgrow2 (by have := hb3.size; simp at this; omega) (fun q hq => by injection hq with hq; omega); have hz2' := hgrow2.size; clear hown2 hgrow2)
                | (at_builtin; refine wpList_app_que _ rfl _ _ 25 rfl Try.underlying25 hi0 hz0 hz1 hz2 rfl rfl HQ2'.out (v : Nat) ⟨w2.heap.size, 0, none⟩ rfl (cell_new1 _ _ _) (by omega) (by simp; omega) ?_; intro g3 kk3 c3 w3 hq3 hg3))
              have HQ3 : Hid (Que w3 (w.heap.size + 2) g3 kk3 (n2 + 1) c3 (nI (((V2 ++ [(v, du + 1)]).drop k).map (·.1)))) := show Que _ _ _ _ _ _ _ by rw [HDS.out]; exact hq3
              have HM3 : Hid (w3.ownsMap Try.prog 2 (plainElem (H := Unit) Try.prog 3) (w.heap.size + 1) (V2 ++ [(v, du + 1)]).length (farD (V2 ++ [(v, du + 1)]))) := show World.ownsMap _ _ _ _ _ _ _ by
                rw [List.length_append, HFS.out, show ((du + 1 : Nat) : Int) = (du : Int) + 1 by omega]
                exact (HM2.out.alloc _).kept hg3 (by have := HQ1.out.lo; intro h; injection h with h; omega)
              have HB3 : Hid (Below (w.heap.size + 1) (w.alloc (.cells #[.int .i64 jn, .slice (some ad) m d] 31)) w3) := (HB2.out.alloc (by have := HB2.out.size; simp at this; omega) _).grown hg3 (by have := HB2.out.size; simp at this ⊢; omega) (fun q hq => by have := HQ1.out.lo; injection hq with hq; omega)
              have hz3 : w.heap.size + 2 ≤ w3.heap.size := by have h := hg3.size; simp at h; omega
              clear hq3 hg3 hat0 hwc0 hwc1
              go_roundw
              case rel => exact ⟨q + 1, g3, kk3, n2 + 1, c3, V2 ++ [(v, du + 1)], rfl, by go_num, by omega, HU3, HN, HQ3, HM3, HB3.out, hz3⟩
              case measure => simp [intOf]; omega
        · have HBN : Hid (Bfs (edgesOf xs) jn T to (k + 1) 0 V2) := bfs_next HBF2.out (List.getElem?_eq_some_iff.1 HU2.out).1 (by rw [HLT.out]; omega)
          have HQN := Lib.hid hq0.cut
          have HLE : Hid (k + 1 ≤ V2.length) := show _ ≤ _ by have := HL2.out; omega
          have HC1 := HQ2.out.le
          clear hq0 cu hV2
          by_cases hc1 : c2 = 1
          · subst hc1
            obtain rfl : n2 = 1 := by omega
            have HQX : Hid (Que wi (w.heap.size + 2) g2 kk2 0 0 (nI ((V2.drop (k + 1)).map (·.1)))) := by have h := HQN.out; rw [if_pos rfl] at h; exact h
            clear HQN
            go_wp2
            go_roundg (gk - 1)
            case measure => have h1 := HGK.out; have h2 := HKJ.out; omega
            case rel => exact ⟨k + 1, g2, kk2, 0, 0, V2, rfl, (show _ = _ by have h1 := HGK.out; have h2 := HKJ.out; omega), HLE, HBN, HQX, HMP2, hbq, hzq⟩
          · have HQX : Hid (Que wi (w.heap.size + 2) g2 (kk2 + 1) (n2 - 1) (c2 - 1) (nI ((V2.drop (k + 1)).map (·.1)))) := by have h := HQN.out; rw [if_neg hc1] at h; exact h
            clear HQN
            go_wp2
            go_roundg (gk - 1)
            case measure => have h1 := HGK.out; have h2 := HKJ.out; omega
            case rel => exact ⟨k + 1, g2, kk2 + 1, n2 - 1, c2 - 1, V2, rfl, (show _ = _ by have h1 := HGK.out; have h2 := HKJ.out; omega), HLE, HBN, HQX, HMP2, hbq, hzq⟩
    · have hn0 : n1 = 0 := by omega
      have hVk : V.length ≤ k := by omega
      have hVJ : V.length ≤ jn := bfs_len HBF.out
      have HLK : Hid (∀ (W : World) (v : Nat), Below wo.heap.size wo W → Conn (edgesOf xs) T to v → (Instr.lookup 150 (.map (some (w.heap.size + 1))) (.int .i64 (v : Nat)) false).run Try.prog W = .ok (.int .i64 ((farL (edgesOf xs) jn T to).getD v 0)) W) := fun W v hW hc => by
        obtain ⟨dv, hd1, hd2⟩ := bfs_end HBF.out hVk hc
        have hv : v < jn := HBF.out.rch.lt v (List.mem_map.2 ⟨_, hd1, rfl⟩)
        have hm := HMP.out.kept (only_of_below hW none) (by simp)
        obtain ⟨c, hrun, hat, _⟩ := hm.lookup_int KL Try.underlying150 Try.underlying3 (zeroI _) (keyI (v : Nat) (by omega))
        rw [farD_at V HBF.out.rch.nodup v dv hd1] at hat
        rw [hrun, ((far_char hto HR.out hv).2.2 dv).2 hd2, lit_inj hat]
      have hH : Maps.has (farD V) (.int .i64 (fr : Nat)) = true := by
        obtain ⟨dv, hd1, _⟩ := bfs_end HBF.out hVk HCO.out
        rw [farD_has]; exact decide_eq_true (List.mem_map.2 ⟨_, hd1, rfl⟩)
      have HFC : Hid (∀ u, u < jn → -1 ≤ (farL (edgesOf xs) jn T to).getD u 0 ∧ (farL (edgesOf xs) jn T to).getD u 0 ≤ (jn : Int) + 1 ∧ ∀ dd : Nat, (farL (edgesOf xs) jn T to).getD u 0 = (dd : Int) ↔ isDist (edgesOf xs) T to dd u) := fun u hu => far_char hto HR.out hu
      have HDX : Hid (∀ u dd, u < jn → isDist (edgesOf xs) T to (dd + 1) u → ∃ i, T.find? (downB (edgesOf xs) (farL (edgesOf xs) jn T to) u) = some i) := fun u dd hu hd => find_ex (down_ex hto HR.out hu hd)
      have HDT : Hid (∀ u dd i, u < jn → isDist (edgesOf xs) T to (dd + 1) u → i ∈ T → downB (edgesOf xs) (farL (edgesOf xs) jn T to) u i = true → (eA (edgesOf xs) i = u ∨ eB (edgesOf xs) i = u) ∧ stepTo (edgesOf xs) u i < jn ∧ isDist (edgesOf xs) T to dd (stepTo (edgesOf xs) u i)) := fun u dd i hu hd hi hb => down_t hto HR.out hu hd hi hb
      obtain ⟨D, hD⟩ : ∃ D, isDist (edgesOf xs) T to D fr := by
        obtain ⟨nn, h1⟩ := wlk_of_conn HCO.out
        obtain ⟨D, _, h2⟩ := dist_exists nn h1
        exact ⟨D, h2⟩
      have hDk : D < jn := dist_lt hto HR.out hD
      have hDf := ((HFC.out fr hfr).2.2 D).2 hD
      have HBK : Hid (walkL (edgesOf xs) T (farL (edgesOf xs) jn T to) to D fr = backL (edgesOf xs) jn T fr to) := show _ = _ by unfold backL; rw [hDf, Int.toNat_natCast]
      have HIS := Lib.hid hD
      have HM1 := HMP
      generalize hFF : farL (edgesOf xs) jn T to = F at *
      have HB0 := Lib.hid hbr
      have hzw : w.heap.size + 2 ≤ wo.heap.size := hzr
      clear hD hDf hFF hlen HGK HQ HBF hVk hn1
      subst hn0
      go_wp2_with (at_lookup; refine wpList_lookup_own_ok_int _ rfl _ _ 150 rfl 2 3 .i64 KL Try.underlying150 Try.underlying3 (zeroI _) (w.heap.size + 1) _ _ rfl HM1.out _ _ rfl (keyI (fr : Nat) (by omega)) ?_; intro c0 hat0 hwc0)
      go_loopw [20, 21] (fun o i wq => ∃ (A2 : Option Addr) (c2 at_ rem : Nat) (out : List Int), o = .slice A2 out.length c2 ∧ i = .int .i64 at_ ∧ at_ < jn ∧ Hid (isDist (edgesOf xs) T to rem at_) ∧ Hid (out ++ walkL (edgesOf xs) T F to rem at_ = backL (edgesOf xs) jn T fr to) ∧ Hid (out.length + rem = D) ∧
        wq.ownsRow wo.heap.size 2 1 (.slice A2 out.length c2) out.length (ints out) ∧ Below wo.heap.size wo wq) (fun o i _ => D - lenV o)
      case atStart => exact ⟨none, 0, fr, D, [], rfl, rfl, hfr, HIS, HBK, (show _ = _ by simp), own_nil _ _ _ _, Below.refl _ _⟩
      case round =>
        obtain ⟨A2, c2, at_, rem, out, rfl, rfl, hat, HID, HWK, HLN2, ho, hbo⟩ := hrel
        obtain ⟨wk, rfl⟩ : ∃ wk : World, wk = wr := ⟨_, rfl⟩
        clear hat0 hwc0 hH
        by_cases hne : at_ = to
        · have hne1 : ((at_ : Int) != (to : Int)) = false := by rw [hne]; simp
          have HOO := Lib.hid ho
          have HAT := Lib.hid hne
          clear ho hne
          go_wp2
          go_ret2
          have h0 : walkL (edgesOf xs) T F to rem at_ = [] := by
            cases rem with
            | zero => rfl
            | succ r => simp only [walkL]; rw [if_pos HAT.out]
          have h1 := HWK.out
          rw [h0, List.append_nil] at h1
          rw [← h1]
          exact ⟨A2, _, c2, rfl, own_base HOO.out (by omega), by have := HLN2.out; omega, ((Below.refl _ _).alloc (Nat.le_refl _) _).trans ((HB0.out.trans (hbo.mono (by omega))).mono (by omega))⟩
        · have hne1 : ((at_ : Int) != (to : Int)) = true := by
            rw [bne_iff_ne]; omega
          obtain ⟨r, rfl⟩ : ∃ r, rem = r + 1 := by
            cases rem with
            | zero => exact absurd (dist_zero.1 HID.out) hne
            | succ r => exact ⟨r, rfl⟩
          obtain ⟨i, hfi⟩ := HDX.out at_ r hat HID.out
          have HST := Lib.hid (walk_step (r := r) hne hfi)
          obtain ⟨qi, hqi, hdi, hbef⟩ := find_split hfi
          have HQI := Lib.hid hqi
          have HDI := Lib.hid hdi
          have HBEF := Lib.hid hbef
          have hqn : qi < n := by rw [← HLT.out]; exact (List.getElem?_eq_some_iff.1 hqi).1
          have HLO := Lib.hid ho
          clear hfi hqi hdi hbef hne
          go_wp2
          go_loopw [20, 21, 92] (fun o u i wq => ∃ q : Nat, q ≤ qi ∧ o = .slice A2 out.length c2 ∧ u = .int .i64 at_ ∧ i = .int .i64 q ∧ Below wk.heap.size wk wq) (fun _ _ i _ => qi - (intOf i).toNat)
          case atStart => exact ⟨0, by omega, rfl, rfl, rfl, Below.refl _ _⟩
          case round =>
            obtain ⟨q, hq, rfl, rfl, rfl, hbz⟩ := hrel
            obtain ⟨wz, rfl⟩ : ∃ wz : World, wz = wr := ⟨_, rfl⟩
            have hqn2 : q < n := by omega
            have hqI : (q : Int) < (n : Int) := by omega
            have hzk := hbo.size
            have hzz := hbz.size
            have hbw : Below (w.heap.size + 1) (w.alloc (.cells #[.int .i64 jn, .slice M m d] 31)) wz := HB0.out.trans ((hbo.trans (hbz.mono hzk)).mono (by omega))
            obtain ⟨t, htq⟩ : ∃ t, T[q]? = some t := ⟨_, List.getElem?_eq_getElem (by rw [HLT.out]; exact hqn2)⟩
            have htT := List.mem_of_getElem? htq
            have htl := HTl.out t htT
            obtain ⟨td, rfl, htd, _, hct⟩ := (hT.below hbw).int_at (nI_at htq)
            obtain ⟨ad, x, rfl, had, hx, hc⟩ := (hm.below hbw).rec_at Awy.clen (by omega) (k := t) (by rw [← HLm.out]; exact htl)
            obtain ⟨ea, eb, ha, hb⟩ := edge_ok HOK.out hx
            obtain ⟨a0, a1, a2, a3, a4, a5, a6⟩ := Awy.open_ hc
            rw [Int.toNat_natCast] at ha hb
            rw [ea] at a1
            rw [eb] at a2
            have htm : t < m := by rw [← HLm.out]; exact htl
            have b0 : wz.cell? ⟨w.heap.size, 0, none⟩ = some (.int .i64 jn) := (hbw.cell (p := ⟨w.heap.size, 0, none⟩) (by show w.heap.size < _; omega)).trans (by go_simp)
            have b1 : wz.cell? ⟨w.heap.size, 1, none⟩ = some (.slice (some ad) m d) := (hbw.cell (p := ⟨w.heap.size, 1, none⟩) (by show w.heap.size < _; omega)).trans (by go_simp)
            have htI : (t : Int) < (m : Int) := by omega
            have hneE := HNE.out t htT
            have hDE := downB_eq (E := edgesOf xs) (F := F) (u := at_) (t := t) hneE
            have fat := ((HFC.out at_ hat).2.2 (r + 1)).2 HID.out
            have hcat : Conn (edgesOf xs) T to at_ := conn_of_wlk HID.out.1
            have HWZ : Hid (∀ W : World, Below wz.heap.size wz W → Below wo.heap.size wo W) := fun W hW => (hbo.trans (hbz.mono hzk)).trans (hW.mono (by omega))
            cases hend : endB (edgesOf xs) t at_
            · rw [hend, Bool.false_and] at hDE
              have hqlt : q < qi := by
                rcases Nat.lt_or_ge q qi with h | h
                · exact h
                · obtain rfl : q = qi := by omega
                  have h1 := HQI.out
                  rw [htq] at h1
                  injection h1 with h1
                  have h2 := HDI.out
                  rw [← h1, hDE] at h2; cases h2
              obtain ⟨o1, o2⟩ := oth_n hend
              have HA := Lib.hid (show Calls Try.prog 151 #[.agg #[.string x.s, .int .i64 (eA (edgesOf xs) t : Nat), .int .i64 (eB (edgesOf xs) t : Nat), .int .i64 x.l, .int .i64 x.c, .int .i64 x.f, .int .i64 x.h], .int .i64 (at_ : Nat)] wz fun e w' => e = .returned (.tuple #[.int .i64 0, .bool false]) ∧ Below wz.heap.size wz w' from by have := other_any x.s (eA (edgesOf xs) t : Nat) (eB (edgesOf xs) t : Nat) x.l x.c x.f x.h (at_ : Nat) wz; rw [o1, o2] at this; exact this)
              generalize eA (edgesOf xs) t = ua at *
              generalize eB (edgesOf xs) t = ub at *
              clear hx hc htq htl htT ea eb hend o1 o2 hneE hDE fat hcat ho
              go_wp2_with fail; ((with_reducible refine HA.out.mono ?_); rintro e w1 ⟨rfl, hb1⟩)
              go_wp2
              go_roundw
              case rel => exact ⟨q + 1, by omega, rfl, rfl, by go_num, hbz.trans (hb1.mono (by omega))⟩
              case measure => simp [intOf]; omega
            · have hl := lead_to hend
              have hcv : Conn (edgesOf xs) T to (stepTo (edgesOf xs) at_ t) := hl.conn htT hcat
              have hvJ : stepTo (edgesOf xs) at_ t < jn := hl.lt HR.out htT
              obtain ⟨o1, o2⟩ := oth_y hend
              have HA := Lib.hid (show Calls Try.prog 151 #[.agg #[.string x.s, .int .i64 (eA (edgesOf xs) t : Nat), .int .i64 (eB (edgesOf xs) t : Nat), .int .i64 x.l, .int .i64 x.c, .int .i64 x.f, .int .i64 x.h], .int .i64 (at_ : Nat)] wz fun e w' => e = .returned (.tuple #[.int .i64 (stepTo (edgesOf xs) at_ t : Nat), .bool true]) ∧ Below wz.heap.size wz w' from by have := other_any x.s (eA (edgesOf xs) t : Nat) (eB (edgesOf xs) t : Nat) x.l x.c x.f x.h (at_ : Nat) wz; rw [o1, o2] at this; exact this)
              have HL1 : Hid (∀ W : World, Below wz.heap.size wz W → (Instr.lookup 150 (.map (some (w.heap.size + 1))) (.int .i64 (stepTo (edgesOf xs) at_ t : Nat)) false).run Try.prog W = .ok (.int .i64 (F.getD (stepTo (edgesOf xs) at_ t) 0)) W) := fun W hW => HLK.out W _ (HWZ.out W hW) hcv
              have HL2 : Hid (∀ W : World, Below wz.heap.size wz W → (Instr.lookup 150 (.map (some (w.heap.size + 1))) (.int .i64 (at_ : Nat)) false).run Try.prog W = .ok (.int .i64 (F.getD at_ 0)) W) := fun W hW => HLK.out W _ (HWZ.out W hW) hcat
              have hvf := HFC.out _ hvJ
              obtain ⟨rf, hrf⟩ : ∃ rf : Int, rf = ((r + 1 : Nat) : Int) := ⟨_, rfl⟩
              rw [← hrf] at fat
              have hr16 : r < 16 := by have := HLN2.out; omega
              have hrf1 : 1 ≤ rf := by omega
              have hrf2 : rf ≤ 16 := by omega
              rw [fat] at HL2
              rw [hend, Bool.true_and, fat] at hDE
              have hvf1 := hvf.1
              have hvf2 := hvf.2.1
              by_cases hqq : q = qi
              · have hti : t = i := by
                  have h := HQI.out
                  rw [← hqq, htq] at h
                  injection h
                have hdt := HDI.out
                rw [← hti, hDE] at hdt
                have hRT := HDT.out at_ r t hat HID.out htT (by rw [hti]; exact HDI.out)
                have HTI : Hid (out ++ [stepN (edgesOf xs) at_ t] ++ walkL (edgesOf xs) T F to r (stepTo (edgesOf xs) at_ t) = backL (edgesOf xs) jn T fr to) := show _ = _ by
                  rw [← HWK.out, HST.out, ← hti, List.append_assoc]; rfl
                have HRT := Lib.hid hRT.2.2
                have hbW : Below w.heap.size w wz := ((Below.refl _ _).alloc (Nat.le_refl _) _).trans (hbw.mono (by omega))
                have HSP : Hid (∀ W : World, Below wz.heap.size wz W → Calls Try.prog 152 #[.agg #[.int .i64 jn, .slice (some ad) m d], .int .i64 t, .int .i64 at_] W fun e w' => e = .returned (.int .i64 (stepN (edgesOf xs) at_ t)) ∧ Below W.heap.size W w') := fun W hW =>
                  step_any jn (some ad) m d xs t at_ W ((hm1.below (hbW.trans (hW.mono (by omega)))).more (hbW.trans (hW.mono (by omega))).size) HOK.out htl
                have HSNB : Hid (-24 ≤ stepN (edgesOf xs) at_ t ∧ stepN (edgesOf xs) at_ t ≤ 24) := by unfold stepN; split <;> exact ⟨by omega, by omega⟩
                have HWZ1 := Lib.hid (hbo.trans (hbz.mono hzk))
                generalize stepTo (edgesOf xs) at_ t = v at *
                generalize stepN (edgesOf xs) at_ t = sn at *
                generalize eA (edgesOf xs) t = ua at *
                generalize eB (edgesOf xs) t = ub at *
                generalize hX : F.getD v 0 = X at *
                have HBZ := Lib.hid hbz
                clear hx hc htq htl htT ea eb hend o1 o2 hneE hDE fat hcat hl hcv ho hrf hvf hti hRT hqq hX
                go_wp2_with fail; ((with_reducible refine HA.out.mono ?_); rintro e w1 ⟨rfl, hb1⟩)
                have e1 := HL1.out w1 hb1
                have e2 := HL2.out w1 hb1
                have b0' : w1.cell? ⟨w.heap.size, 0, none⟩ = some (.int .i64 jn) := (hb1.cell (p := ⟨w.heap.size, 0, none⟩) (by show w.heap.size < _; omega)).trans b0
                have b1' : w1.cell? ⟨w.heap.size, 1, none⟩ = some (.slice (some ad) m d) := (hb1.cell (p := ⟨w.heap.size, 1, none⟩) (by show w.heap.size < _; omega)).trans b1
                go_wp2_with fail; ((with_reducible refine (HSP.out w1 hb1).mono ?_); rintro e w2 ⟨rfl, hb2⟩)
                have B12 : Below wk.heap.size wk w2 := HBZ.out.trans ((hb1.trans (hb2.mono hb1.size)).mono hzz)
                have HO2 := Lib.hid (own_below HLO.out B12)
                have hb4 : Below wo.heap.size wo w2 := hbo.trans (B12.mono hzk)
                have hol : out.length ≤ 16 := by have := HLN2.out; omega
                clear e1 e2 b0' b1' HSP HL1 HL2
                go_wp2_with (at_builtin; (refine wpList_app _ rfl _ _ 25 rfl wo.heap.size 2 i0 _ 1 8 Try.underlying25 hi0 hz0 hz1 hz2 rfl (by omega) A2 _ c2 _ rfl ((HO2.out).alloc _) ⟨_, 0, none⟩ 1 1 [.int .i64 sn] rfl rfl (cell_one_at (by simp) _ _) (by simp [Value.oneCell']) (by unfold maxLen; omega) (by omega) (by have hz := (hb4).size; simp at hz ⊢; omega) ?_); intro A3 c3 w3 ho3 hb3)
                go_roundw
                case rel => exact ⟨A3, c3, v, r, out ++ [sn], by rw [List.length_append]; rfl, rfl, hvJ, HRT, HTI, (show _ = _ by have := HLN2.out; rw [List.length_append, List.length_singleton]; omega), by rw [List.length_append, List.length_singleton]; simpa [ints] using ho3, (hb4.alloc hb4.size _).trans hb3⟩
                case measure => have := HLN2.out; simp [lenV]; omega
              · have hqlt : q < qi := by omega
                have hdt := HBEF.out q t hqlt htq
                rw [hDE] at hdt
                generalize stepTo (edgesOf xs) at_ t = v at *
                generalize eA (edgesOf xs) t = ua at *
                generalize eB (edgesOf xs) t = ub at *
                generalize hX : F.getD v 0 = X at *
                clear hx hc htq htl htT ea eb hend o1 o2 hneE hDE fat hcat hl hcv ho hrf hvf hqq hX
                go_wp2_with fail; ((with_reducible refine HA.out.mono ?_); rintro e w1 ⟨rfl, hb1⟩)
                have e1 := HL1.out w1 hb1
                have e2 := HL2.out w1 hb1
                go_wp2
                go_roundw
                case rel => exact ⟨q + 1, by omega, rfl, rfl, by go_num, hbz.trans (hb1.mono (by omega))⟩
                case measure => simp [intOf]; omega
end Go.Proofs.Ytjmhhbjbmgpagaa
