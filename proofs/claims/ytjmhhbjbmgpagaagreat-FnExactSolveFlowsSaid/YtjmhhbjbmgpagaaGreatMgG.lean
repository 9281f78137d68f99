/- Several texts in one: Pth Msh Add Fom Err Sto. -/
import Derived.Test.YtjmhhbjbmgpagaaGreatMgF
import Derived.Deep.LoopGhost
import Derived.Test.YtjmhhbjbmgpagaaGreatMgE
import Derived.Test.YtjmhhbjbmgpagaaGreatMgD
/- Contract of the program's shortest walk. -/
namespace Go.Proofs.YtjmhhbjbmgpagaaGreat
set_option linter.unusedVariables false
set_option linter.unusedSimpArgs false
open Go.RowKit
open Go.Maps (Keyed int_keyed keyOf_int_mk)
theorem downB_eq {E : Edges} {F : List Int} {u t : Nat} (hne : eA E t ≠ eB E t) : downB E F u t = (endB E t u && (F.getD (stepTo E u t) 0 == F.getD u 0 - 1)) := by
  unfold downB endB stepTo
  by_cases h1 : eA E t = u
  · have h2 : (eB E t == u) = false := beq_eq_false_iff_ne.2 (fun h => hne (h1.trans h.symm))
    rw [if_pos h1, h2, h1]; simp
  · have h2 : (eA E t == u) = false := beq_eq_false_iff_ne.2 h1
    rw [if_neg h1, h2]; simp
theorem drop_at {V : List (Nat × Nat)} {k u d : Nat} (h : V[k]? = some (u, d)) : nI ((V.drop k).map (·.1)) = (u : Int) :: nI ((V.drop (k + 1)).map (·.1)) := by
  have hk := (List.getElem?_eq_some_iff.1 h).1
  rw [List.drop_eq_getElem_cons hk, (List.getElem?_eq_some_iff.1 h).2]; rfl
theorem drop_snoc {V : List (Nat × Nat)} {k v d : Nat} (h : k ≤ V.length) : nI (((V ++ [(v, d)]).drop k).map (·.1)) = nI ((V.drop k).map (·.1)) ++ [(v : Int)] := by
  rw [List.drop_append_of_le_length h, List.map_append]; simp [nI]
theorem conn_of_wlk {E : Edges} {T : List Nat} {to n u : Nat} (h : Wlk E T to n u) : Conn E T to u := by
  induction h with
  | zero => exact .refl
  | fwd _ hi ih => exact ih.fwd hi
  | bwd _ hi ih => exact ih.bwd hi
theorem lit_inj {a b : Int} {H : Type} (h : (DataW.lit (Lit.int .i64 a) : DataW H) = .lit (.int .i64 b)) : a = b := by
  injection h with h
  injection h
theorem step_any (J : Int) (M : Option Addr) (m d : Nat) (xs : List Awy) (t u : Nat) (w : World) (hm1 : Reads w w.heap.size 7 M m (Awy.recs xs)) (hok : mineOk J xs = true) (ht : t < xs.length) :
    Calls Tryz.prog 106 #[.agg #[.int .i64 J, .slice M m d], .int .i64 t, .int .i64 u] w fun e w' => e = .returned (.int .i64 (stepN (edgesOf xs) u t)) ∧ Below w.heap.size w w' := by
  have hb0 : Below w.heap.size w (w.alloc (.cells #[.int .i64 J, .slice M m d] 33)) := (Below.refl _ _).alloc (Nat.le_refl _) _
  have HLm := Lib.hid (recs_rlen Awy.clen (by omega) hm1)
  have hx24 := (mineOk_t hok).2.1
  have htm : t < m := by rw [← HLm.out]; exact ht
  obtain ⟨ad, x, rfl, had, hx, hc⟩ := (hm1.below hb0).rec_at Awy.clen (by omega) htm
  obtain ⟨ea, eb, _, _⟩ := edge_ok hok hx
  obtain ⟨a0, a1, a2, a3, a4, a5, a6⟩ := Awy.open_ hc
  rw [ea] at a1
  have htI : (t : Int) < (m : Int) := by omega
  have HS : Hid (stepN (edgesOf xs) u t = if eA (edgesOf xs) t = u then (t : Int) + 1 else -(t : Int) - 1) := rfl
  have hm24 : m ≤ 24 := by rw [← HLm.out]; exact hx24
  clear hx24 hok
  generalize eA (edgesOf xs) t = ua at *
  by_cases hu : ua = u
  · have he : ((ua : Int) == (u : Int)) = true := by rw [hu]; exact beq_self_eq_true _
    have HV : Hid (stepN (edgesOf xs) u t = (t : Int) + 1) := HS.out.trans (if_pos hu)
    clear hx hc ea eb hu a0 a2 a3 a4 a5 a6
    go_enter Tryz.func106, Tryz.ntmps106
    go_wp2
    go_ret
    exact ⟨ret_int HV.out.symm, by (repeat (first | exact Below.refl _ _ | assumption | (refine Below.alloc ?_ (by first | exact Nat.le_refl _ | (simp; done) | (simp; omega)) _) | (refine below_drewN ?_ _) | (refine Below.trans ?_ (Below.mono (by assumption) (by first | exact Nat.le_refl _ | (simp; done) | (simp; omega) | omega)))))⟩
  · have he : ((ua : Int) == (u : Int)) = false := beq_eq_false_iff_ne.2 (by omega)
    have HV : Hid (stepN (edgesOf xs) u t = -(t : Int) - 1) := HS.out.trans (if_neg hu)
    clear hx hc ea eb hu a0 a2 a3 a4 a5 a6
    go_enter Tryz.func106, Tryz.ntmps106
    go_wp2
    go_ret
    exact ⟨ret_int HV.out.symm, by (repeat (first | exact Below.refl _ _ | assumption | (refine Below.alloc ?_ (by first | exact Nat.le_refl _ | (simp; done) | (simp; omega)) _) | (refine below_drewN ?_ _) | (refine Below.trans ?_ (Below.mono (by assumption) (by first | exact Nat.le_refl _ | (simp; done) | (simp; omega) | omega)))))⟩
theorem zeroI (w : World) : (zeroValue 3).run Tryz.prog w = .ok (.int .i64 0) w := by kernel_rfl
theorem keyI (a : Int) (h : -1000 ≤ a ∧ a ≤ 1000) : keyOf Tryz.prog 2 (.int .i64 a) = some (.int .i64 a) := keyOf_int_mk Tryz.underlying2 (WalkArith.wf_i64 (by omega))
set_option maxHeartbeats 12800000 in
set_option maxRecDepth 100000 in
theorem path_any (J : Int) (M : Option Addr) (m d : Nat) (xs : List Awy) (fr to : Nat) (A : Option Addr) (n c : Nat) (T : List Nat) (w : World) (hm1 : Reads w w.heap.size 7 M m (Awy.recs xs)) (hT1 : Reads w w.heap.size 1 A n (ints (nI T))) (hok : mineOk J xs = true) (hn : n ≤ 1000) (hTl : ∀ i ∈ T, i < xs.length)
    (hfr : fr < J.toNat) (hto : to < J.toNat) (hcon : Conn (edgesOf xs) T to fr) :
    Calls Tryz.prog 77 #[.agg #[.int .i64 J, .slice M m d], .int .i64 fr, .int .i64 to, .slice A n c] w fun e w' => ∃ A' n' c', e = .returned (.tuple #[.slice A' n' c', .bool true]) ∧ w'.ownsRow w.heap.size 2 1 (.slice A' n' c') n' (ints (backL (edgesOf xs) J.toNat T fr to)) ∧ n' ≤ 16 ∧ Below w.heap.size w w' := by
  obtain ⟨i0, hi0, hz0, hz1, hz2⟩ := info_parts info_Int64S
  obtain ⟨⟨j1, j2⟩, hx24, _⟩ := mineOk_t hok
  obtain ⟨jn, rfl⟩ : ∃ jn : Nat, J = jn := ⟨J.toNat, by omega⟩
  rw [Int.toNat_natCast] at *
  have hb0 : Below w.heap.size w (w.alloc (.cells #[.int .i64 jn, .slice M m d] 33)) := (Below.refl _ _).alloc (Nat.le_refl _) _
  have hm : Reads (w.alloc (.cells #[.int .i64 jn, .slice M m d] 33)) (w.heap.size + 1) 7 M m (Awy.recs xs) := (hm1.below hb0).more (by omega)
  have hT : Reads (w.alloc (.cells #[.int .i64 jn, .slice M m d] 33)) (w.heap.size + 1) 1 A n (ints (nI T)) := (hT1.below hb0).more (by omega)
  have HLm := Lib.hid (recs_rlen Awy.clen (by omega) hm1)
  have hm24 : m ≤ 24 := by rw [← HLm.out]; exact hx24
  have HLT : Hid (T.length = n) := show _ = _ by have := ints_len hT; rw [nI_len] at this; exact this
  have HOK := Lib.hid hok
  have HTl := Lib.hid hTl
  have HCO := Lib.hid hcon
  have HR : Hid (∀ i ∈ T, eA (edgesOf xs) i < jn ∧ eB (edgesOf xs) i < jn) := fun i hi => by have := edge_lt hok (hTl i hi); rwa [Int.toNat_natCast] at this
  have HNE : Hid (∀ i ∈ T, eA (edgesOf xs) i ≠ eB (edgesOf xs) i) := fun i hi => edge_ne hok (hTl i hi)
  have hjn : jn ≤ 16 := by omega
  have KL : Keyed Tryz.prog 2 := int_keyed Tryz.underlying2
  have hmm := @run_makeMap Tryz.prog
  have HM0 : Hid (((w.alloc (.cells #[.int .i64 jn, .slice M m d] 33)).alloc (.map #[] 0)).ownsMap Tryz.prog 2 (plainElem (H := Unit) Tryz.prog 3) (w.heap.size + 1) 0 (.map [])) := by
    have h := World.ownsMap_made (w.alloc (.cells #[.int .i64 jn, .slice M m d] 33)) Tryz.prog 2 (plainElem (H := Unit) Tryz.prog 3)
    rwa [show (w.alloc (.cells #[.int .i64 jn, .slice M m d] 33)).heap.size = w.heap.size + 1 by simp] at h
  clear hok hTl hcon hb0
  go_enter Tryz.func77, Tryz.ntmps77
  go_wp2_with (refine wpList_insert_own (H := Unit) _ rfl _ _ _ 113 rfl 2 3 KL Tryz.underlying113 (plainElem Tryz.prog 3) (w.heap.size + 1) 0 (.map []) (by rfl) HM0.out (by unfold maxLen; omega) _ _ _ rfl rfl (keyI to (by omega)) _ [] (plainElem_int Tryz.underlying3 (WalkArith.wf_i64 (by omega))) ?_; intro wm hom hgm)
  have HBm : Hid (Below (w.heap.size + 1) (w.alloc (.cells #[.int .i64 jn, .slice M m d] 33)) wm) := ((Below.refl _ _).alloc (by simp) _).grown hgm (by simp) (fun q hq => by injection hq with hq; omega)
  have hzm : w.heap.size + 2 ≤ wm.heap.size := by have h := hgm.size; simp at h; omega
  have HOM := Lib.hid hom
  have HF1 : Hid (farD [(to, 0)] = (DataW.map []).put (.int .i64 to) (.lit (.int .i64 (0 : Nat)))) := rfl
  clear hom hgm HM0 hmm
  go_loopg [11] jn (fun gk W wr => ∃ (k g kk n1 c1 : Nat) (V : List (Nat × Nat)), W = .slice (some ⟨g, kk, none⟩) n1 c1 ∧ Hid (gk + k = jn) ∧ Hid (k ≤ V.length) ∧ Hid (Bfs (edgesOf xs) jn T to k 0 V) ∧ Hid (Que wr (w.heap.size + 2) g kk n1 c1 (nI ((V.drop k).map (·.1)))) ∧
    Hid (wr.ownsMap Tryz.prog 2 (plainElem (H := Unit) Tryz.prog 3) (w.heap.size + 1) V.length (farD V)) ∧ Below (w.heap.size + 1) (w.alloc (.cells #[.int .i64 jn, .slice M m d] 33)) wr ∧ w.heap.size + 2 ≤ wr.heap.size)
  case atStart => exact ⟨0, _, 0, 1, 1, [(to, 0)], rfl, (show _ = _ by rfl), (show _ ≤ _ by simp), bfs_start hto, que_new hzm to, by rw [HF1.out]; exact HOM.out.alloc _, HBm.out.alloc (by omega) _, by simp; omega⟩
  case round =>
    obtain ⟨k, g, kk, n1, c1, V, rfl, HGK, HKV, HBF, HQ, HMP, hbr, hzr⟩ := hrel
    obtain ⟨wo, rfl⟩ : ∃ wo : World, wo = wr := ⟨_, rfl⟩
    clear HF1 HOM HBm hzm
    have hlen : n1 + k = V.length := by
      have h1 := HQ.out.len
      rw [nI_len, List.length_map, List.length_drop] at h1
      have := HKV.out; omega
    have HLN := Lib.hid hlen
    by_cases hn1 : 0 < n1
    · obtain ⟨⟨u, du⟩, hu⟩ : ∃ p, V[k]? = some p := ⟨_, List.getElem?_eq_getElem (by omega)⟩
      have HU := Lib.hid hu
      have hkJ : k < jn := by have := bfs_len HBF.out; omega
      have HKJ := Lib.hid hkJ
      clear hu hlen hkJ
      have hn1I : (0 : Int) < (n1 : Int) := by omega
      go_wp2
      go_loopw [11, 38] (fun W i wq => ∃ (q g2 kk2 n2 c2 : Nat) (V2 : List (Nat × Nat)), W = .slice (some ⟨g2, kk2, none⟩) n2 c2 ∧ i = .int .i64 q ∧ q ≤ n ∧ Hid (V2[k]? = some (u, du)) ∧ Hid (Bfs (edgesOf xs) jn T to k q V2) ∧ Hid (Que wq (w.heap.size + 2) g2 kk2 n2 c2 (nI ((V2.drop k).map (·.1)))) ∧
        Hid (wq.ownsMap Tryz.prog 2 (plainElem (H := Unit) Tryz.prog 3) (w.heap.size + 1) V2.length (farD V2)) ∧ Below (w.heap.size + 1) (w.alloc (.cells #[.int .i64 jn, .slice M m d] 33)) wq ∧ w.heap.size + 2 ≤ wq.heap.size) (fun _ i _ => n - (intOf i).toNat)
      case atStart => exact ⟨0, g, kk, n1, c1, V, rfl, rfl, by omega, HU, HBF, HQ, HMP, hbr, hzr⟩
      case round =>
        obtain ⟨q, g2, kk2, n2, c2, V2, rfl, rfl, hq, HU2, HBF2, HQ2, HMP2, hbq, hzq⟩ := hrel
        clear HLN hn1 hn1I HKV HBF HQ HMP HU hbr hzr
        obtain ⟨wi, rfl⟩ : ∃ wi : World, wi = wr := ⟨_, rfl⟩
        have hlen2 : n2 + k = V2.length ∧ 0 < n2 := by
          have h1 := HQ2.out.len
          have h2 := (List.getElem?_eq_some_iff.1 HU2.out).1
          rw [nI_len, List.length_map, List.length_drop] at h1
          omega
        have hn2 : 0 < n2 := hlen2.2
        have hV2 : V2.length ≤ jn := bfs_len HBF2.out
        have HL2 := Lib.hid hlen2.1
        have hn2b : n2 ≤ 16 := by omega
        clear hlen2
        have hq0 := (drop_at HU2.out) ▸ HQ2.out
        have cu := hq0.head
        by_cases hqn : q < n
        · obtain ⟨t, htq⟩ : ∃ t, T[q]? = some t := ⟨_, List.getElem?_eq_getElem (by rw [HLT.out]; exact hqn)⟩
          have htT := List.mem_of_getElem? htq
          have htl := HTl.out t htT
          obtain ⟨td, rfl, htd, _, hct⟩ := (hT.below hbq).int_at (nI_at htq)
          obtain ⟨ad, x, rfl, had, hx, hc⟩ := (hm.below hbq).rec_at Awy.clen (by omega) (k := t) (by rw [← HLm.out]; exact htl)
          obtain ⟨ea, eb, ha, hb⟩ := edge_ok HOK.out hx
          obtain ⟨a0, a1, a2, a3, a4, a5, a6⟩ := Awy.open_ hc
          rw [Int.toNat_natCast] at ha hb
          have htm : t < m := by rw [← HLm.out]; exact htl
          have b1 : wi.cell? ⟨w.heap.size, 1, none⟩ = some (.slice (some ad) m d) := (hbq.cell (p := ⟨w.heap.size, 1, none⟩) (by show w.heap.size < _; omega)).trans (by go_simp)
          rw [ea] at a1
          rw [eb] at a2
          have hqI : (q : Int) < (n : Int) := by omega
          have htI : (t : Int) < (m : Int) := by omega
          have hn2I : (0 : Int) < (n2 : Int) := by omega
          have HTQ := Lib.hid htq
          have hne := HNE.out t htT
          clear hq0
          cases hend : endB (edgesOf xs) t u
          · obtain ⟨o1, o2⟩ := oth_n hend
            have HA : Hid (∀ W : World, Calls Tryz.prog 105 #[.agg #[.string x.s, .int .i64 (eA (edgesOf xs) t : Nat), .int .i64 (eB (edgesOf xs) t : Nat), .int .i64 x.l, .int .i64 x.c, .int .i64 x.f, .int .i64 x.h], .int .i64 (u : Nat)] W fun e w' => e = .returned (.tuple #[.int .i64 0, .bool false]) ∧ Below W.heap.size W w') :=
              fun W => by have := other_any x.s (eA (edgesOf xs) t : Nat) (eB (edgesOf xs) t : Nat) x.l x.c x.f x.h (u : Nat) W; rw [o1, o2] at this; exact this
            have HN : Hid (Bfs (edgesOf xs) jn T to k (q + 1) V2) := bfs_skip HBF2.out HU2.out htq (fun v hl => by rw [lead_end hl] at hend; cases hend)
            generalize eA (edgesOf xs) t = ua at *
            generalize eB (edgesOf xs) t = ub at *
            clear hx hc htq htl htT ea eb hend o1 o2 hne hV2
            go_wp2
            have m1_0 := nb_cell b1 (block_lt_of_cell b1); have m1_1 := nb_cell a0 (block_lt_of_cell a0); have m1_2 := nb_cell a1 (block_lt_of_cell a1); have m1_3 := nb_cell a2 (block_lt_of_cell a2); have m1_4 := nb_cell a3 (block_lt_of_cell a3); have m1_5 := nb_cell a4 (block_lt_of_cell a4); have m1_6 := nb_cell a5 (block_lt_of_cell a5); have m1_7 := nb_cell a6 (block_lt_of_cell a6); have m1_8 := nb_cell cu (block_lt_of_cell cu); (refine wp_region_nb (by kernel_rfl) (by kernel_rfl) ?_); (repeat (go_big_quiet_step (((go_at_call 105; exact nb_call (HA.out _)))))); (refine wpQuiet_nil ?_); intro w1 hw1; have hb1 := nb_out hw1; clear hw1 m1_0 m1_1 m1_2 m1_3 m1_4 m1_5 m1_6 m1_7 m1_8
            have HM1 := Lib.hid (HMP2.out.kept (only_of_below hb1 none) (by simp))
            have HQ1 := Lib.hid (HQ2.out.below hb1)
            have hz1' := hb1.size
            go_wp2_with (at_lookup; refine wpList_lookup_own_ok_int _ rfl _ _ 113 rfl 2 3 .i64 KL Tryz.underlying113 Tryz.underlying3 (zeroI _) (w.heap.size + 1) _ _ rfl HM1.out _ _ rfl (keyI 0 (by omega)) ?_; intro c0 hat0 hwc0)
            go_wp2
            go_roundw
            case rel => exact ⟨q + 1, g2, kk2, n2, c2, V2, rfl, by go_num, by omega, HU2, HN, HQ1, HM1, hbq.trans (hb1.mono (by omega)), by omega⟩
            case measure => simp [intOf]; omega
          · obtain ⟨o1, o2⟩ := oth_y hend
            have HA : Hid (∀ W : World, Calls Tryz.prog 105 #[.agg #[.string x.s, .int .i64 (eA (edgesOf xs) t : Nat), .int .i64 (eB (edgesOf xs) t : Nat), .int .i64 x.l, .int .i64 x.c, .int .i64 x.f, .int .i64 x.h], .int .i64 (u : Nat)] W fun e w' => e = .returned (.tuple #[.int .i64 (stepTo (edgesOf xs) u t : Nat), .bool true]) ∧ Below W.heap.size W w') :=
              fun W => by have := other_any x.s (eA (edgesOf xs) t : Nat) (eB (edgesOf xs) t : Nat) x.l x.c x.f x.h (u : Nat) W; rw [o1, o2] at this; exact this
            have hl := lead_to hend
            have hvJ : stepTo (edgesOf xs) u t < jn := hl.lt HR.out htT
            by_cases hin : stepTo (edgesOf xs) u t ∈ V2.map (·.1)
            · have hH : Maps.has (farD V2) (.int .i64 (stepTo (edgesOf xs) u t : Nat)) = true := by rw [farD_has]; exact decide_eq_true hin
              have HN : Hid (Bfs (edgesOf xs) jn T to k (q + 1) V2) := bfs_skip HBF2.out HU2.out htq (fun v hl' => by rw [lead_one hne hl']; exact hin)
              generalize stepTo (edgesOf xs) u t = v at *
              generalize eA (edgesOf xs) t = ua at *
              generalize eB (edgesOf xs) t = ub at *
              clear hx hc htq htl htT ea eb hend o1 o2 hne hV2 hl hin
              go_wp2
              have m1_0 := nb_cell b1 (block_lt_of_cell b1); have m1_1 := nb_cell a0 (block_lt_of_cell a0); have m1_2 := nb_cell a1 (block_lt_of_cell a1); have m1_3 := nb_cell a2 (block_lt_of_cell a2); have m1_4 := nb_cell a3 (block_lt_of_cell a3); have m1_5 := nb_cell a4 (block_lt_of_cell a4); have m1_6 := nb_cell a5 (block_lt_of_cell a5); have m1_7 := nb_cell a6 (block_lt_of_cell a6); have m1_8 := nb_cell cu (block_lt_of_cell cu); (refine wp_region_nb (by kernel_rfl) (by kernel_rfl) ?_); (repeat (go_big_quiet_step (((go_at_call 105; exact nb_call (HA.out _)))))); (refine wpQuiet_nil ?_); intro w1 hw1; have hb1 := nb_out hw1; clear hw1 m1_0 m1_1 m1_2 m1_3 m1_4 m1_5 m1_6 m1_7 m1_8
              have HM1 := Lib.hid (HMP2.out.kept (only_of_below hb1 none) (by simp))
              have HQ1 := Lib.hid (HQ2.out.below hb1)
              have hz1' := hb1.size
              go_wp2_with (at_lookup; refine wpList_lookup_own_ok_int _ rfl _ _ 113 rfl 2 3 .i64 KL Tryz.underlying113 Tryz.underlying3 (zeroI _) (w.heap.size + 1) _ _ rfl HM1.out _ _ rfl (keyI (v : Nat) (by omega)) ?_; intro c0 hat0 hwc0)
              go_wp2
              go_roundw
              case rel => exact ⟨q + 1, g2, kk2, n2, c2, V2, rfl, by go_num, by omega, HU2, HN, HQ1, HM1, hbq.trans (hb1.mono (by omega)), by omega⟩
              case measure => simp [intOf]; omega
            · have hH : Maps.has (farD V2) (.int .i64 (stepTo (edgesOf xs) u t : Nat)) = false := by rw [farD_has]; exact decide_eq_false hin
              have HN : Hid (Bfs (edgesOf xs) jn T to k (q + 1) (V2 ++ [(stepTo (edgesOf xs) u t, du + 1)])) := bfs_add HBF2.out HU2.out htq hne HR.out hl hin
              have HAT : Hid (∀ z : DataW Unit, (farD V2).atKey (.int .i64 (u : Nat)) z = .lit (.int .i64 (du : Nat))) := fun z => farD_at V2 HBF2.out.rch.nodup u du (List.mem_of_getElem? HU2.out)
              have hduJ : du < jn := dist_lt hto HR.out (HBF2.out.dist _ (List.mem_of_getElem? HU2.out))
              have huJ : u < jn := HBF2.out.rch.lt u (List.mem_map.2 ⟨_, List.mem_of_getElem? HU2.out, rfl⟩)
              generalize stepTo (edgesOf xs) u t = v at *
              generalize eA (edgesOf xs) t = ua at *
              generalize eB (edgesOf xs) t = ub at *
              have HU3 : Hid ((V2 ++ [(v, du + 1)])[k]? = some (u, du)) := show _ = _ by rw [List.getElem?_append_left (List.getElem?_eq_some_iff.1 HU2.out).1]; exact HU2.out
              have HDS := Lib.hid (drop_snoc (V := V2) (k := k) (v := v) (d := du + 1) (by have := (List.getElem?_eq_some_iff.1 HU2.out).1; omega))
              have HFS := Lib.hid (farD_snoc V2 (v, du + 1))
              clear hx hc htq htl htT ea eb hend o1 o2 hne hl hin
              go_wp2
              have m1_0 := nb_cell b1 (block_lt_of_cell b1); have m1_1 := nb_cell a0 (block_lt_of_cell a0); have m1_2 := nb_cell a1 (block_lt_of_cell a1); have m1_3 := nb_cell a2 (block_lt_of_cell a2); have m1_4 := nb_cell a3 (block_lt_of_cell a3); have m1_5 := nb_cell a4 (block_lt_of_cell a4); have m1_6 := nb_cell a5 (block_lt_of_cell a5); have m1_7 := nb_cell a6 (block_lt_of_cell a6); have m1_8 := nb_cell cu (block_lt_of_cell cu); (refine wp_region_nb (by kernel_rfl) (by kernel_rfl) ?_); (repeat (go_big_quiet_step (((go_at_call 105; exact nb_call (HA.out _)))))); (refine wpQuiet_nil ?_); intro w1 hw1; have hb1 := nb_out hw1; clear hw1 m1_0 m1_1 m1_2 m1_3 m1_4 m1_5 m1_6 m1_7 m1_8
              have HM1 := Lib.hid (HMP2.out.kept (only_of_below hb1 none) (by simp))
              have HQ1 := Lib.hid (HQ2.out.below hb1)
              have hz1' := hb1.size
              have cu1 : w1.cell? ⟨g2, kk2, none⟩ = some (.int .i64 (u : Nat)) := (hb1.cell (p := ⟨g2, kk2, none⟩) HQ2.out.hi).trans cu
              have hb3 := hbq.trans (hb1.mono (by omega))
              go_wp2_with (first
                | (at_lookup; refine wpList_lookup_own_ok_int _ rfl _ _ 113 rfl 2 3 .i64 KL Tryz.underlying113 Tryz.underlying3 (zeroI _) (w.heap.size + 1) _ _ rfl HM1.out _ _ rfl (keyI (v : Nat) (by omega)) ?_; intro c0 hat0 hwc0)
                | (at_lookup; refine wpList_lookup_own_int _ rfl _ _ 113 rfl 2 3 .i64 KL Tryz.underlying113 Tryz.underlying3 (zeroI _) (w.heap.size + 1) _ _ rfl HM1.out _ _ rfl (keyI (u : Nat) (by omega)) ?_; intro c1' hat1 hwc1; have e1 := lit_inj (hat1.symm.trans (HAT.out _)); subst e1; clear hat1)
                | (at_mapUpdate; refine wpList_mapUpdate_own _ rfl _ _ _ 113 rfl 2 3 KL Tryz.underlying113 (plainElem (H := Unit) Tryz.prog 3) (w.heap.size + 1) _ _ rfl HM1.out (by unfold maxLen; omega) _ (.int .i64 ((du : Int) + 1)) _ rfl rfl (keyI (v : Nat) (by omega)) _ [] (plainElem_int Tryz.underlying3 (WalkArith.wf_i64 (by omega))) ?_; intro w2 hown2 hgrow2; have HM2 := Lib.hid hown2; have HQ2' : Hid (Que (w2.alloc (.cells #[.int .i64 (v : Nat)] 2)) (w.heap.size + 2) g2 kk2 n2 c2 (nI ((V2.drop k).map (·.1)))) := ((HQ1.out.grown hgrow2 (by have := HQ1.out.lo; intro h; injection h with h; omega)).alloc _); have HB2 : Hid (Below (w.heap.size + 1) (w.alloc (.cells #[.int .i64 jn, .slice (some ad) m d] 33)) w2) := hb3.grown hgrow2 (by have := hb3.size; simp at this; omega) (fun q hq => by injection hq with hq; omega); have hz2' := hgrow2.size; clear hown2 hgrow2)
                | (at_builtin; refine wpList_app_que _ rfl _ _ 25 rfl Tryz.underlying25 hi0 hz0 hz1 hz2 rfl rfl HQ2'.out (v : Nat) ⟨w2.heap.size, 0, none⟩ rfl (cell_new1 _ _ _) (by omega) (by simp; omega) ?_; intro g3 kk3 c3 w3 hq3 hg3))
              have HQ3 : Hid (Que w3 (w.heap.size + 2) g3 kk3 (n2 + 1) c3 (nI (((V2 ++ [(v, du + 1)]).drop k).map (·.1)))) := show Que _ _ _ _ _ _ _ by rw [HDS.out]; exact hq3
              have HM3 : Hid (w3.ownsMap Tryz.prog 2 (plainElem (H := Unit) Tryz.prog 3) (w.heap.size + 1) (V2 ++ [(v, du + 1)]).length (farD (V2 ++ [(v, du + 1)]))) := show World.ownsMap _ _ _ _ _ _ _ by
                rw [List.length_append, HFS.out, show ((du + 1 : Nat) : Int) = (du : Int) + 1 by omega]
                exact (HM2.out.alloc _).kept hg3 (by have := HQ1.out.lo; intro h; injection h with h; omega)
              have HB3 : Hid (Below (w.heap.size + 1) (w.alloc (.cells #[.int .i64 jn, .slice (some ad) m d] 33)) w3) := (HB2.out.alloc (by have := HB2.out.size; simp at this; omega) _).grown hg3 (by have := HB2.out.size; simp at this ⊢; omega) (fun q hq => by have := HQ1.out.lo; injection hq with hq; omega)
              have hz3 : w.heap.size + 2 ≤ w3.heap.size := by have h := hg3.size; simp at h; omega
              clear hq3 hg3 hat0 hwc0 hwc1
              go_roundw
              case rel => exact ⟨q + 1, g3, kk3, n2 + 1, c3, V2 ++ [(v, du + 1)], rfl, by go_num, by omega, HU3, HN, HQ3, HM3, HB3.out, hz3⟩
              case measure => simp [intOf]; omega
        · have HBN : Hid (Bfs (edgesOf xs) jn T to (k + 1) 0 V2) := bfs_next HBF2.out (List.getElem?_eq_some_iff.1 HU2.out).1 (by rw [HLT.out]; omega)
          have HQN := Lib.hid hq0.cut
          have HLE : Hid (k + 1 ≤ V2.length) := show _ ≤ _ by have := HL2.out; omega
          have HC1 := HQ2.out.le
          clear hq0 cu hV2
          by_cases hc1 : c2 = 1
          · subst hc1
            obtain rfl : n2 = 1 := by omega
            have HQX : Hid (Que wi (w.heap.size + 2) g2 kk2 0 0 (nI ((V2.drop (k + 1)).map (·.1)))) := by have h := HQN.out; rw [if_pos rfl] at h; exact h
            clear HQN
            go_wp2
            go_roundg (gk - 1)
            case measure => have h1 := HGK.out; have h2 := HKJ.out; omega
            case rel => exact ⟨k + 1, g2, kk2, 0, 0, V2, rfl, (show _ = _ by have h1 := HGK.out; have h2 := HKJ.out; omega), HLE, HBN, HQX, HMP2, hbq, hzq⟩
          · have HQX : Hid (Que wi (w.heap.size + 2) g2 (kk2 + 1) (n2 - 1) (c2 - 1) (nI ((V2.drop (k + 1)).map (·.1)))) := by have h := HQN.out; rw [if_neg hc1] at h; exact h
            clear HQN
            go_wp2
            go_roundg (gk - 1)
            case measure => have h1 := HGK.out; have h2 := HKJ.out; omega
            case rel => exact ⟨k + 1, g2, kk2 + 1, n2 - 1, c2 - 1, V2, rfl, (show _ = _ by have h1 := HGK.out; have h2 := HKJ.out; omega), HLE, HBN, HQX, HMP2, hbq, hzq⟩
    · have hn0 : n1 = 0 := by omega
      have hVk : V.length ≤ k := by omega
      have hVJ : V.length ≤ jn := bfs_len HBF.out
      have HLK : Hid (∀ (W : World) (v : Nat), Below wo.heap.size wo W → Conn (edgesOf xs) T to v → (Instr.lookup 113 (.map (some (w.heap.size + 1))) (.int .i64 (v : Nat)) false).run Tryz.prog W = .ok (.int .i64 ((farL (edgesOf xs) jn T to).getD v 0)) W) := fun W v hW hc => by
        obtain ⟨dv, hd1, hd2⟩ := bfs_end HBF.out hVk hc
        have hv : v < jn := HBF.out.rch.lt v (List.mem_map.2 ⟨_, hd1, rfl⟩)
        have hm := HMP.out.kept (only_of_below hW none) (by simp)
        obtain ⟨c, hrun, hat, _⟩ := hm.lookup_int KL Tryz.underlying113 Tryz.underlying3 (zeroI _) (keyI (v : Nat) (by omega))
        rw [farD_at V HBF.out.rch.nodup v dv hd1] at hat
        rw [hrun, ((far_char hto HR.out hv).2.2 dv).2 hd2, lit_inj hat]
      have hH : Maps.has (farD V) (.int .i64 (fr : Nat)) = true := by
        obtain ⟨dv, hd1, _⟩ := bfs_end HBF.out hVk HCO.out
        rw [farD_has]; exact decide_eq_true (List.mem_map.2 ⟨_, hd1, rfl⟩)
      have HFC : Hid (∀ u, u < jn → -1 ≤ (farL (edgesOf xs) jn T to).getD u 0 ∧ (farL (edgesOf xs) jn T to).getD u 0 ≤ (jn : Int) + 1 ∧ ∀ dd : Nat, (farL (edgesOf xs) jn T to).getD u 0 = (dd : Int) ↔ isDist (edgesOf xs) T to dd u) := fun u hu => far_char hto HR.out hu
      have HDX : Hid (∀ u dd, u < jn → isDist (edgesOf xs) T to (dd + 1) u → ∃ i, T.find? (downB (edgesOf xs) (farL (edgesOf xs) jn T to) u) = some i) := fun u dd hu hd => find_ex (down_ex hto HR.out hu hd)
      have HDT : Hid (∀ u dd i, u < jn → isDist (edgesOf xs) T to (dd + 1) u → i ∈ T → downB (edgesOf xs) (farL (edgesOf xs) jn T to) u i = true → (eA (edgesOf xs) i = u ∨ eB (edgesOf xs) i = u) ∧ stepTo (edgesOf xs) u i < jn ∧ isDist (edgesOf xs) T to dd (stepTo (edgesOf xs) u i)) := fun u dd i hu hd hi hb => down_t hto HR.out hu hd hi hb
      obtain ⟨D, hD⟩ : ∃ D, isDist (edgesOf xs) T to D fr := by
        obtain ⟨nn, h1⟩ := wlk_of_conn HCO.out
        obtain ⟨D, _, h2⟩ := dist_exists nn h1
        exact ⟨D, h2⟩
      have hDk : D < jn := dist_lt hto HR.out hD
      have hDf := ((HFC.out fr hfr).2.2 D).2 hD
      have HBK : Hid (walkL (edgesOf xs) T (farL (edgesOf xs) jn T to) to D fr = backL (edgesOf xs) jn T fr to) := show _ = _ by unfold backL; rw [hDf, Int.toNat_natCast]
      have HIS := Lib.hid hD
      have HM1 := HMP
      generalize hFF : farL (edgesOf xs) jn T to = F at *
      have HB0 := Lib.hid hbr
      have hzw : w.heap.size + 2 ≤ wo.heap.size := hzr
      clear hD hDf hFF hlen HGK HQ HBF hVk hn1
      subst hn0
      go_wp2_with (at_lookup; refine wpList_lookup_own_ok_int _ rfl _ _ 113 rfl 2 3 .i64 KL Tryz.underlying113 Tryz.underlying3 (zeroI _) (w.heap.size + 1) _ _ rfl HM1.out _ _ rfl (keyI (fr : Nat) (by omega)) ?_; intro c0 hat0 hwc0)
      go_loopw [20, 21] (fun o i wq => ∃ (A2 : Option Addr) (c2 at_ rem : Nat) (out : List Int), o = .slice A2 out.length c2 ∧ i = .int .i64 at_ ∧ at_ < jn ∧ Hid (isDist (edgesOf xs) T to rem at_) ∧ Hid (out ++ walkL (edgesOf xs) T F to rem at_ = backL (edgesOf xs) jn T fr to) ∧ Hid (out.length + rem = D) ∧
        wq.ownsRow wo.heap.size 2 1 (.slice A2 out.length c2) out.length (ints out) ∧ Below wo.heap.size wo wq) (fun o i _ => D - lenV o)
      case atStart => exact ⟨none, 0, fr, D, [], rfl, rfl, hfr, HIS, HBK, (show _ = _ by simp), own_nil _ _ _ _, Below.refl _ _⟩
      case round =>
        obtain ⟨A2, c2, at_, rem, out, rfl, rfl, hat, HID, HWK, HLN2, ho, hbo⟩ := hrel
        obtain ⟨wk, rfl⟩ : ∃ wk : World, wk = wr := ⟨_, rfl⟩
        clear hat0 hwc0 hH
        by_cases hne : at_ = to
        · have hne1 : ((at_ : Int) != (to : Int)) = false := by rw [hne]; simp
          have HOO := Lib.hid ho
          have HAT := Lib.hid hne
          clear ho hne
          go_wp2
          go_ret2
          have h0 : walkL (edgesOf xs) T F to rem at_ = [] := by
            cases rem with
            | zero => rfl
            | succ r => simp only [walkL]; rw [if_pos HAT.out]
          have h1 := HWK.out
          rw [h0, List.append_nil] at h1
          rw [← h1]
          exact ⟨A2, _, c2, rfl, own_base HOO.out (by omega), by have := HLN2.out; omega, ((Below.refl _ _).alloc (Nat.le_refl _) _).trans ((HB0.out.trans (hbo.mono (by omega))).mono (by omega))⟩
        · have hne1 : ((at_ : Int) != (to : Int)) = true := by
            rw [bne_iff_ne]; omega
          obtain ⟨r, rfl⟩ : ∃ r, rem = r + 1 := by
            cases rem with
            | zero => exact absurd (dist_zero.1 HID.out) hne
            | succ r => exact ⟨r, rfl⟩
          obtain ⟨i, hfi⟩ := HDX.out at_ r hat HID.out
          have HST := Lib.hid (walk_step (r := r) hne hfi)
          obtain ⟨qi, hqi, hdi, hbef⟩ := find_split hfi
          have HQI := Lib.hid hqi
          have HDI := Lib.hid hdi
          have HBEF := Lib.hid hbef
          have hqn : qi < n := by rw [← HLT.out]; exact (List.getElem?_eq_some_iff.1 hqi).1
          have HLO := Lib.hid ho
          clear hfi hqi hdi hbef hne
          go_wp2
          go_loopw [20, 21, 92] (fun o u i wq => ∃ q : Nat, q ≤ qi ∧ o = .slice A2 out.length c2 ∧ u = .int .i64 at_ ∧ i = .int .i64 q ∧ Below wk.heap.size wk wq) (fun _ _ i _ => qi - (intOf i).toNat)
          case atStart => exact ⟨0, by omega, rfl, rfl, rfl, Below.refl _ _⟩
          case round =>
            obtain ⟨q, hq, rfl, rfl, rfl, hbz⟩ := hrel
            obtain ⟨wz, rfl⟩ : ∃ wz : World, wz = wr := ⟨_, rfl⟩
            have hqn2 : q < n := by omega
            have hqI : (q : Int) < (n : Int) := by omega
            have hzk := hbo.size
            have hzz := hbz.size
            have hbw : Below (w.heap.size + 1) (w.alloc (.cells #[.int .i64 jn, .slice M m d] 33)) wz := HB0.out.trans ((hbo.trans (hbz.mono hzk)).mono (by omega))
            obtain ⟨t, htq⟩ : ∃ t, T[q]? = some t := ⟨_, List.getElem?_eq_getElem (by rw [HLT.out]; exact hqn2)⟩
            have htT := List.mem_of_getElem? htq
            have htl := HTl.out t htT
            obtain ⟨td, rfl, htd, _, hct⟩ := (hT.below hbw).int_at (nI_at htq)
            obtain ⟨ad, x, rfl, had, hx, hc⟩ := (hm.below hbw).rec_at Awy.clen (by omega) (k := t) (by rw [← HLm.out]; exact htl)
            obtain ⟨ea, eb, ha, hb⟩ := edge_ok HOK.out hx
            obtain ⟨a0, a1, a2, a3, a4, a5, a6⟩ := Awy.open_ hc
            rw [Int.toNat_natCast] at ha hb
            rw [ea] at a1
            rw [eb] at a2
            have htm : t < m := by rw [← HLm.out]; exact htl
            have b0 : wz.cell? ⟨w.heap.size, 0, none⟩ = some (.int .i64 jn) := (hbw.cell (p := ⟨w.heap.size, 0, none⟩) (by show w.heap.size < _; omega)).trans (by go_simp)
            have b1 : wz.cell? ⟨w.heap.size, 1, none⟩ = some (.slice (some ad) m d) := (hbw.cell (p := ⟨w.heap.size, 1, none⟩) (by show w.heap.size < _; omega)).trans (by go_simp)
            have htI : (t : Int) < (m : Int) := by omega
            have hneE := HNE.out t htT
            have hDE := downB_eq (E := edgesOf xs) (F := F) (u := at_) (t := t) hneE
            have fat := ((HFC.out at_ hat).2.2 (r + 1)).2 HID.out
            have hcat : Conn (edgesOf xs) T to at_ := conn_of_wlk HID.out.1
            have HWZ : Hid (∀ W : World, Below wz.heap.size wz W → Below wo.heap.size wo W) := fun W hW => (hbo.trans (hbz.mono hzk)).trans (hW.mono (by omega))
            cases hend : endB (edgesOf xs) t at_
            · rw [hend, Bool.false_and] at hDE
              have hqlt : q < qi := by
                rcases Nat.lt_or_ge q qi with h | h
                · exact h
                · obtain rfl : q = qi := by omega
                  have h1 := HQI.out
                  rw [htq] at h1
                  injection h1 with h1
                  have h2 := HDI.out
                  rw [← h1, hDE] at h2; cases h2
              obtain ⟨o1, o2⟩ := oth_n hend
              have HA := Lib.hid (show Calls Tryz.prog 105 #[.agg #[.string x.s, .int .i64 (eA (edgesOf xs) t : Nat), .int .i64 (eB (edgesOf xs) t : Nat), .int .i64 x.l, .int .i64 x.c, .int .i64 x.f, .int .i64 x.h], .int .i64 (at_ : Nat)] wz fun e w' => e = .returned (.tuple #[.int .i64 0, .bool false]) ∧ Below wz.heap.size wz w' from by have := other_any x.s (eA (edgesOf xs) t : Nat) (eB (edgesOf xs) t : Nat) x.l x.c x.f x.h (at_ : Nat) wz; rw [o1, o2] at this; exact this)
              generalize eA (edgesOf xs) t = ua at *
              generalize eB (edgesOf xs) t = ub at *
              clear hx hc htq htl htT ea eb hend o1 o2 hneE hDE fat hcat ho
              go_wp2_with fail; ((with_reducible refine HA.out.mono ?_); rintro e w1 ⟨rfl, hb1⟩)
              go_wp2
              go_roundw
              case rel => exact ⟨q + 1, by omega, rfl, rfl, by go_num, hbz.trans (hb1.mono (by omega))⟩
              case measure => simp [intOf]; omega
            · have hl := lead_to hend
              have hcv : Conn (edgesOf xs) T to (stepTo (edgesOf xs) at_ t) := hl.conn htT hcat
              have hvJ : stepTo (edgesOf xs) at_ t < jn := hl.lt HR.out htT
              obtain ⟨o1, o2⟩ := oth_y hend
              have HA := Lib.hid (show Calls Tryz.prog 105 #[.agg #[.string x.s, .int .i64 (eA (edgesOf xs) t : Nat), .int .i64 (eB (edgesOf xs) t : Nat), .int .i64 x.l, .int .i64 x.c, .int .i64 x.f, .int .i64 x.h], .int .i64 (at_ : Nat)] wz fun e w' => e = .returned (.tuple #[.int .i64 (stepTo (edgesOf xs) at_ t : Nat), .bool true]) ∧ Below wz.heap.size wz w' from by have := other_any x.s (eA (edgesOf xs) t : Nat) (eB (edgesOf xs) t : Nat) x.l x.c x.f x.h (at_ : Nat) wz; rw [o1, o2] at this; exact this)
              have HL1 : Hid (∀ W : World, Below wz.heap.size wz W → (Instr.lookup 113 (.map (some (w.heap.size + 1))) (.int .i64 (stepTo (edgesOf xs) at_ t : Nat)) false).run Tryz.prog W = .ok (.int .i64 (F.getD (stepTo (edgesOf xs) at_ t) 0)) W) := fun W hW => HLK.out W _ (HWZ.out W hW) hcv
              have HL2 : Hid (∀ W : World, Below wz.heap.size wz W → (Instr.lookup 113 (.map (some (w.heap.size + 1))) (.int .i64 (at_ : Nat)) false).run Tryz.prog W = .ok (.int .i64 (F.getD at_ 0)) W) := fun W hW => HLK.out W _ (HWZ.out W hW) hcat
              have hvf := HFC.out _ hvJ
              obtain ⟨rf, hrf⟩ : ∃ rf : Int, rf = ((r + 1 : Nat) : Int) := ⟨_, rfl⟩
              rw [← hrf] at fat
              have hr16 : r < 16 := by have := HLN2.out; omega
              have hrf1 : 1 ≤ rf := by omega
              have hrf2 : rf ≤ 16 := by omega
              rw [fat] at HL2
              rw [hend, Bool.true_and, fat] at hDE
              have hvf1 := hvf.1
              have hvf2 := hvf.2.1
              by_cases hqq : q = qi
              · have hti : t = i := by
                  have h := HQI.out
                  rw [← hqq, htq] at h
                  injection h
                have hdt := HDI.out
                rw [← hti, hDE] at hdt
                have hRT := HDT.out at_ r t hat HID.out htT (by rw [hti]; exact HDI.out)
                have HTI : Hid (out ++ [stepN (edgesOf xs) at_ t] ++ walkL (edgesOf xs) T F to r (stepTo (edgesOf xs) at_ t) = backL (edgesOf xs) jn T fr to) := show _ = _ by
                  rw [← HWK.out, HST.out, ← hti, List.append_assoc]; rfl
                have HRT := Lib.hid hRT.2.2
                have hbW : Below w.heap.size w wz := ((Below.refl _ _).alloc (Nat.le_refl _) _).trans (hbw.mono (by omega))
                have HSP : Hid (∀ W : World, Below wz.heap.size wz W → Calls Tryz.prog 106 #[.agg #[.int .i64 jn, .slice (some ad) m d], .int .i64 t, .int .i64 at_] W fun e w' => e = .returned (.int .i64 (stepN (edgesOf xs) at_ t)) ∧ Below W.heap.size W w') := fun W hW =>
                  step_any jn (some ad) m d xs t at_ W ((hm1.below (hbW.trans (hW.mono (by omega)))).more (hbW.trans (hW.mono (by omega))).size) HOK.out htl
                have HSNB : Hid (-24 ≤ stepN (edgesOf xs) at_ t ∧ stepN (edgesOf xs) at_ t ≤ 24) := by unfold stepN; split <;> exact ⟨by omega, by omega⟩
                have HWZ1 := Lib.hid (hbo.trans (hbz.mono hzk))
                generalize stepTo (edgesOf xs) at_ t = v at *
                generalize stepN (edgesOf xs) at_ t = sn at *
                generalize eA (edgesOf xs) t = ua at *
                generalize eB (edgesOf xs) t = ub at *
                generalize hX : F.getD v 0 = X at *
                have HBZ := Lib.hid hbz
                clear hx hc htq htl htT ea eb hend o1 o2 hneE hDE fat hcat hl hcv ho hrf hvf hti hRT hqq hX
                go_wp2_with fail; ((with_reducible refine HA.out.mono ?_); rintro e w1 ⟨rfl, hb1⟩)
                have e1 := HL1.out w1 hb1
                have e2 := HL2.out w1 hb1
                have b0' : w1.cell? ⟨w.heap.size, 0, none⟩ = some (.int .i64 jn) := (hb1.cell (p := ⟨w.heap.size, 0, none⟩) (by show w.heap.size < _; omega)).trans b0
                have b1' : w1.cell? ⟨w.heap.size, 1, none⟩ = some (.slice (some ad) m d) := (hb1.cell (p := ⟨w.heap.size, 1, none⟩) (by show w.heap.size < _; omega)).trans b1
                go_wp2_with fail; ((with_reducible refine (HSP.out w1 hb1).mono ?_); rintro e w2 ⟨rfl, hb2⟩)
                have B12 : Below wk.heap.size wk w2 := HBZ.out.trans ((hb1.trans (hb2.mono hb1.size)).mono hzz)
                have HO2 := Lib.hid (own_below HLO.out B12)
                have hb4 : Below wo.heap.size wo w2 := hbo.trans (B12.mono hzk)
                have hol : out.length ≤ 16 := by have := HLN2.out; omega
                clear e1 e2 b0' b1' HSP HL1 HL2
                go_wp2_with (at_builtin; (refine wpList_app _ rfl _ _ 25 rfl wo.heap.size 2 i0 _ 1 8 Tryz.underlying25 hi0 hz0 hz1 hz2 rfl (by omega) A2 _ c2 _ rfl ((HO2.out).alloc _) ⟨_, 0, none⟩ 1 1 [.int .i64 sn] rfl rfl (cell_one_at (by simp) _ _) (by simp [Value.oneCell']) (by unfold maxLen; omega) (by omega) (by have hz := (hb4).size; simp at hz ⊢; omega) ?_); intro A3 c3 w3 ho3 hb3)
                go_roundw
                case rel => exact ⟨A3, c3, v, r, out ++ [sn], by rw [List.length_append]; rfl, rfl, hvJ, HRT, HTI, (show _ = _ by have := HLN2.out; rw [List.length_append, List.length_singleton]; omega), by rw [List.length_append, List.length_singleton]; simpa [ints] using ho3, (hb4.alloc hb4.size _).trans hb3⟩
                case measure => have := HLN2.out; simp [lenV]; omega
              · have hqlt : q < qi := by omega
                have hdt := HBEF.out q t hqlt htq
                rw [hDE] at hdt
                generalize stepTo (edgesOf xs) at_ t = v at *
                generalize eA (edgesOf xs) t = ua at *
                generalize eB (edgesOf xs) t = ub at *
                generalize hX : F.getD v 0 = X at *
                clear hx hc htq htl htT ea eb hend o1 o2 hneE hDE fat hcat hl hcv ho hrf hvf hqq hX
                go_wp2_with fail; ((with_reducible refine HA.out.mono ?_); rintro e w1 ⟨rfl, hb1⟩)
                have e1 := HL1.out w1 hb1
                have e2 := HL2.out w1 hb1
                go_wp2
                go_roundw
                case rel => exact ⟨q + 1, by omega, rfl, rfl, by go_num, hbz.trans (hb1.mono (by omega))⟩
                case measure => simp [intOf]; omega
end Go.Proofs.YtjmhhbjbmgpagaaGreat

/- Contracts of the meshes of a mine, both sides. -/
namespace Go.Proofs.YtjmhhbjbmgpagaaGreat
set_option linter.unusedVariables false
set_option linter.unusedSimpArgs false
open Go.RowKit
/-- A row of the call's own behind rows of the call's own. -/
theorem oss_push {w w3 w6 : World} {lo k c c' : Nat} {A A' : Option Addr} {rs : List Row} (r : Row) (h : OSS w lo A k c rs) (hlo : lo ≤ w.heap.size) (hb : Below w.heap.size w w3) (hr : w3.ownsRow w.heap.size 2 1 r.val r.n (ints r.xs))
    (ho : w6.ownsRow lo 25 1 (.slice A' (k + 1) c') (k + 1) (rowsV rs ++ [r.val])) (hg : (w3.alloc (.cells #[r.val] 25)).grownBy w6 (Value.ownBlock (.slice A k c))) : OSS w6 lo A' (k + 1) c' (rs ++ [r]) := by
  have hb4 : Below w.heap.size w (w3.alloc (.cells #[r.val] 25)) := hb.alloc hb.size _
  refine ⟨by unfold rowsV at *; rw [List.map_append]; exact ho, fun q hq => ?_, ?_⟩
  · rcases List.mem_append.1 hq with hq | hq
    · exact own_keep (own_below (h.row q hq) hb4) hg fun b g1 g2 => own_ne (h.row q hq) h.out (by decide) b g1 g2
    · rw [List.mem_singleton] at hq
      subst hq
      refine own_base (own_keep (hr.alloc _) hg fun b g1 g2 => ?_) hlo
      have h1 := (hr.lt b g1).1
      have h2 := (h.out.lt b g2).2
      omega
  · rw [List.pairwise_append]
    refine ⟨h.apart, List.pairwise_singleton _ _, fun q hq s hs j h1 h2 => ?_⟩
    rw [List.mem_singleton] at hs
    subst hs
    have h3 := ((h.row q hq).lt j h1).2
    have h4 := (hr.lt j h2).1
    omega
theorem walkL_len (E : Edges) (T : List Nat) (f : List Int) (to : Nat) : ∀ n u, (walkL E T f to n u).length ≤ n
  | 0, u => by simp [walkL]
  | n + 1, u => by
    simp only [walkL]
    split
    · simp
    · split
      · rw [List.length_cons]; have := walkL_len E T f to n; exact Nat.succ_le_succ (this _)
      · simp
theorem backL_len {E : Edges} {J : Nat} {T : List Nat} {fr to : Nat} (hto : to < J) (hfr : fr < J) (hr : ∀ i ∈ T, eA E i < J ∧ eB E i < J) : (backL E J T fr to).length ≤ J + 1 := by
  have h1 := walkL_len E T (farL E J T to) to ((farL E J T to).getD fr 0).toNat fr
  have h2 := (far_char hto hr hfr).2.1
  unfold backL
  omega
theorem walkL_wk {E : Edges} {T : List Nat} {f : List Int} {to m : Nat} (hT : ∀ i ∈ T, i < m) : ∀ n u, ∀ x ∈ walkL E T f to n u, wkB m x = true
  | 0, u => fun x h => by simp [walkL] at h
  | n + 1, u => fun x h => by
    simp only [walkL] at h
    split at h
    · simp at h
    · split at h
      · rename_i i hi
        have him := hT i (List.mem_of_find?_eq_some hi)
        rcases List.mem_cons.1 h with rfl | h
        · unfold stepN
          split
          · rw [wkB_in (by omega)]; unfold inB; exact decide_eq_true (by omega)
          · rw [wkB_in (by omega)]; unfold inB; exact decide_eq_true (by omega)
        · exact walkL_wk hT n _ x h
      · simp at h
/-- The numbers of meshes are those of airways, and meshes are short. -/
theorem meshTo_ok {E : Edges} {J : Nat} {T : List Nat} {m : Nat} (hT : ∀ i ∈ T, i < m) (hr : ∀ i, i < m → eA E i < J ∧ eB E i < J) : ∀ k, k ≤ m → ∀ ms ∈ meshTo E J T k, ms.length ≤ J + 2 ∧ ms ≠ [] ∧ ∀ x ∈ ms, wkB m x = true
  | 0, _ => fun ms h => by simp [meshTo] at h
  | k + 1, hk => fun ms h => by
    simp only [meshTo] at h
    split at h
    · exact meshTo_ok hT hr k (by omega) ms h
    · rcases List.mem_append.1 h with h | h
      · exact meshTo_ok hT hr k (by omega) ms h
      · rw [List.mem_singleton] at h
        subst h
        have h1 := hr k (by omega)
        have h2 := backL_len (E := E) (T := T) h1.1 h1.2 (fun i hi => hr i (hT i hi))
        refine ⟨by simp only [List.length_cons]; omega, by simp, fun x hx => ?_⟩
        rcases List.mem_cons.1 hx with rfl | hx
        · rw [wkB_in (by omega)]; unfold inB; exact decide_eq_true (by omega)
        · exact walkL_wk hT _ _ x hx
theorem meshTo_len (E : Edges) (J : Nat) (T : List Nat) : ∀ k, (meshTo E J T k).length ≤ k
  | 0 => by simp [meshTo]
  | k + 1 => by
    have := meshTo_len E J T k
    simp only [meshTo]
    split
    · omega
    · simp; omega
/-- All meshes of a mine. -/
def meshL (J : Int) (xs : List Awy) : List (List Int) := meshTo (edgesOf xs) J.toNat (treeL (edgesOf xs) J.toNat xs.length) xs.length
theorem meshL_ok {J : Int} {xs : List Awy} (hok : mineOk J xs = true) : ∀ ms ∈ meshL J xs, ms.length ≤ 18 ∧ ms ≠ [] ∧ ∀ x ∈ ms, wkB xs.length x = true := by
  intro ms h
  obtain ⟨⟨j1, j2⟩, _, _⟩ := mineOk_t hok
  have h1 := meshTo_ok (E := edgesOf xs) (J := J.toNat) (T := treeL (edgesOf xs) J.toNat xs.length) (m := xs.length) (treeL_ltm (Nat.le_refl _)) (fun i hi => edge_lt hok hi) xs.length (Nat.le_refl _) ms h
  exact ⟨by omega, h1.2⟩
theorem meshL_len {J : Int} {xs : List Awy} (hok : mineOk J xs = true) : (meshL J xs).length ≤ 24 := by
  have h1 := meshTo_len (edgesOf xs) J.toNat (treeL (edgesOf xs) J.toNat xs.length) xs.length
  have h2 := (mineOk_t hok).2.1
  unfold meshL
  omega
/-- What a call returns that makes meshes. -/
def MshRet (J : Int) (xs : List Awy) (w : World) (e : Ending) (w' : World) : Prop := ∃ A n c rs, e = .returned (.slice A n c) ∧ OSS w' w.heap.size A n c rs ∧ dat rs = meshL J xs ∧ Below w.heap.size w w'
theorem tree_connX {J : Int} {xs : List Awy} (hok : mineOk J xs = true) {k : Nat} (hk : k < xs.length) : Conn (edgesOf xs) (treeL (edgesOf xs) J.toNat xs.length) (eA (edgesOf xs) k) (eB (edgesOf xs) k) :=
  tree_conn hk fun i hi => edge_lt hok hi
/-- Meshes made so far. -/
structure Mms (w : World) (lo : Nat) (A : Option Addr) (n c : Nat) (ms : List (List Int)) (rs : List Row) : Prop where
  oss : OSS w lo A n c rs
  dat : dat rs = ms
theorem Mms.below {w w' : World} {lo n c : Nat} {A : Option Addr} {ms : List (List Int)} {rs : List Row} (h : Mms w lo A n c ms rs) (hb : Below w.heap.size w w') : Mms w' lo A n c ms rs := ⟨h.oss.below hb, h.dat⟩
theorem Mms.push {w w3 w6 : World} {lo k c c' : Nat} {A A' : Option Addr} {ms : List (List Int)} {rs : List Row} (r : Row) (h : Mms w lo A k c ms rs) (hlo : lo ≤ w.heap.size) (hb : Below w.heap.size w w3) (hr : w3.ownsRow w.heap.size 2 1 r.val r.n (ints r.xs))
    (ho : w6.ownsRow lo 25 1 (.slice A' (k + 1) c') (k + 1) (rowsV rs ++ [r.val])) (hg : (w3.alloc (.cells #[r.val] 25)).grownBy w6 (Value.ownBlock (.slice A k c))) : Mms w6 lo A' (k + 1) c' (ms ++ [r.xs]) (rs ++ [r]) :=
  ⟨oss_push r h.oss hlo hb hr ho hg, by rw [← h.dat]; simp [Go.Proofs.YtjmhhbjbmgpagaaGreat.dat]⟩
set_option maxHeartbeats 3200000 in
set_option maxRecDepth 100000 in
theorem l04Meshes_any (J : Int) (M : Option Addr) (m d : Nat) (xs : List Awy) (p : Addr) (w : World) (hm : Reads w w.heap.size 7 M m (Awy.recs xs)) (hok : mineOk J xs = true)
    (hp0 : w.cell? p = some (.int .i64 J)) (hp1 : w.cell? ⟨p.block, p.off + 1, none⟩ = some (.slice M m d)) :
    Calls Tryz.prog 58 #[.pointer (some p)] w (MshRet J xs w) := by
  obtain ⟨i0, hi0, hz0, hz1, hz2⟩ := info_parts info_Int64S
  obtain ⟨i1, hi1, hy0, hy1, hy2⟩ := info_parts info_Int64SS
  obtain ⟨⟨j1, j2⟩, hx24, _⟩ := mineOk_t hok
  have HLm := Lib.hid (recs_rlen Awy.clen (by omega) hm)
  have ct := l04Tree_any J M m d xs p w hm hok hp0 hp1
  have HOK := Lib.hid hok
  have hpl := block_lt_of_cell hp0
  have hpl1 := block_lt_of_cell hp1
  have hm24 : m ≤ 24 := by rw [← HLm.out]; exact hx24
  have HCN : Hid (∀ k, k < m → Conn (edgesOf xs) (treeL (edgesOf xs) J.toNat m) (eA (edgesOf xs) k) (eB (edgesOf xs) k)) := fun k hk => by have := tree_connX hok (k := k) (by rw [HLm.out]; exact hk); rwa [HLm.out] at this
  have HTl : Hid (∀ i ∈ treeL (edgesOf xs) J.toNat m, i < xs.length) := treeL_ltm (by rw [HLm.out]; exact Nat.le_refl _)
  have hTn := treeL_len (edgesOf xs) J.toNat m
  have HML : Hid (meshL J xs = meshTo (edgesOf xs) J.toNat (treeL (edgesOf xs) J.toNat m) m) := show _ = _ by unfold meshL; rw [HLm.out]
  generalize treeL (edgesOf xs) J.toNat m = T at *
  clear hok hx24
  go_enter Tryz.func58, Tryz.ntmps58
  go_wp2_with fail; ((with_reducible refine ct.mono ?_); rintro e w1 ⟨TA, tc, rfl, ho1, hb1⟩)
  have HOT := Lib.hid ho1
  have hz1w := hb1.size
  clear ct ho1
  go_wp2
  go_loopw [4, 5] (fun o i wr => ∃ (k : Nat) (A' : Option Addr) (n' c' : Nat) (rs : List Row), k ≤ m ∧ n' ≤ k ∧ o = .slice A' n' c' ∧ i = .int .i64 k ∧ Hid (Mms wr w1.heap.size A' n' c' (meshTo (edgesOf xs) J.toNat T k) rs) ∧ Below w1.heap.size w1 wr) (fun _ i _ => m - (intOf i).toNat)
  case atStart => exact ⟨0, _, 0, 0, [], by omega, by omega, rfl, rfl, ⟨⟨own_empty _ _ _, fun r h => by simp at h, List.Pairwise.nil⟩, rfl⟩, (Below.refl _ _).alloc (Nat.le_refl _) _⟩
  case round =>
    obtain ⟨k, A', n', c', rs, hk, hnk, rfl, rfl, HM, hbr⟩ := hrel
    obtain ⟨wo, rfl⟩ : ∃ wo : World, wo = wr := ⟨_, rfl⟩
    have hzr := hbr.size
    have Bo : Below w.heap.size w wo := hb1.trans (hbr.mono hz1w)
    have g0 : wo.cell? p = some (.int .i64 J) := (Bo.cell hpl).trans hp0
    have g1 : wo.cell? ⟨p.block, p.off + 1, none⟩ = some (.slice M m d) := (Bo.cell (p := ⟨p.block, p.off + 1, none⟩) hpl1).trans hp1
    have HOT2 := Lib.hid (own_below HOT.out hbr)
    by_cases hlt : k < m
    · have ch := l00Has_any TA T.length tc (nI T) (k : Nat) wo (Reads.of_own HOT2.out) (by omega)
      have hkI : (k : Int) < (m : Int) := by omega
      by_cases hkT : k ∈ T
      · rw [hasI_y hkT] at ch
        have HS := Lib.hid (meshTo_y (E := edgesOf xs) (J := J.toNat) hkT)
        clear hkT
        go_wp2_with fail; ((with_reducible refine ch.mono ?_); rintro e w' ⟨rfl, rfl⟩)
        go_wp2
        go_roundw
        case rel => exact ⟨k + 1, A', n', c', rs, by omega, by omega, rfl, by go_num, by rw [HS.out]; exact HM, hbr⟩
        case measure => simp [intOf]; omega
      · rw [hasI_n hkT] at ch
        have HS := Lib.hid (meshTo_n (E := edgesOf xs) (J := J.toNat) hkT)
        obtain ⟨ad, x, rfl, had, hx, hc⟩ := (hm.below Bo).rec_at Awy.clen (by omega) hlt
        obtain ⟨ea, eb, ha, hb⟩ := edge_ok HOK.out hx
        obtain ⟨a0, a1, a2, a3, a4, a5, a6⟩ := Awy.open_ hc
        rw [ea] at a1
        rw [eb] at a2
        have HW : Hid (∀ W : World, Below wo.heap.size wo W → Calls Tryz.prog 90 #[.pointer (some p), .slice TA T.length tc, .int .i64 (eB (edgesOf xs) k : Nat), .int .i64 (eA (edgesOf xs) k : Nat)] W fun e w' => ∃ A2 n2 c2, e = .returned (.tuple #[.slice A2 n2 c2, .bool true]) ∧ w'.ownsRow W.heap.size 2 1 (.slice A2 n2 c2) n2 (ints (backL (edgesOf xs) J.toNat T (eB (edgesOf xs) k) (eA (edgesOf xs) k))) ∧ n2 ≤ 16 ∧ Below W.heap.size W w') := fun W hW => by
          have B := Bo.trans (hW.mono Bo.size)
          exact l04Walk_any J (some ad) m d xs TA T.length tc T _ _ p W ((hm.below B).more B.size) (((Reads.of_own HOT2.out).below hW).more hW.size) HOK.out (by omega) HTl.out hb ha (HCN.out k hlt) ((hW.cell (block_lt_of_cell g0)).trans g0) ((hW.cell (block_lt_of_cell g1)).trans g1)
        generalize eA (edgesOf xs) k = ua at *
        generalize eB (edgesOf xs) k = ub at *
        generalize hBK : backL (edgesOf xs) J.toNat T ub ua = bk at *
        have hwk : IntKind.i64.wrap ((k : Int) + 1) = (k : Int) + 1 := IntWalk.i64_in _ (by omega)
        clear hx hc ea eb hkT hBK
        go_wp2_with fail; ((with_reducible refine ch.mono ?_); rintro e w' ⟨rfl, rfl⟩)
        go_wp2
        go_region_held3 (fun w' => w'.cell? ⟨p.block, p.off + 1, none⟩ = some (.slice (some ad) m d) ∧ w'.cell? ⟨(ad.add (k * 7)).block, (ad.add (k * 7)).off + 2, none⟩ = some (.int .i64 (ub : Nat)) ∧ w'.cell? ⟨(ad.add (k * 7)).block, (ad.add (k * 7)).off + 1, none⟩ = some (.int .i64 (ua : Nat)))
          (first | go_keep | (exact ⟨(hb2.cell (block_lt_of_cell g1)).trans g1, (hb2.cell (block_lt_of_cell a2)).trans a2, (hb2.cell (block_lt_of_cell a1)).trans a1⟩))
          ((go_at_call 90; refine (HW.out _ ((Below.refl _ _).drew)).mono ?_; rintro e w2 ⟨A2, n2, c2, rfl, ho2, hn2, hb2⟩))
        have hbz : Below wo.heap.size wo w2 := ((Below.refl _ _).drew).trans hb2
        have hbX : Below w1.heap.size w1 w2 := hbr.trans (hbz.mono hzr)
        have hzX := hbX.size
        have HM2 := Lib.hid (HM.out.below hbz)
        have HBK2 : Hid ((w2.alloc (.cells #[.int .i64 ((k : Int) + 1)] 2)).ownsRow w2.heap.size 2 1 (.slice (some ⟨w2.heap.size, 0, none⟩) 1 1) 1 (ints [(k : Int) + 1])) := own_of_blk (Blk.new w2 2 _) rfl rfl (by unfold maxLen; omega) (fun j _ => by rw [← Array.getElem?_toList]; rfl)
        have HRD : Hid (Reads (w2.alloc (.cells #[.int .i64 ((k : Int) + 1)] 2)) (w2.heap.size + 1) 1 A2 n2 (ints bk)) := ((Reads.of_own ho2).alloc (Nat.le_refl _) _).more (by omega)
        clear ho2 hb2
        go_wp2_with (first
          | (at_builtin; refine wpList_append_any _ rfl _ _ 25 rfl w2.heap.size 2 i0 _ 1 8 Tryz.underlying25 hi0 hz0 hz1 hz2 rfl (by omega) (.slice (some ⟨w2.heap.size, 0, none⟩) 1 1) 1 (ints [(k : Int) + 1]) rfl HBK2.out (w2.heap.size + 1) A2 n2 c2 (ints bk) rfl HRD.out (fun u hu => by obtain ⟨b, _, rfl⟩ := List.mem_map.1 hu; rfl) (by unfold maxLen; omega) (by omega) (by simp) ?_; intro v3 w3 ho3 hg3 hv3; obtain ⟨A3, c3, rfl⟩ := own_shape ho3; have HO3 := Lib.hid ho3; have HB3 : Hid (Below w2.heap.size w2 w3) := ((Below.refl _ _).alloc (Nat.le_refl _) _).grown hg3 (by simp) (fun q hq => Nat.le_of_eq (Option.some.inj hq)); have HOO : Hid ((w3.alloc (.cells #[.slice A3 (1 + n2) c3] 25)).ownsRow w1.heap.size 25 1 (.slice A' n' c') n' (rowsV rs)) := (own_below HM2.out.oss.out HB3.out).alloc _; have hz3 := HB3.out.size; clear ho3 hg3 hv3)
          | (at_builtin; refine wpList_append_own _ rfl _ _ 47 rfl w1.heap.size 25 i1 _ 1 24 Tryz.underlying47 hi1 hy0 hy1 hy2 rfl (by omega) (.slice A' n' c') n' (rowsV rs) rfl HOO.out ⟨w3.heap.size, 0, none⟩ 1 1 [.slice A3 (1 + n2) c3] rfl rfl (cell_one_at (by simp) _ _) (by simp [Value.oneCell']) (by unfold maxLen; omega) (by omega) (by simp; omega) ?_; intro v5 w5 ho5 hg5 hv5; obtain ⟨A5, c5, rfl⟩ := own_shape ho5))
        have HM5 := Lib.hid (HM2.out.push ⟨A3, 1 + n2, c3, ((k : Int) + 1) :: bk⟩ hzX HB3.out (by have h := HO3.out; simpa [ints, Row.val] using h) ho5 hg5)
        have HB5 : Hid (Below w1.heap.size w1 w5) := ((hbX.trans (HB3.out.mono hzX)).alloc (by omega) _).grown hg5 (by simp; omega) (fun q hq => (HOO.out.lt q hq).1)
        clear ho5 hg5 hv5
        go_roundw
        case rel => exact ⟨k + 1, A5, n' + 1, c5, _, by omega, by omega, rfl, by go_num, by rw [HS.out]; exact HM5, HB5.out⟩
        case measure => simp [intOf]; omega
    · have e : k = m := by omega
      have HMM := Lib.hid (show Mms wo w1.heap.size A' n' c' (meshL J xs) rs by rw [HML.out, ← e]; exact HM.out)
      clear e
      go_wp2
      go_ret
      exact ⟨A', n', c', rs, rfl, HMM.out.oss.base hz1w, HMM.out.dat, Bo⟩
set_option maxHeartbeats 3200000 in
set_option maxRecDepth 100000 in
theorem meshes_any (J : Int) (M : Option Addr) (m d : Nat) (xs : List Awy) (w : World) (hm1 : Reads w w.heap.size 7 M m (Awy.recs xs)) (hok : mineOk J xs = true) :
    Calls Tryz.prog 38 #[.agg #[.int .i64 J, .slice M m d]] w (MshRet J xs w) := by
  obtain ⟨i0, hi0, hz0, hz1, hz2⟩ := info_parts info_Int64S
  obtain ⟨i1, hi1, hy0, hy1, hy2⟩ := info_parts info_Int64SS
  obtain ⟨⟨j1, j2⟩, hx24, _⟩ := mineOk_t hok
  have hb0 : Below w.heap.size w (w.alloc (.cells #[.int .i64 J, .slice M m d] 33)) := (Below.refl _ _).alloc (Nat.le_refl _) _
  have HLm := Lib.hid (recs_rlen Awy.clen (by omega) hm1)
  have ct := tree_any J M m d xs (w.alloc (.cells #[.int .i64 J, .slice M m d] 33)) ((hm1.below hb0).more hb0.size) hok
  have HOK := Lib.hid hok
  have hm24 : m ≤ 24 := by rw [← HLm.out]; exact hx24
  have HCN : Hid (∀ k, k < m → Conn (edgesOf xs) (treeL (edgesOf xs) J.toNat m) (eA (edgesOf xs) k) (eB (edgesOf xs) k)) := fun k hk => by have := tree_connX hok (k := k) (by rw [HLm.out]; exact hk); rwa [HLm.out] at this
  have HTl : Hid (∀ i ∈ treeL (edgesOf xs) J.toNat m, i < xs.length) := treeL_ltm (by rw [HLm.out]; exact Nat.le_refl _)
  have hTn := treeL_len (edgesOf xs) J.toNat m
  have HML : Hid (meshL J xs = meshTo (edgesOf xs) J.toNat (treeL (edgesOf xs) J.toNat m) m) := show _ = _ by unfold meshL; rw [HLm.out]
  generalize treeL (edgesOf xs) J.toNat m = T at *
  clear hok hx24 hb0
  go_enter Tryz.func38, Tryz.ntmps38
  go_wp2_with fail; ((with_reducible refine ct.mono ?_); rintro e w1 ⟨TA, tc, rfl, ho1, hb1⟩)
  have HOT := Lib.hid ho1
  have hz1w : w.heap.size + 1 ≤ w1.heap.size := by have h := hb1.size; simp at h; omega
  have c0 : w1.cell? ⟨w.heap.size, 0, none⟩ = some (.int .i64 J) := (hb1.cell (p := ⟨w.heap.size, 0, none⟩) (by simp)).trans (by go_simp)
  have c1 : w1.cell? ⟨w.heap.size, 1, none⟩ = some (.slice M m d) := (hb1.cell (p := ⟨w.heap.size, 1, none⟩) (by simp)).trans (by go_simp)
  have B1 : Below w.heap.size w w1 := ((Below.refl _ _).alloc (Nat.le_refl _) _).trans (hb1.mono (by simp))
  clear ct ho1 hb1
  go_wp2
  go_loopw [4, 14] (fun o i wr => ∃ (k : Nat) (A' : Option Addr) (n' c' : Nat) (rs : List Row), k ≤ m ∧ n' ≤ k ∧ o = .slice A' n' c' ∧ i = .int .i64 k ∧ Hid (Mms wr w1.heap.size A' n' c' (meshTo (edgesOf xs) J.toNat T k) rs) ∧ Below w1.heap.size w1 wr) (fun _ i _ => m - (intOf i).toNat)
  case atStart => exact ⟨0, none, 0, 0, [], by omega, by omega, rfl, rfl, ⟨⟨own_nil _ _ _ _, fun r h => by simp at h, List.Pairwise.nil⟩, rfl⟩, Below.refl _ _⟩
  case round =>
    obtain ⟨k, A', n', c', rs, hk, hnk, rfl, rfl, HM, hbr⟩ := hrel
    obtain ⟨wo, rfl⟩ : ∃ wo : World, wo = wr := ⟨_, rfl⟩
    have hzr := hbr.size
    have Bo : Below w.heap.size w wo := B1.trans (hbr.mono (by omega))
    by_cases hlt : k < m
    · obtain ⟨ad, x, rfl, had, hx, hc⟩ := (hm1.below Bo).rec_at Awy.clen (by omega) hlt
      obtain ⟨ea, eb, ha, hb⟩ := edge_ok HOK.out hx
      obtain ⟨a0, a1, a2, a3, a4, a5, a6⟩ := Awy.open_ hc
      rw [ea] at a1
      rw [eb] at a2
      have hkI : (k : Int) < (m : Int) := by omega
      obtain ⟨wa, hwa⟩ : ∃ wa, wa = wo.alloc (.cells #[.string x.s, .int .i64 (eA (edgesOf xs) k : Nat), .int .i64 (eB (edgesOf xs) k : Nat), .int .i64 x.l, .int .i64 x.c, .int .i64 x.f, .int .i64 x.h] 78) := ⟨_, rfl⟩
      have hba : Below wo.heap.size wo wa := by rw [hwa]; exact (Below.refl _ _).alloc (Nat.le_refl _) _
      have f1 : wa.cell? ⟨wo.heap.size, 1, none⟩ = some (.int .i64 (eA (edgesOf xs) k : Nat)) := by rw [hwa]; exact ((Blk.new wo _ _).cell 1).trans rfl
      have f2 : wa.cell? ⟨wo.heap.size, 2, none⟩ = some (.int .i64 (eB (edgesOf xs) k : Nat)) := by rw [hwa]; exact ((Blk.new wo _ _).cell 2).trans rfl
      have f3 : wa.cell? ⟨w.heap.size, 0, none⟩ = some (.int .i64 J) := ((hbr.trans (hba.mono hzr)).cell (p := ⟨w.heap.size, 0, none⟩) (by show w.heap.size < _; omega)).trans c0
      have f4 : wa.cell? ⟨w.heap.size, 1, none⟩ = some (.slice (some ad) m d) := ((hbr.trans (hba.mono hzr)).cell (p := ⟨w.heap.size, 1, none⟩) (by show w.heap.size < _; omega)).trans c1
      have hzA := hba.size
      have HWA := Lib.hid hwa
      have Ba : Below w.heap.size w wa := Bo.trans (hba.mono Bo.size)
      have HOT2 := Lib.hid (own_below (own_below HOT.out hbr) hba)
      have HMA := Lib.hid (HM.out.below hba)
      have hbrA : Below w1.heap.size w1 wa := hbr.trans (hba.mono hzr)
      have ch := contains_any TA T.length tc (nI T) (k : Nat) wa (Reads.of_own HOT2.out) (by omega)
      by_cases hkT : k ∈ T
      · rw [hasI_y hkT] at ch
        have HS := Lib.hid (meshTo_y (E := edgesOf xs) (J := J.toNat) hkT)
        generalize eA (edgesOf xs) k = ua at *
        generalize eB (edgesOf xs) k = ub at *
        rw [hwa] at ch
        clear hkT hx hc ea eb hwa
        go_wp2_with fail; ((with_reducible refine ch.mono ?_); rintro e w' ⟨rfl, rfl⟩)
        go_wp2
        rw [← HWA.out]
        go_roundw
        case rel => exact ⟨k + 1, A', n', c', rs, by omega, by omega, rfl, by go_num, by rw [HS.out]; exact HMA, hbrA⟩
        case measure => simp [intOf]; omega
      · rw [hasI_n hkT] at ch
        have HS := Lib.hid (meshTo_n (E := edgesOf xs) (J := J.toNat) hkT)
        have cw := path_any J (some ad) m d xs (eB (edgesOf xs) k) (eA (edgesOf xs) k) TA T.length tc T wa ((hm1.below Ba).more Ba.size) (Reads.of_own HOT2.out) HOK.out (by omega) HTl.out hb ha (HCN.out k hlt)
        generalize eA (edgesOf xs) k = ua at *
        generalize eB (edgesOf xs) k = ub at *
        generalize hBK : backL (edgesOf xs) J.toNat T ub ua = bk at *
        have hwk : IntKind.i64.wrap ((k : Int) + 1) = (k : Int) + 1 := IntWalk.i64_in _ (by omega)
        have HCW := Lib.hid cw
        rw [hwa] at ch
        clear hx hc ea eb hkT hBK hwa cw
        go_wp2_with fail; ((with_reducible refine ch.mono ?_); rintro e w' ⟨rfl, rfl⟩)
        rw [← HWA.out]
        go_wp2_with fail; ((with_reducible refine HCW.out.mono ?_); rintro e w2 ⟨A2, n2, c2, rfl, ho2, hn2, hb2⟩)
        have hbX : Below w1.heap.size w1 w2 := hbrA.trans (hb2.mono hbrA.size)
        have hzX := hbX.size
        have HM2 := Lib.hid (HMA.out.below hb2)
        have HBK2 : Hid ((w2.alloc (.cells #[.int .i64 ((k : Int) + 1)] 2)).ownsRow w2.heap.size 2 1 (.slice (some ⟨w2.heap.size, 0, none⟩) 1 1) 1 (ints [(k : Int) + 1])) := own_of_blk (Blk.new w2 2 _) rfl rfl (by unfold maxLen; omega) (fun j _ => by rw [← Array.getElem?_toList]; rfl)
        have HRD : Hid (Reads (w2.alloc (.cells #[.int .i64 ((k : Int) + 1)] 2)) (w2.heap.size + 1) 1 A2 n2 (ints bk)) := ((Reads.of_own ho2).alloc (Nat.le_refl _) _).more (by omega)
        clear ho2 hb2
        go_wp2_with (first
          | (at_builtin; refine wpList_append_any _ rfl _ _ 25 rfl w2.heap.size 2 i0 _ 1 8 Tryz.underlying25 hi0 hz0 hz1 hz2 rfl (by omega) (.slice (some ⟨w2.heap.size, 0, none⟩) 1 1) 1 (ints [(k : Int) + 1]) rfl HBK2.out (w2.heap.size + 1) A2 n2 c2 (ints bk) rfl HRD.out (fun u hu => by obtain ⟨b, _, rfl⟩ := List.mem_map.1 hu; rfl) (by unfold maxLen; omega) (by omega) (by simp) ?_; intro v3 w3 ho3 hg3 hv3; obtain ⟨A3, c3, rfl⟩ := own_shape ho3; have HO3 := Lib.hid ho3; have HB3 : Hid (Below w2.heap.size w2 w3) := ((Below.refl _ _).alloc (Nat.le_refl _) _).grown hg3 (by simp) (fun q hq => Nat.le_of_eq (Option.some.inj hq)); have HOO : Hid ((w3.alloc (.cells #[.slice A3 (1 + n2) c3] 25)).ownsRow w1.heap.size 25 1 (.slice A' n' c') n' (rowsV rs)) := (own_below HM2.out.oss.out HB3.out).alloc _; have hz3 := HB3.out.size; clear ho3 hg3 hv3)
          | (at_builtin; refine wpList_append_own _ rfl _ _ 47 rfl w1.heap.size 25 i1 _ 1 24 Tryz.underlying47 hi1 hy0 hy1 hy2 rfl (by omega) (.slice A' n' c') n' (rowsV rs) rfl HOO.out ⟨w3.heap.size, 0, none⟩ 1 1 [.slice A3 (1 + n2) c3] rfl rfl (cell_one_at (by simp) _ _) (by simp [Value.oneCell']) (by unfold maxLen; omega) (by omega) (by simp; omega) ?_; intro v5 w5 ho5 hg5 hv5; obtain ⟨A5, c5, rfl⟩ := own_shape ho5))
        have HM5 := Lib.hid (HM2.out.push ⟨A3, 1 + n2, c3, ((k : Int) + 1) :: bk⟩ hzX HB3.out (by have h := HO3.out; simpa [ints, Row.val] using h) ho5 hg5)
        have HB5 : Hid (Below w1.heap.size w1 w5) := ((hbX.trans (HB3.out.mono hzX)).alloc (by omega) _).grown hg5 (by simp; omega) (fun q hq => (HOO.out.lt q hq).1)
        clear ho5 hg5 hv5
        go_roundw
        case rel => exact ⟨k + 1, A5, n' + 1, c5, _, by omega, by omega, rfl, by go_num, by rw [HS.out]; exact HM5, HB5.out⟩
        case measure => simp [intOf]; omega
    · have e : k = m := by omega
      have HMM := Lib.hid (show Mms wo w1.heap.size A' n' c' (meshL J xs) rs by rw [HML.out, ← e]; exact HM.out)
      clear e
      go_wp2
      go_ret
      exact ⟨A', n', c', rs, rfl, HMM.out.oss.base (by omega), HMM.out.dat, Bo⟩
end Go.Proofs.YtjmhhbjbmgpagaaGreat

/- Contracts of an amount added along a walk, both sides. -/
namespace Go.Proofs.YtjmhhbjbmgpagaaGreat
set_option linter.unusedVariables false
set_option linter.unusedSimpArgs false
open Go.RowKit
/-- The flows behind the first k numbers of a walk. -/
def addL (f ws : List Int) (a : Int) : Nat → List Int
  | 0 => f
  | k + 1 => (addL f ws a k).set (wkI (ws.getD k 0)) ((addL f ws a k).getD (wkI (ws.getD k 0)) 0 + wkS (ws.getD k 0) * a)
theorem addL_len (f ws : List Int) (a : Int) : ∀ k, (addL f ws a k).length = f.length
  | 0 => rfl
  | k + 1 => by simp only [addL, List.length_set]; exact addL_len f ws a k
theorem addL_pos {f ws : List Int} {a x : Int} {k : Nat} (hx : ws[k]? = some x) (h : 0 < x) : addL f ws a (k + 1) = (addL f ws a k).set (wkI x) ((addL f ws a k).getD (wkI x) 0 + a) := by
  simp only [addL]; rw [getW_at hx]; unfold wkS; rw [if_pos h, Int.one_mul]
theorem addL_neg {f ws : List Int} {a x : Int} {k : Nat} (hx : ws[k]? = some x) (h : ¬ 0 < x) : addL f ws a (k + 1) = (addL f ws a k).set (wkI x) ((addL f ws a k).getD (wkI x) 0 - a) := by
  simp only [addL]; rw [getW_at hx]; unfold wkS; rw [if_neg h, Int.neg_mul, Int.one_mul]; rfl
theorem addL_bnd {f ws : List Int} {a D A : Int} (h0 : 0 ≤ D) (hA : -A ≤ a ∧ a ≤ A) (hA0 : 0 ≤ A) (h : ∀ x ∈ f, -D ≤ x ∧ x ≤ D) : ∀ k : Nat, ∀ x ∈ addL f ws a k, -(D + A * (k : Int)) ≤ x ∧ x ≤ D + A * (k : Int)
  | 0 => fun x hx => by have := h x hx; simp; omega
  | k + 1 => fun x hx => by
    have ih := addL_bnd (ws := ws) h0 hA hA0 h k
    have h3 : A * ((k + 1 : Nat) : Int) = A * k + A := by rw [show ((k + 1 : Nat) : Int) = (k : Int) + 1 by omega, Int.mul_add, Int.mul_one]
    have hk0 : 0 ≤ A * (k : Int) := Int.mul_nonneg hA0 (by omega)
    rw [h3]
    simp only [addL] at hx
    rcases List.mem_or_eq_of_mem_set hx with hx | rfl
    · have := ih x hx; omega
    · have h2 := getD_bnd (D := D + A * (k : Int)) (by omega) (fun y hy => by have := ih y hy; omega) (wkI (ws.getD k 0))
      unfold wkS
      split
      · rw [Int.one_mul]; omega
      · rw [Int.neg_mul, Int.one_mul]; omega
theorem grown_refl (w : World) (row : Option Nat) : w.grownBy w row := ⟨rfl, rfl, rfl, Nat.le_refl _, fun _ _ _ => rfl⟩
/-- A row in another block reads as before. -/
theorem reads_grown {w w' : World} {B : Option Addr} {q g : Nat} {ws : List Value} (hw : Reads w w.heap.size 1 B q ws) (hg : w.grownBy w' (some g)) (hne : ∀ ad, B = some ad → ad.block ≠ g) : Reads w' w'.heap.size 1 B q ws :=
  ⟨hw.1, fun hq => by
    obtain ⟨ad, e, hb, hc⟩ := hw.2 hq
    refine ⟨ad, e, Nat.lt_of_lt_of_le hb hg.size, fun j u hu => ?_⟩
    exact (World.cell?_of_block (a := ad.add j) (by rw [block_of_add]; exact hg.block ad.block hb (fun h => hne ad e (Option.some.inj h)))).trans (hc j u hu)⟩
set_option maxHeartbeats 1600000 in
theorem l07Add_any (base g n c : Nat) (f : List Int) (B : Option Addr) (q d : Nat) (ws : List Int) (a D : Int) (w : World) (ho : w.ownsRow base 2 1 (.slice (some ⟨g, 0, none⟩) n c) n (ints f)) (hw : Reads w w.heap.size 1 B q (ints ws)) (hq : q ≤ 1000) (hne : ∀ ad, B = some ad → ad.block ≠ g)
    (hwk : ∀ x ∈ ws, wkB n x = true) (hn : n ≤ 1000000) (hD0 : 0 ≤ D) (hD1 : D ≤ 1000000000000000) (hf : ∀ x ∈ f, -D ≤ x ∧ x ≤ D) (ha1 : -1000000 ≤ a) (ha2 : a ≤ 1000000) :
    Calls Tryz.prog 64 #[.slice (some ⟨g, 0, none⟩) n c, .slice B q d, .int .i64 a] w fun e w' => e = .returned (.tuple #[]) ∧ w'.ownsRow base 2 1 (.slice (some ⟨g, 0, none⟩) n c) n (ints (addL f ws a q)) ∧ w.grownBy w' (some g) := by
  have HW := Lib.hid hwk
  have HB := Lib.hid (fun k => addL_bnd (ws := ws) (a := a) (A := 1000000) hD0 ⟨ha1, ha2⟩ (by omega) hf k)
  have HWR := Lib.hid hw
  have HNE := Lib.hid hne
  have HLF := Lib.hid (ints_len (Reads.of_own ho))
  clear hwk hf hne hw
  go_enter Tryz.func64, Tryz.ntmps64
  go_wp2
  go_loopw [6] (fun i wr => ∃ k : Nat, k ≤ q ∧ i = .int .i64 k ∧ wr.ownsRow base 2 1 (.slice (some ⟨g, 0, none⟩) n c) n (ints (addL f ws a k)) ∧ w.grownBy wr (some g)) (fun i _ => q - (intOf i).toNat)
  case atStart => exact ⟨0, by omega, rfl, ho, grown_refl _ _⟩
  case round =>
    obtain ⟨k, hk, rfl, hok, hgr⟩ := hrel
    by_cases hlt : k < q
    · obtain ⟨wo, rfl⟩ : ∃ wo : World, wo = wr := ⟨_, rfl⟩
      obtain ⟨bd, u, rfl, hbd, hx, hc⟩ := (reads_grown HWR.out hgr HNE.out).at_ hlt
      obtain ⟨x, hxk, rfl⟩ := ints_at hx
      have hxb := HW.out x (mem_of_at hxk)
      obtain ⟨x0, x1, x2⟩ := wkB_t hxb
      have hIl := wkI_lt hxb
      obtain ⟨e2, e3, e4, e5, e6⟩ := own_i hok hIl
      have hbnd := getD_bnd (D := D + 1000000 * (k : Int)) (by omega) (HB.out k) (wkI x)
      have HXK := Lib.hid hxk
      have hkI : (k : Int) < (q : Int) := by omega
      have HGR := Lib.hid hgr
      by_cases hp : 0 < x
      · have HS := Lib.hid (addL_pos (f := f) (a := a) HXK.out hp)
        have hi : x.toNat - 1 = wkI x := by rw [wkI_pos hp]; omega
        generalize hF : (addL f ws a k).getD (wkI x) 0 = F at *
        have HUP : Hid ((wo.setCell ⟨g, x.toNat - 1, none⟩ (.int .i64 (F + a))).ownsRow base 2 1 (.slice (some ⟨g, 0, none⟩) n c) n (ints ((addL f ws a k).set (wkI x) (F + a)))) := by have := e6 (F + a); rw [← hi] at this ⊢; exact this
        rw [← hi] at e4 e5
        have HG2 : Hid (w.grownBy (wo.setCell ⟨g, x.toNat - 1, none⟩ (.int .i64 (F + a))) (some g)) := only_setCell hgr (.inl rfl) _
        clear hx hxk hxb hok e6 hi hF hgr
        go_wp2
        go_roundw
        case rel => exact ⟨k + 1, by omega, by go_num, by rw [HS.out]; exact HUP.out, HG2.out⟩
        case measure => simp [intOf]; omega
      · have HS := Lib.hid (addL_neg (f := f) (a := a) HXK.out hp)
        have hi : (-x).toNat - 1 = wkI x := by rw [wkI_neg (by omega)]; omega
        generalize hF : (addL f ws a k).getD (wkI x) 0 = F at *
        have HUP : Hid ((wo.setCell ⟨g, (-x).toNat - 1, none⟩ (.int .i64 (F - a))).ownsRow base 2 1 (.slice (some ⟨g, 0, none⟩) n c) n (ints ((addL f ws a k).set (wkI x) (F - a)))) := by have := e6 (F - a); rw [← hi] at this ⊢; exact this
        rw [← hi] at e4 e5
        have HG2 : Hid (w.grownBy (wo.setCell ⟨g, (-x).toNat - 1, none⟩ (.int .i64 (F - a))) (some g)) := only_setCell hgr (.inl rfl) _
        clear hx hxk hxb hok e6 hi hF hgr
        go_wp2
        go_roundw
        case rel => exact ⟨k + 1, by omega, by go_num, by rw [HS.out]; exact HUP.out, HG2.out⟩
        case measure => simp [intOf]; omega
    · have e : k = q := by omega
      subst e
      go_wp2
      go_end0
      exact ⟨rfl, hok, hgr⟩
set_option maxHeartbeats 1600000 in
theorem addAlong_any (base g n c : Nat) (f : List Int) (B : Option Addr) (q d : Nat) (ws : List Int) (a D : Int) (w : World) (ho : w.ownsRow base 2 1 (.slice (some ⟨g, 0, none⟩) n c) n (ints f)) (hw : Reads w w.heap.size 1 B q (ints ws)) (hq : q ≤ 1000) (hne : ∀ ad, B = some ad → ad.block ≠ g)
    (hwk : ∀ x ∈ ws, wkB n x = true) (hn : n ≤ 1000000) (hD0 : 0 ≤ D) (hD1 : D ≤ 1000000000000000) (hf : ∀ x ∈ f, -D ≤ x ∧ x ≤ D) (ha1 : -1000000 ≤ a) (ha2 : a ≤ 1000000) :
    Calls Tryz.prog 42 #[.slice (some ⟨g, 0, none⟩) n c, .slice B q d, .int .i64 a] w fun e w' => e = .returned (.tuple #[]) ∧ w'.ownsRow base 2 1 (.slice (some ⟨g, 0, none⟩) n c) n (ints (addL f ws a q)) ∧ w.grownBy w' (some g) := by
  have HW := Lib.hid hwk
  have HB := Lib.hid (fun k => addL_bnd (ws := ws) (a := a) (A := 1000000) hD0 ⟨ha1, ha2⟩ (by omega) hf k)
  have HWR := Lib.hid hw
  have HNE := Lib.hid hne
  clear hwk hf hne hw
  go_enter Tryz.func42, Tryz.ntmps42
  go_wp2
  go_loopw [12] (fun i wr => ∃ k : Nat, k ≤ q ∧ i = .int .i64 k ∧ wr.ownsRow base 2 1 (.slice (some ⟨g, 0, none⟩) n c) n (ints (addL f ws a k)) ∧ w.grownBy wr (some g)) (fun i _ => q - (intOf i).toNat)
  case atStart => exact ⟨0, by omega, rfl, ho, grown_refl _ _⟩
  case round =>
    obtain ⟨k, hk, rfl, hok, hgr⟩ := hrel
    by_cases hlt : k < q
    · obtain ⟨wo, rfl⟩ : ∃ wo : World, wo = wr := ⟨_, rfl⟩
      obtain ⟨bd, u, rfl, hbd, hx, hc⟩ := (reads_grown HWR.out hgr HNE.out).at_ hlt
      obtain ⟨x, hxk, rfl⟩ := ints_at hx
      have hxb := HW.out x (mem_of_at hxk)
      obtain ⟨x0, x1, x2⟩ := wkB_t hxb
      have hIl := wkI_lt hxb
      obtain ⟨e2, e3, e4, e5, e6⟩ := own_i hok hIl
      have hbnd := getD_bnd (D := D + 1000000 * (k : Int)) (by omega) (HB.out k) (wkI x)
      have HXK := Lib.hid hxk
      have hkI : (k : Int) < (q : Int) := by omega
      have hIlI : (wkI x : Int) < (n : Int) := by omega
      have cc := airwayOf_any x wo x0 (by omega) (by omega)
      have HG2 : Hid (∀ v : Int, w.grownBy (wo.setCell ⟨g, wkI x, none⟩ (.int .i64 v)) (some g)) := fun v => only_setCell hgr (.inl rfl) _
      have HUP := Lib.hid e6
      by_cases hp : 0 < x
      · have HS := Lib.hid (addL_pos (f := f) (a := a) HXK.out hp)
        rw [show wkS x = 1 from if_pos hp] at cc
        generalize hF : (addL f ws a k).getD (wkI x) 0 = F at *
        have HC := Lib.hid cc
        clear hx hxk hxb hok e6 hF hgr cc
        go_wp2_with fail; ((with_reducible refine HC.out.mono ?_); rintro e w' ⟨rfl, rfl⟩)
        go_wp2
        go_roundw
        case rel => exact ⟨k + 1, by omega, by go_num, by rw [HS.out]; exact HUP.out _, HG2.out _⟩
        case measure => simp [intOf]; omega
      · have HS := Lib.hid (addL_neg (f := f) (a := a) HXK.out hp)
        rw [show wkS x = -1 from if_neg hp] at cc
        generalize hF : (addL f ws a k).getD (wkI x) 0 = F at *
        have HC := Lib.hid cc
        clear hx hxk hxb hok e6 hF hgr cc
        go_wp2_with fail; ((with_reducible refine HC.out.mono ?_); rintro e w' ⟨rfl, rfl⟩)
        go_wp2
        go_roundw
        case rel => exact ⟨k + 1, by omega, by go_num, by rw [HS.out]; first | exact HUP.out _ | (rw [Int.sub_eq_add_neg]; exact HUP.out _), HG2.out _⟩
        case measure => simp [intOf]; omega
    · have e : k = q := by omega
      subst e
      go_wp2
      go_end0
      exact ⟨rfl, hok, hgr⟩
end Go.Proofs.YtjmhhbjbmgpagaaGreat

/- Contracts of the flows of amounts along meshes, both sides. -/
namespace Go.Proofs.YtjmhhbjbmgpagaaGreat
set_option linter.unusedVariables false
set_option linter.unusedSimpArgs false
open Go.RowKit
/-- The flows behind the first k meshes. -/
def flowTo (ms : List (List Int)) (am f : List Int) : Nat → List Int
  | 0 => f
  | k + 1 => match ms[k]? with
    | some s => addL (flowTo ms am f k) s (am.getD k 0) s.length
    | none => flowTo ms am f k
theorem flowTo_snoc {ms : List (List Int)} {am f s : List Int} {a : Int} {k : Nat} (h : ms[k]? = some s) (ha : am[k]? = some a) : flowTo ms am f (k + 1) = addL (flowTo ms am f k) s a s.length := by
  simp only [flowTo]; rw [h]; simp only []; rw [getW_at ha]
theorem flowTo_len (ms : List (List Int)) (am f : List Int) : ∀ k, (flowTo ms am f k).length = f.length
  | 0 => rfl
  | k + 1 => by
    simp only [flowTo]
    cases ms[k]? with
    | none => exact flowTo_len ms am f k
    | some s => simp only []; rw [addL_len]; exact flowTo_len ms am f k
theorem flowTo_bnd {ms : List (List Int)} {am f : List Int} (hm : ∀ s ∈ ms, s.length ≤ 18) (ha : ∀ a ∈ am, -100000 ≤ a ∧ a ≤ 100000) (hf : ∀ x ∈ f, -100000 ≤ x ∧ x ≤ 100000) : ∀ k : Nat, ∀ x ∈ flowTo ms am f k, -(100000 + 1800000 * (k : Int)) ≤ x ∧ x ≤ 100000 + 1800000 * (k : Int)
  | 0 => fun x h => by have := hf x h; omega
  | k + 1 => fun x h => by
    have ih := flowTo_bnd hm ha hf k
    simp only [flowTo] at h
    cases e : ms[k]? with
    | none => rw [e] at h; have := ih x h; omega
    | some s =>
      rw [e] at h
      have hl := hm s (List.mem_of_getElem? e)
      have h2 := addL_bnd (ws := s) (D := 100000 + 1800000 * (k : Int)) (A := 100000) (by omega) (a := am.getD k 0) (by have := getD_bnd (D := 100000) (by omega) ha k; omega) (by omega) (fun y hy => by have := ih y hy; omega) s.length x h
      omega
def zrs (m : Nat) : List Int := List.replicate m 0
theorem zrs_own (w : World) (m : Nat) (hm : m ≤ 1000000) : (w.alloc (.cells (madeCells #[.int .i64 0] m) 2)).ownsRow w.heap.size 2 1 (.slice (some ⟨w.heap.size, 0, none⟩) m m) m (ints (zrs m)) := by
  have e : ints (zrs m) = List.replicate m (Value.int .i64 0) := by simp [ints, zrs]
  refine own_of_blk (Blk.new w 2 _) (by simp [ints, zrs]) (size_madeCells _ _) (by unfold maxLen; omega) (fun j _ => ?_)
  rw [e, ← Array.getElem?_toList, toList_madeCells_one]
def fomR (J : Int) (xs : List Awy) (am : List Int) : List Int × Int :=
  if mineOk J xs = true then (if lstOk (meshL J xs).length (-100000) 100000 am = true then (if lstOk xs.length (-100000) 100000 (flowTo (meshL J xs) am (zrs xs.length) (meshL J xs).length) = true then (flowTo (meshL J xs) am (zrs xs.length) (meshL J xs).length, 0) else ([], 6)) else ([], 7)) else ([], 1)
theorem fomR_1 {J : Int} {xs : List Awy} {am : List Int} (h : mineOk J xs = false) : fomR J xs am = ([], 1) := by unfold fomR; rw [if_neg (by rw [h]; exact Bool.false_ne_true)]
theorem fomR_7 {J : Int} {xs : List Awy} {am : List Int} (h : mineOk J xs = true) (h1 : lstOk (meshL J xs).length (-100000) 100000 am = false) : fomR J xs am = ([], 7) := by unfold fomR; rw [if_pos h, if_neg (by rw [h1]; exact Bool.false_ne_true)]
theorem fomR_6 {J : Int} {xs : List Awy} {am : List Int} (h : mineOk J xs = true) (h1 : lstOk (meshL J xs).length (-100000) 100000 am = true) (h2 : lstOk xs.length (-100000) 100000 (flowTo (meshL J xs) am (zrs xs.length) (meshL J xs).length) = false) : fomR J xs am = ([], 6) := by unfold fomR; rw [if_pos h, if_pos h1, if_neg (by rw [h2]; exact Bool.false_ne_true)]
theorem fomR_0 {J : Int} {xs : List Awy} {am : List Int} (h : mineOk J xs = true) (h1 : lstOk (meshL J xs).length (-100000) 100000 am = true) (h2 : lstOk xs.length (-100000) 100000 (flowTo (meshL J xs) am (zrs xs.length) (meshL J xs).length) = true) : fomR J xs am = (flowTo (meshL J xs) am (zrs xs.length) (meshL J xs).length, 0) := by unfold fomR; rw [if_pos h, if_pos h1, if_pos h2]
/-- What a row of meshes is good for. -/
theorem Mms.row_at {w w' : World} {lo n c k : Nat} {A : Option Addr} {ms : List (List Int)} {rs : List Row} (h : Mms w lo A n c ms rs) (hb : Below w.heap.size w w') (hk : k < n) :
    ∃ (ad : Addr) (r : Row), A = some ad ∧ ms[k]? = some r.xs ∧ r.n = r.xs.length ∧ w'.cell? (ad.add k) = some (.slice r.A r.n r.c) ∧ Reads w' w'.heap.size 1 r.A r.n (ints r.xs) ∧ (∀ a, r.A = some a → lo ≤ a.block ∧ a.block < w.heap.size) := by
  have hR := h.oss.reads
  obtain ⟨ad, r, e, hr, hc, hrr⟩ := (hR.below hb).at_ hk
  refine ⟨ad, r, e, by rw [← h.dat]; exact dat_at hr, (ints_len hrr).symm, hc, hrr.more hb.size, fun a ha => ?_⟩
  exact ((h.oss.row r (List.mem_of_getElem? hr)).lt a.block (by rw [show r.val = .slice (some a) r.n r.c by unfold Row.val; rw [ha]]; rfl))
theorem Mms.len {w : World} {lo n c : Nat} {A : Option Addr} {ms : List (List Int)} {rs : List Row} (h : Mms w lo A n c ms rs) : ms.length = n := by rw [← h.dat, dat_len]; exact h.oss.reads.len
end Go.Proofs.YtjmhhbjbmgpagaaGreat

/- Contracts of the errors of walks and of the steps against them, both sides. -/
namespace Go.Proofs.YtjmhhbjbmgpagaaGreat
set_option linter.unusedVariables false
set_option linter.unusedSimpArgs false
open Go.RowKit
/-- Numbers that make a system. -/
def SysB (rs ps fs ws : List Int) (n : Nat) : Prop := (∀ r ∈ rs, isRes r = true) ∧ (∀ p ∈ ps, -1000000 ≤ p ∧ p ≤ 1000000) ∧ (∀ f ∈ fs, isFlow f = true) ∧ (∀ x ∈ ws, wkB n x = true)
def erT (rs ps fs ws : List Int) : Nat → Int
  | 0 => 0
  | k + 1 => erT rs ps fs ws k + wkS (ws.getD k 0) * (drop (rs.getD (wkI (ws.getD k 0)) 0) (fs.getD (wkI (ws.getD k 0)) 0) - ps.getD (wkI (ws.getD k 0)) 0)
theorem erT_s {rs ps fs ws : List Int} {k : Nat} {x r p f : Int} (hx : ws[k]? = some x) (hr : rs[wkI x]? = some r) (hp : ps[wkI x]? = some p) (hf : fs[wkI x]? = some f) : erT rs ps fs ws (k + 1) = erT rs ps fs ws k + wkS x * (drop r f - p) := by
  simp only [erT]; rw [getW_at hx, getW_at hr, getW_at hp, getW_at hf]
theorem wkS_or (x : Int) : wkS x = 1 ∨ wkS x = -1 := by unfold wkS; split <;> simp
theorem sgn_bnd {s v B : Int} (hs : s = 1 ∨ s = -1) (h1 : -B ≤ v) (h2 : v ≤ B) : -B ≤ s * v ∧ s * v ≤ B := by
  rcases hs with rfl | rfl
  · rw [Int.one_mul]; omega
  · rw [Int.neg_mul, Int.one_mul]; omega
/-- What stands at a number of a walk. -/
theorem sys_at {rs ps fs ws : List Int} {n k : Nat} {x : Int} (h : SysB rs ps fs ws n) (hr : rs.length = n) (hp : ps.length = n) (hf : fs.length = n) (hx : ws[k]? = some x) :
    ∃ r p f : Int, rs[wkI x]? = some r ∧ ps[wkI x]? = some p ∧ fs[wkI x]? = some f ∧ isRes r = true ∧ (-1000000 ≤ p ∧ p ≤ 1000000) ∧ isFlow f = true ∧ wkI x < n ∧ wkB n x = true := by
  obtain ⟨h1, h2, h3, h4⟩ := h
  have hw := h4 x (List.mem_of_getElem? hx)
  have hl := wkI_lt hw
  exact ⟨rs[wkI x], ps[wkI x], fs[wkI x], List.getElem?_eq_getElem (by omega), List.getElem?_eq_getElem (by omega), List.getElem?_eq_getElem (by omega), h1 _ (List.getElem_mem _), h2 _ (List.getElem_mem _), h3 _ (List.getElem_mem _), hl, hw⟩
theorem erT_bnd {rs ps fs ws : List Int} {n : Nat} (h : SysB rs ps fs ws n) (hr : rs.length = n) (hp : ps.length = n) (hf : fs.length = n) : ∀ k : Nat, k ≤ ws.length → -(2000000 * (k : Int)) ≤ erT rs ps fs ws k ∧ erT rs ps fs ws k ≤ 2000000 * (k : Int)
  | 0, _ => by simp [erT]
  | k + 1, hk => by
    have ih := erT_bnd h hr hp hf k (by omega)
    obtain ⟨r, p, f, e1, e2, e3, e4, e5, e6, _⟩ := sys_at h hr hp hf (List.getElem?_eq_getElem (l := ws) (i := k) (by omega))
    rw [erT_s (List.getElem?_eq_getElem (by omega)) e1 e2 e3]
    have hd := drop_bnd e4 e6
    have hs := sgn_bnd (B := 2000000) (wkS_or ws[k]) (v := drop r f - p) (by omega) (by omega)
    omega
/-- A callee that only draws, behind draws. -/
theorem quiet_same {f : FuncId} {args : Array Value} {v : Value} {w : World} (h : ∀ W : World, Calls Tryz.prog f args W fun e w' => e = .returned v ∧ W = w') : ∀ m, Calls Tryz.prog f args (w.drewN m) fun e w'' => e = .returned v ∧ ∃ q, w'' = w.drewN q :=
  fun m => (h _).mono fun _ _ ⟨he, hw⟩ => ⟨he, m, hw.symm⟩
theorem quiet_drew {f : FuncId} {args : Array Value} {v : Value} {w : World} (h : ∀ W : World, Calls Tryz.prog f args W fun e w' => e = .returned v ∧ ∃ n, w' = W.drewN n) : ∀ m, Calls Tryz.prog f args (w.drewN m) fun e w'' => e = .returned v ∧ ∃ q, w'' = w.drewN q :=
  fun m => Calls.quiet_of (h (w.drewN m))
set_option maxHeartbeats 1600000 in
set_option maxRecDepth 100000 in
theorem l07Error_any (A : Option Addr) (n a : Nat) (rs : List Int) (B : Option Addr) (b : Nat) (ps : List Int) (C : Option Addr) (c : Nat) (fs : List Int) (D : Option Addr) (q d : Nat) (ws : List Int) (w : World)
    (hA : Reads w w.heap.size 1 A n (ints rs)) (hB : Reads w w.heap.size 1 B n (ints ps)) (hC : Reads w w.heap.size 1 C n (ints fs)) (hD : Reads w w.heap.size 1 D q (ints ws)) (hs : SysB rs ps fs ws n) (hn : n ≤ 1000000) (hq : q ≤ 1000) :
    Calls Tryz.prog 93 #[.slice A n a, .slice B n b, .slice C n c, .slice D q d] w fun e w' => e = .returned (.int .i64 (erT rs ps fs ws q)) ∧ ∃ m, w' = w.drewN m := by
  have HLA := Lib.hid (ints_len hA)
  have HLB := Lib.hid (ints_len hB)
  have HLC := Lib.hid (ints_len hC)
  have HLD := Lib.hid (ints_len hD)
  have HS := Lib.hid hs
  have HBD := Lib.hid (fun k h => erT_bnd hs HLA.out HLB.out HLC.out k h)
  have HR := Lib.hid (And.intro hA (And.intro hB (And.intro hC hD)))
  clear hs hA hB hC hD
  go_enter Tryz.func93, Tryz.ntmps93
  go_wp2
  go_loopw [9, 10] (fun s i wr => ∃ k m : Nat, k ≤ q ∧ s = .int .i64 (erT rs ps fs ws k) ∧ i = .int .i64 k ∧ Hid (wr = w.drewN m)) (fun _ i _ => q - (intOf i).toNat)
  case atStart => exact ⟨0, 0, by omega, rfl, rfl, rfl⟩
  case round =>
    obtain ⟨k, m, hk, rfl, rfl, HWD⟩ := hrel
    by_cases hlt : k < q
    · obtain ⟨wo, rfl⟩ : ∃ wo : World, wo = wr := ⟨_, rfl⟩
      have hRW : Reads wo wo.heap.size 1 A n (ints rs) ∧ Reads wo wo.heap.size 1 B n (ints ps) ∧ Reads wo wo.heap.size 1 C n (ints fs) ∧ Reads wo wo.heap.size 1 D q (ints ws) := by rw [HWD.out]; exact HR.out
      obtain ⟨x, hx⟩ : ∃ x, ws[k]? = some x := ⟨_, List.getElem?_eq_getElem (by rw [HLD.out]; exact hlt)⟩
      obtain ⟨r, p, f, e1, e2, e3, e4, e5, e6, hl, hw⟩ := sys_at HS.out HLA.out HLB.out HLC.out hx
      obtain ⟨ad, rfl, _, _, ca⟩ := hRW.1.int_at e1
      obtain ⟨bd, rfl, _, _, cb⟩ := hRW.2.1.int_at e2
      obtain ⟨cd, rfl, _, _, cc⟩ := hRW.2.2.1.int_at e3
      obtain ⟨dd, rfl, _, _, cx⟩ := hRW.2.2.2.int_at hx
      obtain ⟨x0, x1, x2⟩ := wkB_t hw
      have hI := wkI_int x0
      have HE := Lib.hid (erT_s hx e1 e2 e3)
      have hb := HBD.out k (by rw [HLD.out]; omega)
      have hd := drop_bnd e4 e6
      have HQD : Hid (∀ m, Calls Tryz.prog 114 #[.int .i64 r, .int .i64 f] (wo.drewN m) fun e w'' => e = .returned (.int .i64 (drop r f)) ∧ ∃ q, w'' = wo.drewN q) := quiet_same fun W => l03Drop_any r f W e4 e6
      have cab := l03Abs_any x wo (by omega) (by omega)
      rw [show absI x = (wkI x : Int) + 1 by omega] at cab
      have HAB := Lib.hid cab
      have hkI : (k : Int) < (q : Int) := by omega
      have hlI : (wkI x : Int) < (n : Int) := by omega
      have HIx := Lib.hid hI
      have HWS : Hid (wkS x = if 0 < x then 1 else -1) := rfl
      generalize wkI x = j at *
      generalize erT rs ps fs ws k = s at *
      generalize hDV : drop r f = dv at *
      have hw1 : IntKind.i64.wrap (dv - p) = dv - p := IntWalk.i64_in _ (by omega)
      clear hRW hx e1 e2 e3 e4 e6 hl hw hI cab hDV
      by_cases hp : 0 < x
      · have HN : Hid (erT rs ps fs ws (k + 1) = s + (dv - p)) := show _ = _ by rw [HE.out, HWS.out, if_pos hp, Int.one_mul]
        clear x0 x1 x2
        go_wp2_with fail; ((with_reducible refine HAB.out.mono ?_); rintro e w' ⟨rfl, rfl⟩)
        go_wp2
        go_quiet ((go_at_call 114; exact HQD.out _))
        go_wp2
        go_roundw
        case rel => exact ⟨k + 1, _, by omega, by rw [HN.out], by go_num, (show _ = _ by rw [HWD.out, World.drewN_drewN])⟩
        case measure => simp [intOf]; omega
      · have HN : Hid (erT rs ps fs ws (k + 1) = s - (dv - p)) := show _ = _ by rw [HE.out, HWS.out, if_neg hp]; omega
        clear x0 x1 x2
        go_wp2_with fail; ((with_reducible refine HAB.out.mono ?_); rintro e w' ⟨rfl, rfl⟩)
        go_wp2
        go_quiet ((go_at_call 114; exact HQD.out _))
        go_wp2
        go_roundw
        case rel => exact ⟨k + 1, _, by omega, by rw [HN.out], by go_num, (show _ = _ by rw [HWD.out, World.drewN_drewN])⟩
        case measure => simp [intOf]; omega
    · have e : k = q := by omega
      subst e
      go_wp2
      go_ret
      exact ⟨rfl, _, HWD.out⟩
set_option maxHeartbeats 1600000 in
set_option maxRecDepth 100000 in
theorem walkError_any (D : Option Addr) (q d : Nat) (ws : List Int) (A : Option Addr) (n a : Nat) (rs : List Int) (B : Option Addr) (b : Nat) (ps : List Int) (C : Option Addr) (c : Nat) (fs : List Int) (w : World)
    (hA : Reads w w.heap.size 1 A n (ints rs)) (hB : Reads w w.heap.size 1 B n (ints ps)) (hC : Reads w w.heap.size 1 C n (ints fs)) (hD : Reads w w.heap.size 1 D q (ints ws)) (hs : SysB rs ps fs ws n) (hn : n ≤ 1000000) (hq : q ≤ 1000) :
    Calls Tryz.prog 78 #[.slice D q d, .slice A n a, .slice B n b, .slice C n c] w fun e w' => e = .returned (.int .i64 (erT rs ps fs ws q)) ∧ ∃ m, w' = w.drewN m := by
  have HLA := Lib.hid (ints_len hA)
  have HLB := Lib.hid (ints_len hB)
  have HLC := Lib.hid (ints_len hC)
  have HLD := Lib.hid (ints_len hD)
  have HS := Lib.hid hs
  have HBD := Lib.hid (fun k h => erT_bnd hs HLA.out HLB.out HLC.out k h)
  have HR := Lib.hid (And.intro hA (And.intro hB (And.intro hC hD)))
  clear hs hA hB hC hD
  go_enter Tryz.func78, Tryz.ntmps78
  go_wp2
  go_loopw [9, 16] (fun s i wr => ∃ k m : Nat, k ≤ q ∧ s = .int .i64 (erT rs ps fs ws k) ∧ i = .int .i64 k ∧ Hid (wr = w.drewN m)) (fun _ i _ => q - (intOf i).toNat)
  case atStart => exact ⟨0, 0, by omega, rfl, rfl, rfl⟩
  case round =>
    obtain ⟨k, m, hk, rfl, rfl, HWD⟩ := hrel
    by_cases hlt : k < q
    · obtain ⟨wo, rfl⟩ : ∃ wo : World, wo = wr := ⟨_, rfl⟩
      have hRW : Reads wo wo.heap.size 1 A n (ints rs) ∧ Reads wo wo.heap.size 1 B n (ints ps) ∧ Reads wo wo.heap.size 1 C n (ints fs) ∧ Reads wo wo.heap.size 1 D q (ints ws) := by rw [HWD.out]; exact HR.out
      obtain ⟨x, hx⟩ : ∃ x, ws[k]? = some x := ⟨_, List.getElem?_eq_getElem (by rw [HLD.out]; exact hlt)⟩
      obtain ⟨r, p, f, e1, e2, e3, e4, e5, e6, hl, hw⟩ := sys_at HS.out HLA.out HLB.out HLC.out hx
      obtain ⟨ad, rfl, _, _, ca⟩ := hRW.1.int_at e1
      obtain ⟨bd, rfl, _, _, cb⟩ := hRW.2.1.int_at e2
      obtain ⟨cd, rfl, _, _, cc⟩ := hRW.2.2.1.int_at e3
      obtain ⟨dd, rfl, _, _, cx⟩ := hRW.2.2.2.int_at hx
      obtain ⟨x0, x1, x2⟩ := wkB_t hw
      have HE := Lib.hid (erT_s hx e1 e2 e3)
      have hb := HBD.out k (by rw [HLD.out]; omega)
      have hd := drop_bnd e4 e6
      have HQD : Hid (∀ m, Calls Tryz.prog 107 #[.int .i64 r, .int .i64 f] (wo.drewN m) fun e w'' => e = .returned (.int .i64 (drop r f)) ∧ ∃ q, w'' = wo.drewN q) := quiet_drew fun W => dropOf_any r f W e4 e6
      have HAB := Lib.hid (airwayOf_any x wo x0 (by omega) (by omega))
      have hkI : (k : Int) < (q : Int) := by omega
      have hlI : (wkI x : Int) < (n : Int) := by omega
      have hsg := wkS_or x
      have hsb := sgn_bnd (B := 2000000) hsg (v := drop r f - p) (by omega) (by omega)
      generalize wkI x = j at *
      generalize wkS x = sg at *
      generalize erT rs ps fs ws k = s at *
      generalize hDV : drop r f = dv at *
      have hw1 : IntKind.i64.wrap (dv - p) = dv - p := IntWalk.i64_in _ (by omega)
      have hw2 : IntKind.i64.wrap (sg * (dv - p)) = sg * (dv - p) := IntWalk.i64_in _ (by omega)
      have hw3 : IntKind.i64.wrap (s + sg * (dv - p)) = s + sg * (dv - p) := IntWalk.i64_in _ (by omega)
      clear hRW hx e1 e2 e3 e4 e6 hl hw hDV hsg x0 x1 x2
      go_wp2_with fail; ((with_reducible refine HAB.out.mono ?_); rintro e w' ⟨rfl, rfl⟩)
      go_wp2
      go_quiet ((go_at_call 107; exact HQD.out _))
      go_wp2
      go_roundw
      case rel => exact ⟨k + 1, _, by omega, by rw [HE.out], by go_num, (show _ = _ by rw [HWD.out, World.drewN_drewN])⟩
      case measure => simp [intOf]; omega
    · have e : k = q := by omega
      subst e
      go_wp2
      go_ret
      exact ⟨rfl, _, HWD.out⟩
end Go.Proofs.YtjmhhbjbmgpagaaGreat

/- Contracts of the steps against the errors of walks, both sides. -/
namespace Go.Proofs.YtjmhhbjbmgpagaaGreat
set_option linter.unusedVariables false
set_option linter.unusedSimpArgs false
open Go.RowKit
def slT (rs fs ws : List Int) : Nat → Int
  | 0 => 0
  | k + 1 => slT rs fs ws k + 2 * rs.getD (wkI (ws.getD k 0)) 0 * absI (fs.getD (wkI (ws.getD k 0)) 0)
def alT (rs ws : List Int) : Nat → Int
  | 0 => 0
  | k + 1 => alT rs ws k + rs.getD (wkI (ws.getD k 0)) 0
theorem slT_s {rs fs ws : List Int} {k : Nat} {x r f : Int} (hx : ws[k]? = some x) (hr : rs[wkI x]? = some r) (hf : fs[wkI x]? = some f) : slT rs fs ws (k + 1) = slT rs fs ws k + 2 * r * absI f := by
  simp only [slT]; rw [getW_at hx, getW_at hr, getW_at hf]
theorem alT_s {rs ws : List Int} {k : Nat} {x r : Int} (hx : ws[k]? = some x) (hr : rs[wkI x]? = some r) : alT rs ws (k + 1) = alT rs ws k + r := by
  simp only [alT]; rw [getW_at hx, getW_at hr]
theorem rise_in {r f : Int} (hr : isRes r = true) (hf : isFlow f = true) : (2 ≤ 2 * r ∧ 2 * r ≤ 2000000) ∧ (0 ≤ absI f ∧ absI f ≤ 100000) ∧ 0 ≤ 2 * r * absI f ∧ 2 * r * absI f ≤ 200000000000 := by
  obtain ⟨h1, h2⟩ := isRes_t hr
  obtain ⟨h3, h4⟩ := isFlow_t hf
  have h5 := absI_nonneg f
  have h6 := absI_le (n := f) (b := 100000) (by omega) (by omega)
  have h7 := mul_pos_bnd (x := 2 * r) (y := absI f) (X := 2000000) (Y := 100000) (M := 200000000000) (by omega) (by omega) h5 h6 (by omega)
  exact ⟨⟨by omega, by omega⟩, ⟨h5, h6⟩, h7⟩
theorem slT_bnd {rs ps fs ws : List Int} {n : Nat} (h : SysB rs ps fs ws n) (hr : rs.length = n) (hp : ps.length = n) (hf : fs.length = n) : ∀ k : Nat, k ≤ ws.length → (0 ≤ slT rs fs ws k ∧ slT rs fs ws k ≤ 200000000000 * (k : Int)) ∧ ((k : Int) ≤ alT rs ws k ∧ alT rs ws k ≤ 1000000 * (k : Int))
  | 0, _ => by simp [slT, alT]
  | k + 1, hk => by
    have ih := slT_bnd h hr hp hf k (by omega)
    obtain ⟨r, p, f, e1, e2, e3, e4, e5, e6, _⟩ := sys_at h hr hp hf (List.getElem?_eq_getElem (l := ws) (i := k) (by omega))
    rw [slT_s (List.getElem?_eq_getElem (by omega)) e1 e3, alT_s (List.getElem?_eq_getElem (by omega)) e1]
    have hd := rise_in e4 e6
    have hs := isRes_t e4
    omega
/-- The step of a walk. -/
def stC (e s a : Int) : Int := max (-10000) (min 10000 (if 0 < s then dr (-e * 10000000000) s else if 0 < e then -rootI (e * 10000000000 / a) else rootI (-e * 10000000000 / a)))
def stR (rs ps fs ws : List Int) (q : Nat) : Int := stC (erT rs ps fs ws q) (slT rs fs ws q) (alT rs ws q)
theorem stC_bnd (e s a : Int) : -10000 ≤ stC e s a ∧ stC e s a ≤ 10000 := by unfold stC; omega
theorem stC_p {e s a : Int} (h : 0 < s) : stC e s a = max (-10000) (min 10000 (dr (-e * 10000000000) s)) := by unfold stC; rw [if_pos h]
theorem stC_e {e s a : Int} (h : ¬ 0 < s) (h1 : 0 < e) : stC e s a = max (-10000) (min 10000 (-rootI (e * 10000000000 / a))) := by unfold stC; rw [if_neg h, if_pos h1]
theorem stC_n {e s a : Int} (h : ¬ 0 < s) (h1 : ¬ 0 < e) : stC e s a = max (-10000) (min 10000 (rootI (-e * 10000000000 / a))) := by unfold stC; rw [if_neg h, if_neg h1]
theorem root0 : rootI 0 = 0 := by have := rootI_bnd (n := 0) (M := 0) (m := 0) (by omega) (by omega); omega
theorem stC_z {e s a : Int} (h : ¬ 0 < s) (h1 : e = 0) : stC e s a = 0 := by
  rw [stC_n h (by omega), h1, show (-(0 : Int) * 10000000000) = 0 by omega, Int.zero_ediv, root0]; rfl
theorem quo_in {x a : Int} (hx : 0 ≤ x) (hx2 : x ≤ 400000000000000000) (ha : 1 ≤ a) : x.tdiv a = x / a ∧ 0 ≤ x / a ∧ x / a ≤ 400000000000000000 ∧ IntKind.i64.wrap (x / a) = x / a := by
  have h := ediv_bounds hx (show 0 < a by omega) hx2
  exact ⟨Int.tdiv_eq_ediv_of_nonneg hx, h.1, h.2, IntWalk.i64_in _ (by omega)⟩
set_option maxHeartbeats 1600000 in
set_option maxRecDepth 100000 in
theorem l07Step_any (A : Option Addr) (n a : Nat) (rs : List Int) (B : Option Addr) (b : Nat) (ps : List Int) (C : Option Addr) (c : Nat) (fs : List Int) (D : Option Addr) (q d : Nat) (ws : List Int) (w : World)
    (hA : Reads w w.heap.size 1 A n (ints rs)) (hB : Reads w w.heap.size 1 B n (ints ps)) (hC : Reads w w.heap.size 1 C n (ints fs)) (hD : Reads w w.heap.size 1 D q (ints ws)) (hs : SysB rs ps fs ws n) (hn : n ≤ 1000000) (hq : q ≤ 20) (hq1 : 1 ≤ q) :
    Calls Tryz.prog 63 #[.slice A n a, .slice B n b, .slice C n c, .slice D q d] w fun e w' => e = .returned (.int .i64 (stR rs ps fs ws q)) ∧ Below w.heap.size w w' := by
  have HLA := Lib.hid (ints_len hA)
  have HLB := Lib.hid (ints_len hB)
  have HLC := Lib.hid (ints_len hC)
  have HLD := Lib.hid (ints_len hD)
  have HS := Lib.hid hs
  have HEB := Lib.hid (erT_bnd hs HLA.out HLB.out HLC.out q (by rw [HLD.out]; exact Nat.le_refl _))
  have HBD := Lib.hid (fun k h => slT_bnd hs HLA.out HLB.out HLC.out k h)
  have ce := l07Error_any A n a rs B b ps C c fs D q d ws w hA hB hC hD hs hn (by omega)
  have HR := Lib.hid (And.intro hA (And.intro hB (And.intro hC hD)))
  have HCE := Lib.hid ce
  clear hs hA hB hC hD ce
  go_enter Tryz.func63, Tryz.ntmps63
  go_wp2_with fail; ((with_reducible refine HCE.out.mono ?_); rintro e w1 ⟨rfl, m1, HW1⟩)
  have HWE : Hid (w1 = w.drewN m1) := HW1
  clear HW1
  go_wp2
  go_loopw [10, 11, 12] (fun s t i wr => ∃ k m : Nat, k ≤ q ∧ s = .int .i64 (slT rs fs ws k) ∧ t = .int .i64 (alT rs ws k) ∧ i = .int .i64 k ∧ Hid (wr = w.drewN m)) (fun _ _ i _ => q - (intOf i).toNat)
  case atStart => exact ⟨0, m1, by omega, rfl, rfl, rfl, HWE⟩
  case round =>
    obtain ⟨k, m, hk, rfl, rfl, rfl, HWD⟩ := hrel
    by_cases hlt : k < q
    · obtain ⟨wo, rfl⟩ : ∃ wo : World, wo = wr := ⟨_, rfl⟩
      have hRW : Reads wo wo.heap.size 1 A n (ints rs) ∧ Reads wo wo.heap.size 1 B n (ints ps) ∧ Reads wo wo.heap.size 1 C n (ints fs) ∧ Reads wo wo.heap.size 1 D q (ints ws) := by rw [HWD.out]; exact HR.out
      obtain ⟨x, hx⟩ : ∃ x, ws[k]? = some x := ⟨_, List.getElem?_eq_getElem (by rw [HLD.out]; exact hlt)⟩
      obtain ⟨r, p, f, e1, e2, e3, e4, e5, e6, hl, hw⟩ := sys_at HS.out HLA.out HLB.out HLC.out hx
      obtain ⟨ad, rfl, _, _, ca⟩ := hRW.1.int_at e1
      obtain ⟨cd, rfl, _, _, cc⟩ := hRW.2.2.1.int_at e3
      obtain ⟨dd, rfl, _, _, cx⟩ := hRW.2.2.2.int_at hx
      obtain ⟨x0, x1, x2⟩ := wkB_t hw
      have hI := wkI_int x0
      have HE := Lib.hid (slT_s hx e1 e3)
      have HE2 := Lib.hid (alT_s hx e1)
      obtain ⟨hb1, hb2⟩ := HBD.out k (by rw [HLD.out]; omega)
      obtain ⟨⟨u1, u2⟩, ⟨u3, u4⟩, u5, u6⟩ := rise_in e4 e6
      obtain ⟨v1, v2⟩ := isRes_t e4
      obtain ⟨v3, v4⟩ := isFlow_t e6
      have HQD : Hid (∀ m, Calls Tryz.prog 92 #[.int .i64 f] (wo.drewN m) fun e w'' => e = .returned (.int .i64 (absI f)) ∧ ∃ q, w'' = wo.drewN q) := quiet_same fun W => l03Abs_any f W (by omega) (by omega)
      have cab := l03Abs_any x wo (by omega) (by omega)
      rw [show absI x = (wkI x : Int) + 1 by omega] at cab
      have HAB := Lib.hid cab
      have hkI : (k : Int) < (q : Int) := by omega
      have hlI : (wkI x : Int) < (n : Int) := by omega
      generalize wkI x = j at *
      generalize slT rs fs ws k = s at *
      generalize alT rs ws k = t at *
      generalize absI f = af at *
      have hw1 : IntKind.i64.wrap (2 * r) = 2 * r := IntWalk.i64_in _ (by omega)
      have hw2 : IntKind.i64.wrap (2 * r * af) = 2 * r * af := IntWalk.i64_in _ (by omega)
      have hw3 : IntKind.i64.wrap (s + 2 * r * af) = s + 2 * r * af := IntWalk.i64_in _ (by omega)
      have HDC : Hid (∀ q : Nat, (wo.drewN q).cell? (ad.add j) = some (.int .i64 r)) := fun _ => ca
      clear hRW hx e1 e2 e3 e4 e5 e6 hl hw hI cab x0 x1 x2
      go_wp2_with fail; ((with_reducible refine HAB.out.mono ?_); rintro e w' ⟨rfl, rfl⟩)
      go_wp2
      go_quiet ((go_at_call 92; exact HQD.out _))
      clear hw1 hw2 hw3
      go_wp2
      go_roundw
      case rel => exact ⟨k + 1, _, by omega, by rw [HE.out], by rw [HE2.out], by go_num, (show _ = _ by rw [HWD.out, World.drewN_drewN])⟩
      case measure => simp [intOf]; omega
    · have e : k = q := by omega
      subst e
      obtain ⟨hb1, hb2⟩ := HBD.out k (by rw [HLD.out]; omega)
      have hE := HEB.out
      have HV : Hid (stR rs ps fs ws k = stC (erT rs ps fs ws k) (slT rs fs ws k) (alT rs ws k)) := rfl
      have BW : Hid (Below w.heap.size w wr) := show Below _ _ _ by rw [HWD.out]; exact below_drewN (Below.refl _ _) _
      generalize erT rs ps fs ws k = E at *
      generalize slT rs fs ws k = s at *
      generalize alT rs ws k = t at *
      by_cases hs : 0 < s
      · have HX := Lib.hid (stC_p (e := E) (a := t) hs)
        go_wp2_with (first | (go_at_call 95; refine (l01Div_any _ _ _ (by omega) (by omega) (by omega) (by omega)).mono ?_; rintro e w' ⟨rfl, rfl⟩) | (go_at_call 97; refine (l00Min_any _ _ _).mono ?_; rintro e w' ⟨rfl, rfl⟩) | (go_at_call 91; refine (l00Max_any _ _ _).mono ?_; rintro e w' ⟨rfl, rfl⟩))
        go_ret
        exact ⟨ret_int (by rw [HV.out, HX.out]), BW.out⟩
      · have hab := l03Abs_any E wr (by omega) (by omega)
        have ht : t ≠ 0 := by omega
        by_cases he : 0 < E
        · have HX := Lib.hid (stC_e (e := E) (a := t) hs he)
          obtain ⟨k1, k2, k3, k4⟩ := quo_in (x := E * 10000000000) (a := t) (by omega) (by omega) (by omega)
          rw [show absI E = E by unfold absI; omega] at hab
          have HAB := Lib.hid hab
          have hrt := rootI_max (n := E * 10000000000 / t) (by omega)
          have hrn := rootI_nonneg (E * 10000000000 / t)
          clear hab
          go_wp2_with (first | (go_at_call 92; refine HAB.out.mono ?_; rintro e w' ⟨rfl, rfl⟩) | (go_at_call 96; refine (l01Root_any (E * 10000000000 / t) _ (by omega) (by omega)).mono ?_; rintro e w' ⟨rfl, rfl⟩) | (go_at_call 97; refine (l00Min_any _ _ _).mono ?_; rintro e w' ⟨rfl, rfl⟩) | (go_at_call 91; refine (l00Max_any _ _ _).mono ?_; rintro e w' ⟨rfl, rfl⟩))
          go_ret
          exact ⟨ret_int (by rw [HV.out, HX.out]), BW.out⟩
        · have HX := Lib.hid (stC_n (e := E) (a := t) hs he)
          obtain ⟨k1, k2, k3, k4⟩ := quo_in (x := -E * 10000000000) (a := t) (by omega) (by omega) (by omega)
          rw [show absI E = -E by unfold absI; omega] at hab
          have HAB := Lib.hid hab
          have hrt := rootI_max (n := -E * 10000000000 / t) (by omega)
          have hrn := rootI_nonneg (-E * 10000000000 / t)
          clear hab
          go_wp2_with (first | (go_at_call 92; refine HAB.out.mono ?_; rintro e w' ⟨rfl, rfl⟩) | (go_at_call 96; refine (l01Root_any (-E * 10000000000 / t) _ (by omega) (by omega)).mono ?_; rintro e w' ⟨rfl, rfl⟩) | (go_at_call 97; refine (l00Min_any _ _ _).mono ?_; rintro e w' ⟨rfl, rfl⟩) | (go_at_call 91; refine (l00Max_any _ _ _).mono ?_; rintro e w' ⟨rfl, rfl⟩))
          go_ret
          exact ⟨ret_int (by rw [HV.out, HX.out]), BW.out⟩
set_option maxHeartbeats 1600000 in
set_option maxRecDepth 100000 in
theorem stepOf_any (D : Option Addr) (q d : Nat) (ws : List Int) (A : Option Addr) (n a : Nat) (rs : List Int) (B : Option Addr) (b : Nat) (ps : List Int) (C : Option Addr) (c : Nat) (fs : List Int) (w : World)
    (hA : Reads w w.heap.size 1 A n (ints rs)) (hB : Reads w w.heap.size 1 B n (ints ps)) (hC : Reads w w.heap.size 1 C n (ints fs)) (hD : Reads w w.heap.size 1 D q (ints ws)) (hs : SysB rs ps fs ws n) (hn : n ≤ 1000000) (hq : q ≤ 20) (hq1 : 1 ≤ q) :
    Calls Tryz.prog 43 #[.slice D q d, .slice A n a, .slice B n b, .slice C n c] w fun e w' => e = .returned (.int .i64 (stR rs ps fs ws q)) ∧ Below w.heap.size w w' := by
  have HLA := Lib.hid (ints_len hA)
  have HLB := Lib.hid (ints_len hB)
  have HLC := Lib.hid (ints_len hC)
  have HLD := Lib.hid (ints_len hD)
  have HS := Lib.hid hs
  have HEB := Lib.hid (erT_bnd hs HLA.out HLB.out HLC.out q (by rw [HLD.out]; exact Nat.le_refl _))
  have HBD := Lib.hid (fun k h => slT_bnd hs HLA.out HLB.out HLC.out k h)
  have ce := walkError_any D q d ws A n a rs B b ps C c fs w hA hB hC hD hs hn (by omega)
  have HR := Lib.hid (And.intro hA (And.intro hB (And.intro hC hD)))
  have HCE := Lib.hid ce
  clear hs hA hB hC hD ce
  go_enter Tryz.func43, Tryz.ntmps43
  go_wp2_with fail; ((with_reducible refine HCE.out.mono ?_); rintro e w1 ⟨rfl, m1, HW1⟩)
  have HWE : Hid (w1 = w.drewN m1) := HW1
  clear HW1
  go_wp2
  go_loopw [10, 11, 24] (fun s t i wr => ∃ k m : Nat, k ≤ q ∧ s = .int .i64 (slT rs fs ws k) ∧ t = .int .i64 (alT rs ws k) ∧ i = .int .i64 k ∧ Hid (wr = w.drewN m)) (fun _ _ i _ => q - (intOf i).toNat)
  case atStart => exact ⟨0, m1, by omega, rfl, rfl, rfl, HWE⟩
  case round =>
    obtain ⟨k, m, hk, rfl, rfl, rfl, HWD⟩ := hrel
    by_cases hlt : k < q
    · obtain ⟨wo, rfl⟩ : ∃ wo : World, wo = wr := ⟨_, rfl⟩
      have hRW : Reads wo wo.heap.size 1 A n (ints rs) ∧ Reads wo wo.heap.size 1 B n (ints ps) ∧ Reads wo wo.heap.size 1 C n (ints fs) ∧ Reads wo wo.heap.size 1 D q (ints ws) := by rw [HWD.out]; exact HR.out
      obtain ⟨x, hx⟩ : ∃ x, ws[k]? = some x := ⟨_, List.getElem?_eq_getElem (by rw [HLD.out]; exact hlt)⟩
      obtain ⟨r, p, f, e1, e2, e3, e4, e5, e6, hl, hw⟩ := sys_at HS.out HLA.out HLB.out HLC.out hx
      obtain ⟨ad, rfl, _, _, ca⟩ := hRW.1.int_at e1
      obtain ⟨cd, rfl, _, _, cc⟩ := hRW.2.2.1.int_at e3
      obtain ⟨dd, rfl, _, _, cx⟩ := hRW.2.2.2.int_at hx
      obtain ⟨x0, x1, x2⟩ := wkB_t hw
      have HE := Lib.hid (slT_s hx e1 e3)
      have HE2 := Lib.hid (alT_s hx e1)
      obtain ⟨hb1, hb2⟩ := HBD.out k (by rw [HLD.out]; omega)
      obtain ⟨⟨u1, u2⟩, ⟨u3, u4⟩, u5, u6⟩ := rise_in e4 e6
      obtain ⟨v1, v2⟩ := isRes_t e4
      obtain ⟨v3, v4⟩ := isFlow_t e6
      have HQD : Hid (∀ m, Calls Tryz.prog 41 #[.int .i64 f] (wo.drewN m) fun e w'' => e = .returned (.int .i64 (absI f)) ∧ ∃ q, w'' = wo.drewN q) := quiet_same fun W => abs_any f W (by omega) (by omega)
      have HAB := Lib.hid (airwayOf_any x wo x0 (by omega) (by omega))
      have hkI : (k : Int) < (q : Int) := by omega
      have hlI : (wkI x : Int) < (n : Int) := by omega
      generalize wkI x = j at *
      generalize wkS x = sg at *
      generalize slT rs fs ws k = s at *
      generalize alT rs ws k = t at *
      generalize absI f = af at *
      have hw1 : IntKind.i64.wrap (2 * r) = 2 * r := IntWalk.i64_in _ (by omega)
      have hw2 : IntKind.i64.wrap (2 * r * af) = 2 * r * af := IntWalk.i64_in _ (by omega)
      have hw3 : IntKind.i64.wrap (s + 2 * r * af) = s + 2 * r * af := IntWalk.i64_in _ (by omega)
      clear hRW hx e1 e2 e3 e4 e5 e6 hl hw x0 x1 x2
      go_wp2_with fail; ((with_reducible refine HAB.out.mono ?_); rintro e w' ⟨rfl, rfl⟩)
      go_wp2
      go_quiet ((go_at_call 41; exact HQD.out _))
      clear hw1 hw2 hw3
      go_wp2
      go_roundw
      case rel => exact ⟨k + 1, _, by omega, by rw [HE.out], by rw [HE2.out], by go_num, (show _ = _ by rw [HWD.out, World.drewN_drewN])⟩
      case measure => simp [intOf]; omega
    · have e : k = q := by omega
      subst e
      obtain ⟨hb1, hb2⟩ := HBD.out k (by rw [HLD.out]; omega)
      have hE := HEB.out
      have HV : Hid (stR rs ps fs ws k = stC (erT rs ps fs ws k) (slT rs fs ws k) (alT rs ws k)) := rfl
      have BW : Hid (Below w.heap.size w wr) := show Below _ _ _ by rw [HWD.out]; exact below_drewN (Below.refl _ _) _
      generalize erT rs ps fs ws k = E at *
      generalize slT rs fs ws k = s at *
      generalize alT rs ws k = t at *
      by_cases hs : 0 < s
      · have HX := Lib.hid (stC_p (e := E) (a := t) hs)
        have hdb : Hid (-1000000000000000000 ≤ dr (-E * 10000000000) s ∧ dr (-E * 10000000000) s ≤ 1000000000000000000) := dr_bnd hs (by omega) (by omega)
        go_wp2_with (first | (go_at_call 81; refine (divRound_any _ _ _ (by omega) (by omega) (by omega) (by omega)).mono ?_; rintro e w' ⟨rfl, md, rfl⟩; have hd1 := hdb.out.1; have hd2 := hdb.out.2))
        all_goals
          go_ret
          exact ⟨ret_int (by rw [HV.out, HX.out]; omega), below_drewN BW.out _⟩
      · have ht : t ≠ 0 := by omega
        have hd0 : decide (0 < s) = false := decide_eq_false hs
        by_cases he : 0 < E
        · have HX := Lib.hid (stC_e (e := E) (a := t) hs he)
          obtain ⟨k1, k2, k3, k4⟩ := quo_in (x := E * 10000000000) (a := t) (by omega) (by omega) (by omega)
          have hrt := rootI_max (n := E * 10000000000 / t) (by omega)
          have hrn := rootI_nonneg (E * 10000000000 / t)
          go_wp2_with (first | (go_at_call 82; refine (rootOf_any (E * 10000000000 / t) _ (by omega)).mono ?_; rintro e w2 ⟨rfl, hb2⟩))
          all_goals
            go_ret
            exact ⟨ret_int (by rw [HV.out, HX.out]; omega), BW.out.trans (hb2.mono BW.out.size)⟩
        · by_cases he2 : E < 0
          · have HX := Lib.hid (stC_n (e := E) (a := t) hs he)
            obtain ⟨k1, k2, k3, k4⟩ := quo_in (x := -E * 10000000000) (a := t) (by omega) (by omega) (by omega)
            have hrt := rootI_max (n := -E * 10000000000 / t) (by omega)
            have hrn := rootI_nonneg (-E * 10000000000 / t)
            go_wp2_with (first | (go_at_call 82; refine (rootOf_any (-E * 10000000000 / t) _ (by omega)).mono ?_; rintro e w2 ⟨rfl, hb2⟩))
            all_goals
              go_ret
              exact ⟨ret_int (by rw [HV.out, HX.out]; omega), BW.out.trans (hb2.mono BW.out.size)⟩
          · have HX := Lib.hid (stC_z (e := E) (a := t) hs (by omega))
            have h0 : decide (0 < E) = false := decide_eq_false he
            have h1 : decide (E < 0) = false := decide_eq_false he2
            go_wp2
            go_ret
            exact ⟨ret_int (by rw [HV.out, HX.out]), BW.out⟩
end Go.Proofs.YtjmhhbjbmgpagaaGreat
