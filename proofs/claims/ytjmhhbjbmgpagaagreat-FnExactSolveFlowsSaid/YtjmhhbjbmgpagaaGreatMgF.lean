/- Several texts in one: Wlf Bfs Rch Tri Que. -/
import Derived.Test.YtjmhhbjbmgpagaaGreatMgE
import Derived.Test.YtjmhhbjbmgpagaaGreatMgA
import Derived.Deep.RegionHeld3
import Derived.Deep.AppendSrc
import Derived.Maps.OwnSet
import Derived.Maps.OwnOps
/- Contract of the reference's shortest walk. -/
namespace Go.Proofs.YtjmhhbjbmgpagaaGreat
set_option linter.unusedVariables false
set_option linter.unusedSimpArgs false
open Go.RowKit
theorem own_i {w : World} {base n c g : Nat} {f : List Int} (h : w.ownsRow base 2 1 (.slice (some ⟨g, 0, none⟩) n c) n (ints f)) {k : Nat} (hk : k < n) :
    base ≤ g ∧ g < w.heap.size ∧ w.cell? ⟨g, k, none⟩ = some (.int .i64 (f.getD k 0)) ∧ w.frozen? ⟨g, k, none⟩ = false ∧
      ∀ v : Int, (w.setCell ⟨g, k, none⟩ (.int .i64 v)).ownsRow base 2 1 (.slice (some ⟨g, 0, none⟩) n c) n (ints (f.set k v)) := by
  obtain ⟨g', e1, e2, e3, e4, e5, e6⟩ := own_upd h hk 0
  injection e1 with e1
  injection e1 with e1
  subst e1
  refine ⟨e2, e3, e4, e5, fun v => ?_⟩
  obtain ⟨g', f1, f2, f3, f4, f5, f6⟩ := own_upd h hk v
  injection f1 with f1
  injection f1 with f1
  subst f1
  exact f6
theorem relax1_y {f : List Int} {s : Int} {u v : Nat} (h1 : f.getD u 0 = s) (h2 : f.getD v 0 < 0) : relax1 f s u v = f.set v (s + 1) := by unfold relax1; rw [if_pos ⟨h1, h2⟩]
theorem relax1_n {f : List Int} {s : Int} {u v : Nat} (h : ¬ (f.getD u 0 = s ∧ f.getD v 0 < 0)) : relax1 f s u v = f := by unfold relax1; rw [if_neg h]
theorem relax_A {E : Edges} {s : Int} {f : List Int} {i : Nat} (hb : eB E i < f.length) (h1 : f.getD (eA E i) 0 = s) (h2 : f.getD (eB E i) 0 < 0) : relax E s f i = f.set (eB E i) (s + 1) := by
  unfold relax
  rw [relax1_y h1 h2, relax1_n]
  rw [getD_set hb, if_pos rfl]; omega
theorem relax_B {E : Edges} {s : Int} {f : List Int} {i : Nat} (h : ¬ (f.getD (eA E i) 0 = s ∧ f.getD (eB E i) 0 < 0)) (h1 : f.getD (eB E i) 0 = s) (h2 : f.getD (eA E i) 0 < 0) : relax E s f i = f.set (eA E i) (s + 1) := by
  unfold relax
  rw [relax1_n h, relax1_y h1 h2]
theorem relax_C {E : Edges} {s : Int} {f : List Int} {i : Nat} (h : ¬ (f.getD (eA E i) 0 = s ∧ f.getD (eB E i) 0 < 0)) (h1 : ¬ (f.getD (eB E i) 0 = s ∧ f.getD (eA E i) 0 < 0)) : relax E s f i = f := by
  unfold relax
  rw [relax1_n h, relax1_n h1]
def lenV : Value → Nat
  | .slice _ n _ => n
  | _ => 0
theorem walk_step {E : Edges} {T : List Nat} {f : List Int} {to r at_ i : Nat} (hne : at_ ≠ to) (h : T.find? (downB E f at_) = some i) : walkL E T f to (r + 1) at_ = stepN E at_ i :: walkL E T f to r (stepTo E at_ i) := by
  simp only [walkL]
  rw [if_neg hne, h]
theorem find_split {T : List Nat} {p : Nat → Bool} {i : Nat} (h : T.find? p = some i) : ∃ q : Nat, T[q]? = some i ∧ p i = true ∧ ∀ j t, j < q → T[j]? = some t → p t = false := by
  obtain ⟨h1, us, vs, rfl, h2⟩ := List.find?_eq_some_iff_append.1 h
  refine ⟨us.length, by simp, h1, fun j t hj ht => ?_⟩
  rw [List.getElem?_append_left hj] at ht
  simpa using h2 t (List.mem_of_getElem? ht)
theorem find_ex {T : List Nat} {p : Nat → Bool} (h : ∃ i, i ∈ T ∧ p i = true) : ∃ i, T.find? p = some i := by
  cases e : T.find? p with
  | some i => exact ⟨i, rfl⟩
  | none =>
    rw [List.find?_eq_none] at e
    obtain ⟨i, h1, h2⟩ := h
    exact absurd h2 (e i h1)
set_option maxHeartbeats 12800000 in
set_option maxRecDepth 100000 in
theorem l04Walk_any (J : Int) (M : Option Addr) (m d : Nat) (xs : List Awy) (A : Option Addr) (n c : Nat) (T : List Nat) (fr to : Nat) (p : Addr) (w : World) (hm : Reads w w.heap.size 7 M m (Awy.recs xs)) (hT : Reads w w.heap.size 1 A n (ints (nI T))) (hok : mineOk J xs = true) (hn : n ≤ 1000) (hTl : ∀ i ∈ T, i < xs.length)
    (hfr : fr < J.toNat) (hto : to < J.toNat) (hcon : Conn (edgesOf xs) T to fr)
    (hp0 : w.cell? p = some (.int .i64 J)) (hp1 : w.cell? ⟨p.block, p.off + 1, none⟩ = some (.slice M m d)) :
    Calls Tryz.prog 90 #[.pointer (some p), .slice A n c, .int .i64 fr, .int .i64 to] w fun e w' => ∃ A' n' c', e = .returned (.tuple #[.slice A' n' c', .bool true]) ∧ w'.ownsRow w.heap.size 2 1 (.slice A' n' c') n' (ints (backL (edgesOf xs) J.toNat T fr to)) ∧ n' ≤ 16 ∧ Below w.heap.size w w' := by
  obtain ⟨i0, hi0, hz0, hz1, hz2⟩ := info_parts info_Int64S
  obtain ⟨⟨j1, j2⟩, hx24, _⟩ := mineOk_t hok
  obtain ⟨jn, rfl⟩ : ∃ jn : Nat, J = jn := ⟨J.toNat, by omega⟩
  rw [Int.toNat_natCast] at *
  have HLm := Lib.hid (recs_rlen Awy.clen (by omega) hm)
  have hm24 : m ≤ 24 := by rw [← HLm.out]; exact hx24
  have HLT : Hid (T.length = n) := show _ = _ by have := ints_len hT; rw [nI_len] at this; exact this
  have HOK := Lib.hid hok
  have HTl := Lib.hid hTl
  have HCO := Lib.hid hcon
  have hpl := block_lt_of_cell hp0
  have hpl1 := block_lt_of_cell hp1
  have HR : Hid (∀ i ∈ T, eA (edgesOf xs) i < jn ∧ eB (edgesOf xs) i < jn) := fun i hi => by have := edge_lt hok (hTl i hi); rwa [Int.toNat_natCast] at this
  clear hok hTl hcon
  go_enter Tryz.func90, Tryz.ntmps90
  go_wp2
  go_loopw [10, 11] (fun o i wr => ∃ (k : Nat) (A' : Option Addr) (c' : Nat), k ≤ jn ∧ o = .slice A' k c' ∧ i = .int .i64 k ∧ wr.ownsRow w.heap.size 2 1 (.slice A' k c') k (ints (List.replicate k (-1 : Int))) ∧ Below w.heap.size w wr) (fun _ i _ => jn - (intOf i).toNat)
  case atStart => exact ⟨0, _, 0, by omega, rfl, rfl, own_empty _ _ _, by (repeat (first | exact Below.refl _ _ | assumption | (refine Below.alloc ?_ (by first | exact Nat.le_refl _ | (simp; done) | (simp; omega)) _) | (refine below_drewN ?_ _) | (refine Below.trans ?_ (Below.mono (by assumption) (by first | exact Nat.le_refl _ | (simp; done) | (simp; omega) | omega)))))⟩
  case round =>
    obtain ⟨k, A', c', hk, rfl, rfl, hown, hbr⟩ := hrel
    obtain ⟨wo, rfl⟩ : ∃ wo : World, wo = wr := ⟨_, rfl⟩
    have g0 : wo.cell? p = some (.int .i64 jn) := (hbr.cell hpl).trans hp0
    have hz := hbr.size
    by_cases hlt : k < jn
    · go_wp2_with (at_builtin; (refine wpList_app _ rfl _ _ 25 rfl w.heap.size 2 i0 _ 1 8 Tryz.underlying25 hi0 hz0 hz1 hz2 rfl (by omega) A' _ c' _ rfl ((hown).alloc _) ⟨_, 0, none⟩ 1 1 [.int .i64 (-1 : Int)] rfl rfl (cell_one_at (by simp) _ _) (by simp [Value.oneCell']) (by unfold maxLen; omega) (by omega) (by have hz := (hbr).size; simp at hz ⊢; omega) ?_); intro A1 c1 w2 ho2 hb2)
      go_roundw
      case rel => exact ⟨k + 1, A1, c1, by omega, by first | rfl | go_num, by go_num, by rw [List.replicate_succ']; simpa [ints] using ho2, (hbr.alloc hbr.size _).trans hb2⟩
      case measure => simp [intOf]; omega
    · have e : k = jn := by omega
      subst e
      have hj0 : 0 < k := by omega
      obtain ⟨g, rfl, _⟩ := own_upd hown hj0 0
      obtain ⟨hg1, hg2, gc, gf, hup⟩ := own_i hown hto
      have HUP : Hid ((wo.setCell ⟨g, to, none⟩ (.int .i64 0)).ownsRow w.heap.size 2 1 (.slice (some ⟨g, 0, none⟩) k c') k (ints (farTo (edgesOf xs) k T to 0))) := hup 0
      have HB := Lib.hid (hbr.setCell (p := ⟨g, to, none⟩) hg1 (.int .i64 0))
      have htoI : (to : Int) < (k : Int) := by omega
      clear hown hup
      go_wp2
      go_loopw [12] (fun i wq => ∃ s : Nat, s ≤ k ∧ i = .int .i64 s ∧ wq.ownsRow w.heap.size 2 1 (.slice (some ⟨g, 0, none⟩) k c') k (ints (farTo (edgesOf xs) k T to s)) ∧ Below w.heap.size w wq) (fun i _ => k - (intOf i).toNat)
      case atStart => exact ⟨0, by omega, rfl, HUP.out, HB.out⟩
      case round =>
        obtain ⟨s, hs, rfl, hown2, hbq⟩ := hrel
        clear HUP HB g0 hbr
        obtain ⟨wl, rfl⟩ : ∃ wl : World, wl = wr := ⟨_, rfl⟩
        have g0 : wl.cell? p = some (.int .i64 k) := (hbq.cell hpl).trans hp0
        by_cases hsk : s < k
        · go_wp2
          go_loopw [13] (fun i wq => ∃ q : Nat, q ≤ n ∧ i = .int .i64 q ∧ wq.ownsRow w.heap.size 2 1 (.slice (some ⟨g, 0, none⟩) k c') k (ints ((T.take q).foldl (relax (edgesOf xs) (s : Int)) (farTo (edgesOf xs) k T to s))) ∧ Below w.heap.size w wq) (fun i _ => n - (intOf i).toNat)
          case atStart => exact ⟨0, by omega, rfl, hown2, hbq⟩
          case round =>
            obtain ⟨q, hq, rfl, hown3, hbj⟩ := hrel
            clear hown2 hbq g0
            obtain ⟨wi, rfl⟩ : ∃ wi : World, wi = wr := ⟨_, rfl⟩
            have g1 : wi.cell? ⟨p.block, p.off + 1, none⟩ = some (.slice M m d) := (hbj.cell (p := ⟨p.block, p.off + 1, none⟩) hpl1).trans hp1
            by_cases hqn : q < n
            · obtain ⟨t, htq⟩ : ∃ t, T[q]? = some t := ⟨_, List.getElem?_eq_getElem (by rw [HLT.out]; exact hqn)⟩
              have htl := HTl.out t (List.mem_of_getElem? htq)
              obtain ⟨td, rfl, htd, _, hct⟩ := (hT.below hbj).int_at (nI_at htq)
              obtain ⟨ad, x, rfl, had, hx, hc⟩ := (hm.below hbj).rec_at Awy.clen (by omega) (k := t) (by rw [← HLm.out]; exact htl)
              obtain ⟨ea, eb, ha, hb⟩ := edge_ok HOK.out hx
              obtain ⟨a0, a1, a2, a3, a4, a5, a6⟩ := Awy.open_ hc
              rw [Int.toNat_natCast] at ha hb
              have HF := Lib.hid (fold_snoc (f := relax (edgesOf xs) (s : Int)) (b := farTo (edgesOf xs) k T to s) htq)
              have HPl : Hid (((T.take q).foldl (relax (edgesOf xs) (s : Int)) (farTo (edgesOf xs) k T to s)).length = k) := (level_len (edgesOf xs) (s : Int) (T.take q) _).trans (farTo_len _ _ _ _ _)
              rw [ea] at a1
              rw [eb] at a2
              have htm : t < m := by rw [← HLm.out]; exact htl
              generalize hP : (T.take q).foldl (relax (edgesOf xs) (s : Int)) (farTo (edgesOf xs) k T to s) = P at *
              have RA := Lib.hid (fun h => relax_A (E := edgesOf xs) (s := (s : Int)) (f := P) (i := t) (by rw [HPl.out]; exact hb) h)
              have RB := Lib.hid (relax_B (E := edgesOf xs) (s := (s : Int)) (f := P) (i := t))
              have RC := Lib.hid (relax_C (E := edgesOf xs) (s := (s : Int)) (f := P) (i := t))
              generalize hEA : eA (edgesOf xs) t = ua at *
              generalize hEB : eB (edgesOf xs) t = ub at *
              obtain ⟨_, _, ca, fa, upa⟩ := own_i hown3 ha
              obtain ⟨_, _, cb, fb, upb⟩ := own_i hown3 hb
              generalize hX : P.getD ua 0 = X at *
              generalize hY : P.getD ub 0 = Y at *
              have hqI : (q : Int) < (n : Int) := by omega
              have htI : (t : Int) < (m : Int) := by omega
              have haI : (ua : Int) < (k : Int) := by omega
              have hbI : (ub : Int) < (k : Int) := by omega
              have hws : IntKind.i64.wrap ((s : Int) + 1) = (s : Int) + 1 := IntWalk.i64_in _ (by omega)
              have HO3 := Lib.hid hown3
              clear hx hc htq htl hP hEA hEB hX hY ea eb hown3 a0 a3 a4 a5 a6
              by_cases hXs : X = (s : Int)
              · have hX1 : (X == (s : Int)) = true := by rw [hXs]; exact beq_self_eq_true _
                by_cases hYn : Y < 0
                · have HN := Lib.hid (RA.out hXs hYn)
                  have HUP : Hid (∀ nq : Nat, ((wi.drewN nq).setCell ⟨g, ub, none⟩ (.int .i64 ((s : Int) + 1))).ownsRow w.heap.size 2 1 (.slice (some ⟨g, 0, none⟩) k c') k (ints (P.set ub ((s : Int) + 1)))) := fun nq => (own_i (own_drew HO3.out nq) hb).2.2.2.2 _
                  have HB : Hid (∀ nq : Nat, Below w.heap.size w ((wi.drewN nq).setCell ⟨g, ub, none⟩ (.int .i64 ((s : Int) + 1)))) := fun nq => (below_drewN hbj nq).setCell (p := ⟨g, ub, none⟩) hg1 _
                  have HC : ∀ nq : Nat, ((wi.drewN nq).setCell ⟨g, ub, none⟩ (.int .i64 ((s : Int) + 1))).cell? ⟨g, ub, none⟩ = some (.int .i64 ((s : Int) + 1)) := fun nq => (own_i (HUP.out nq) hb).2.2.1.trans (by rw [getD_set (by rw [HPl.out]; exact hb), if_pos rfl])
                  have HD1 : ∀ nq : Nat, ((wi.drewN nq).setCell ⟨g, ub, none⟩ (.int .i64 ((s : Int) + 1))).cell? ⟨(ad.add (t * 7)).block, (ad.add (t * 7)).off + 1, none⟩ = some (.int .i64 ua) := fun nq => (((Below.refl w.heap.size (wi.drewN nq)).setCell (p := ⟨g, ub, none⟩) hg1 _).cell (by rw [block_of_add]; exact had)).trans a1
                  have HD2 : ∀ nq : Nat, ((wi.drewN nq).setCell ⟨g, ub, none⟩ (.int .i64 ((s : Int) + 1))).cell? ⟨(ad.add (t * 7)).block, (ad.add (t * 7)).off + 2, none⟩ = some (.int .i64 ub) := fun nq => (((Below.refl w.heap.size (wi.drewN nq)).setCell (p := ⟨g, ub, none⟩) hg1 _).cell (by rw [block_of_add]; exact had)).trans a2
                  have hs1 : ((s : Int) + 1 == (s : Int)) = false := beq_eq_false_iff_ne.2 (by omega)
                  clear RA RB RC upa upb hXs
                  go_wp2
                  go_quiet (fail)
                  go_wp2
                  go_roundw
                  case rel => exact ⟨q + 1, by omega, by go_num, by rw [HF.out, HN.out]; exact HUP.out _, HB.out _⟩
                  case measure => simp [intOf]; omega
                · by_cases hYs : Y = (s : Int)
                  · have hY1 : (Y == (s : Int)) = true := by rw [hYs]; exact beq_self_eq_true _
                    have hXn : ¬ X < 0 := by omega
                    have HN := Lib.hid (RC.out (by rintro ⟨h1, h2⟩; omega) (by rintro ⟨h1, h2⟩; omega))
                    clear RA RB RC upa upb hXs hYs
                    go_wp2
                    go_quiet (fail)
                    go_wp2
                    go_roundw
                    case rel => exact ⟨q + 1, by omega, by go_num, by rw [HF.out, HN.out]; exact own_drew HO3.out _, below_drewN hbj _⟩
                    case measure => simp [intOf]; omega
                  · have hY1 : (Y == (s : Int)) = false := beq_eq_false_iff_ne.2 hYs
                    have HN := Lib.hid (RC.out (by rintro ⟨h1, h2⟩; omega) (by rintro ⟨h1, h2⟩; omega))
                    clear RA RB RC upa upb hXs hYs
                    go_wp2
                    go_quiet (fail)
                    go_wp2
                    go_roundw
                    case rel => exact ⟨q + 1, by omega, by go_num, by rw [HF.out, HN.out]; exact own_drew HO3.out _, below_drewN hbj _⟩
                    case measure => simp [intOf]; omega
              · have hX1 : (X == (s : Int)) = false := beq_eq_false_iff_ne.2 hXs
                by_cases hYs : Y = (s : Int)
                · have hY1 : (Y == (s : Int)) = true := by rw [hYs]; exact beq_self_eq_true _
                  by_cases hXn : X < 0
                  · have HN := Lib.hid (RB.out (fun h => hXs h.1) hYs hXn)
                    have HUP : Hid (∀ nq : Nat, ((wi.drewN nq).setCell ⟨g, ua, none⟩ (.int .i64 ((s : Int) + 1))).ownsRow w.heap.size 2 1 (.slice (some ⟨g, 0, none⟩) k c') k (ints (P.set ua ((s : Int) + 1)))) := fun nq => (own_i (own_drew HO3.out nq) ha).2.2.2.2 _
                    have HB : Hid (∀ nq : Nat, Below w.heap.size w ((wi.drewN nq).setCell ⟨g, ua, none⟩ (.int .i64 ((s : Int) + 1)))) := fun nq => (below_drewN hbj nq).setCell (p := ⟨g, ua, none⟩) hg1 _
                    clear RA RB RC upa upb hXs hYs
                    go_wp2
                    go_quiet (fail)
                    go_wp2
                    go_roundw
                    case rel => exact ⟨q + 1, by omega, by go_num, by rw [HF.out, HN.out]; exact HUP.out _, HB.out _⟩
                    case measure => simp [intOf]; omega
                  · have hxx : 0 ≤ X := by omega
                    have HN := Lib.hid (RC.out (by rintro ⟨h1, h2⟩; omega) (by rintro ⟨h1, h2⟩; omega))
                    clear RA RB RC upa upb hXs hYs
                    go_wp2
                    go_quiet (fail)
                    go_wp2
                    go_roundw
                    case rel => exact ⟨q + 1, by omega, by go_num, by rw [HF.out, HN.out]; exact own_drew HO3.out _, below_drewN hbj _⟩
                    case measure => simp [intOf]; omega
                · have hY1 : (Y == (s : Int)) = false := beq_eq_false_iff_ne.2 hYs
                  have HN := Lib.hid (RC.out (by rintro ⟨h1, h2⟩; omega) (by rintro ⟨h1, h2⟩; omega))
                  clear RA RB RC upa upb hXs hYs
                  go_wp2
                  go_quiet (fail)
                  go_wp2
                  go_roundw
                  case rel => exact ⟨q + 1, by omega, by go_num, by rw [HF.out, HN.out]; exact own_drew HO3.out _, below_drewN hbj _⟩
                  case measure => simp [intOf]; omega
            · have HE3 : Hid ((T.take q).foldl (relax (edgesOf xs) (s : Int)) (farTo (edgesOf xs) k T to s) = farTo (edgesOf xs) k T to (s + 1)) := show _ = _ by
                rw [farTo_succ, List.take_of_length_le (by rw [HLT.out]; omega)]; rfl
              have HO3 := Lib.hid hown3
              clear hown3
              go_wp2
              go_roundw
              case rel => exact ⟨s + 1, by omega, by go_num, by rw [← HE3.out]; exact HO3.out, hbj⟩
              case measure => simp [intOf]; omega
        · have hown4 : wl.ownsRow w.heap.size 2 1 (.slice (some ⟨g, 0, none⟩) k c') k (ints (farL (edgesOf xs) k T to)) := by
            have e : s = k := by omega
            rw [e] at hown2; exact hown2
          have HFC : Hid (∀ u, u < k → -1 ≤ (farL (edgesOf xs) k T to).getD u 0 ∧ (farL (edgesOf xs) k T to).getD u 0 ≤ (k : Int) + 1 ∧ ∀ dd : Nat, (farL (edgesOf xs) k T to).getD u 0 = (dd : Int) ↔ isDist (edgesOf xs) T to dd u) := fun u hu => far_char hto HR.out hu
          have HDX : Hid (∀ u dd, u < k → isDist (edgesOf xs) T to (dd + 1) u → ∃ i, T.find? (downB (edgesOf xs) (farL (edgesOf xs) k T to) u) = some i) := fun u dd hu hd => find_ex (down_ex hto HR.out hu hd)
          have HDT : Hid (∀ u dd i, u < k → isDist (edgesOf xs) T to (dd + 1) u → i ∈ T → downB (edgesOf xs) (farL (edgesOf xs) k T to) u i = true → (eA (edgesOf xs) i = u ∨ eB (edgesOf xs) i = u) ∧ stepTo (edgesOf xs) u i < k ∧ isDist (edgesOf xs) T to dd (stepTo (edgesOf xs) u i)) := fun u dd i hu hd hi hb => down_t hto HR.out hu hd hi hb
          obtain ⟨D, hD⟩ : ∃ D, isDist (edgesOf xs) T to D fr := by
            obtain ⟨nn, h1⟩ := wlk_of_conn HCO.out
            obtain ⟨D, _, h2⟩ := dist_exists nn h1
            exact ⟨D, h2⟩
          have hDk : D < k := dist_lt hto HR.out hD
          have hDf := ((HFC.out fr hfr).2.2 D).2 hD
          have HBK : Hid (walkL (edgesOf xs) T (farL (edgesOf xs) k T to) to D fr = backL (edgesOf xs) k T fr to) := show _ = _ by unfold backL; rw [hDf, Int.toNat_natCast]
          have HIS := Lib.hid hD
          obtain ⟨_, _, cfr, _, _⟩ := own_i hown4 hfr
          rw [hDf] at cfr
          have hfrI : (fr : Int) < (k : Int) := by omega
          have hDp : ¬ (D : Int) < 0 := by omega
          generalize hFF : farL (edgesOf xs) k T to = F at *
          have HOF := Lib.hid hown4
          have hzl := hbq.size
          clear hown2 hown4 hD hDf hFF gf
          go_wp2
          go_loopw [15, 16] (fun o i wq => ∃ (A2 : Option Addr) (c2 at_ rem : Nat) (out : List Int), o = .slice A2 out.length c2 ∧ i = .int .i64 at_ ∧ at_ < k ∧ Hid (isDist (edgesOf xs) T to rem at_) ∧ Hid (out ++ walkL (edgesOf xs) T F to rem at_ = backL (edgesOf xs) k T fr to) ∧ Hid (out.length + rem = D) ∧
            wq.ownsRow wl.heap.size 2 1 (.slice A2 out.length c2) out.length (ints out) ∧ Below wl.heap.size wl wq) (fun o i _ => D - lenV o)
          case atStart => exact ⟨_, 0, fr, D, [], rfl, rfl, hfr, HIS, HBK, (show _ = _ by simp), own_empty _ _ _, by (repeat (first | exact Below.refl _ _ | assumption | (refine Below.alloc ?_ (by first | exact Nat.le_refl _ | (simp; done) | (simp; omega)) _) | (refine below_drewN ?_ _) | (refine Below.trans ?_ (Below.mono (by assumption) (by first | exact Nat.le_refl _ | (simp; done) | (simp; omega) | omega)))))⟩
          case round =>
            obtain ⟨A2, c2, at_, rem, out, rfl, rfl, hat, HID, HWK, HLN, ho, hbo⟩ := hrel
            obtain ⟨wk, rfl⟩ : ∃ wk : World, wk = wr := ⟨_, rfl⟩
            clear cfr
            by_cases hne : at_ = to
            · have hne1 : ((at_ : Int) != (to : Int)) = false := by rw [hne]; simp
              have HOO := Lib.hid ho
              have HAT := Lib.hid hne
              clear ho hne
              go_wp2
              go_ret2
              have h0 : walkL (edgesOf xs) T F to rem at_ = [] := by
                cases rem with
                | zero => rfl
                | succ r => simp only [walkL]; rw [if_pos HAT.out]
              have h1 := HWK.out
              rw [h0, List.append_nil] at h1
              rw [← h1]
              exact ⟨A2, _, c2, rfl, own_base HOO.out (by omega), by have := HLN.out; omega, hbq.trans (hbo.mono hzl)⟩
            · have hne1 : ((at_ : Int) != (to : Int)) = true := by
                rw [bne_iff_ne]; omega
              obtain ⟨r, rfl⟩ : ∃ r, rem = r + 1 := by
                cases rem with
                | zero => exact absurd (dist_zero.1 HID.out) hne
                | succ r => exact ⟨r, rfl⟩
              obtain ⟨i, hfi⟩ := HDX.out at_ r hat HID.out
              have HST := Lib.hid (walk_step (r := r) hne hfi)
              obtain ⟨qi, hqi, hdi, hbef⟩ := find_split hfi
              have HQI := Lib.hid hqi
              have HDI := Lib.hid hdi
              have HBEF := Lib.hid hbef
              have hqn : qi < n := by rw [← HLT.out]; exact (List.getElem?_eq_some_iff.1 hqi).1
              have HLO := Lib.hid ho
              clear hfi hqi hdi hbef hne
              go_wp2
              go_loopw [15, 16, 17] (fun o u i wq => ∃ (q nq : Nat), q ≤ qi ∧ o = .slice A2 out.length c2 ∧ u = .int .i64 at_ ∧ i = .int .i64 q ∧ wq = wk.drewN nq) (fun _ _ i _ => qi - (intOf i).toNat)
              case atStart => exact ⟨0, 0, by omega, rfl, rfl, rfl, rfl⟩
              case round =>
                obtain ⟨q, nq, hq, rfl, rfl, rfl, rfl⟩ := hrel
                have hqn2 : q < n := by omega
                have hqI : (q : Int) < (n : Int) := by omega
                have g1 : wk.cell? ⟨p.block, p.off + 1, none⟩ = some (.slice M m d) := (hbo.cell (p := ⟨p.block, p.off + 1, none⟩) (by show p.block < _; omega)).trans ((hbq.cell (p := ⟨p.block, p.off + 1, none⟩) hpl1).trans hp1)
                obtain ⟨t, htq⟩ : ∃ t, T[q]? = some t := ⟨_, List.getElem?_eq_getElem (by rw [HLT.out]; exact hqn2)⟩
                have htT := List.mem_of_getElem? htq
                have htl := HTl.out t htT
                have hbw : Below w.heap.size w wk := hbq.trans (hbo.mono hzl)
                obtain ⟨td, rfl, htd, _, hct⟩ := (hT.below hbw).int_at (nI_at htq)
                obtain ⟨ad, x, rfl, had, hx, hc⟩ := (hm.below hbw).rec_at Awy.clen (by omega) (k := t) (by rw [← HLm.out]; exact htl)
                obtain ⟨ea, eb, ha, hb⟩ := edge_ok HOK.out hx
                obtain ⟨a0, a1, a2, a3, a4, a5, a6⟩ := Awy.open_ hc
                rw [Int.toNat_natCast] at ha hb
                rw [ea] at a1
                rw [eb] at a2
                have htm : t < m := by rw [← HLm.out]; exact htl
                obtain ⟨_, _, ca, _, _⟩ := own_i (own_below HOF.out hbo) ha
                obtain ⟨_, _, cb, _, _⟩ := own_i (own_below HOF.out hbo) hb
                obtain ⟨_, _, cat, _, _⟩ := own_i (own_below HOF.out hbo) hat
                obtain ⟨rf, hrf⟩ : ∃ rf : Int, rf = ((r + 1 : Nat) : Int) := ⟨_, rfl⟩
                have hr16 : r < 16 := by have := HLN.out; omega
                have hol : out.length ≤ 16 := by have := HLN.out; omega
                have fat := ((HFC.out at_ hat).2.2 (r + 1)).2 HID.out
                rw [← hrf] at fat
                have hrf1 : 1 ≤ rf := by omega
                have hrf2 : rf ≤ 16 := by omega
                clear hrf
                rw [fat] at cat
                have fab := (HFC.out _ ha)
                have fbb := (HFC.out _ hb)
                have hDB : Hid (downB (edgesOf xs) F at_ t = ((eA (edgesOf xs) t == at_ && (F.getD (eB (edgesOf xs) t) 0 == rf - 1)) || (eB (edgesOf xs) t == at_ && (F.getD (eA (edgesOf xs) t) 0 == rf - 1)))) := show _ = _ by unfold downB; rw [fat]
                have HSN : Hid (stepN (edgesOf xs) at_ t = if eA (edgesOf xs) t = at_ then (t : Int) + 1 else -(t : Int) - 1) := rfl
                have HSO : Hid (stepTo (edgesOf xs) at_ t = if eA (edgesOf xs) t = at_ then eB (edgesOf xs) t else eA (edgesOf xs) t) := rfl
                have HFA : Hid (eA (edgesOf xs) t = at_ → F.getD (eA (edgesOf xs) t) 0 = rf) := fun h => by rw [h]; exact fat
                have HTQ := Lib.hid htq
                have HTT := Lib.hid htT
                have hwf : IntKind.i64.wrap (rf - 1) = rf - 1 := IntWalk.i64_in _ (by omega)
                have hwt : IntKind.i64.wrap ((t : Int) + 1) = (t : Int) + 1 := IntWalk.i64_in _ (by omega)
                have hwn : IntKind.i64.wrap (-(t : Int)) = -(t : Int) := IntWalk.i64_in _ (by omega)
                have hwm : IntKind.i64.wrap (-(t : Int) - 1) = -(t : Int) - 1 := IntWalk.i64_in _ (by omega)
                have HT2 : Hid (q = qi → isDist (edgesOf xs) T to r (stepTo (edgesOf xs) at_ t) ∧ stepTo (edgesOf xs) at_ t < k) := fun e => by
                  have h1 : t ∈ T := htT
                  have h2 := HQI.out
                  rw [← e, htq] at h2
                  injection h2 with h2
                  have h3 := HDT.out at_ r t hat HID.out htT (by rw [h2]; exact HDI.out)
                  exact ⟨h3.2.2, h3.2.1⟩
                have HNB : Hid (q < qi → downB (edgesOf xs) F at_ t = false) := fun h => HBEF.out q t h htq
                have HYB : Hid (q = qi → downB (edgesOf xs) F at_ t = true) := fun e => by
                  have h2 := HQI.out
                  rw [← e, htq] at h2
                  injection h2 with h2
                  rw [h2]; exact HDI.out
                have HTI : Hid (q = qi → out ++ [stepN (edgesOf xs) at_ t] ++ walkL (edgesOf xs) T F to r (stepTo (edgesOf xs) at_ t) = backL (edgesOf xs) k T fr to) := fun e => by
                  have h2 := HQI.out
                  rw [← e, htq] at h2
                  injection h2 with h2
                  rw [← HWK.out, HST.out, ← h2, List.append_assoc]; rfl
                generalize hSN : stepN (edgesOf xs) at_ t = sn at *
                generalize hSO : stepTo (edgesOf xs) at_ t = so at *
                generalize hEA : eA (edgesOf xs) t = ua at *
                generalize hEB : eB (edgesOf xs) t = ub at *
                generalize hX : F.getD ua 0 = X at *
                generalize hY : F.getD ub 0 = Y at *
                generalize hDD : downB (edgesOf xs) F at_ t = db at *
                have htI : (t : Int) < (m : Int) := by omega
                have haI : (ua : Int) < (k : Int) := by omega
                have hbI : (ub : Int) < (k : Int) := by omega
                have hatI : (at_ : Int) < (k : Int) := by omega
                have HLO2 := Lib.hid (own_drew HLO.out)
                clear hx hc htq htl ea eb a0 a3 a4 a5 a6 hSN hSO hEA hEB hX hY hDD fat fab fbb htT ho
                by_cases hqq : q = qi
                · have hdt := HYB.out hqq
                  have hD2 := hDB.out
                  rw [hdt] at hD2
                  have hRT := HT2.out hqq
                  have hTI := HTI.out hqq
                  by_cases hua : ua = at_
                  · have hAA := HFA.out hua
                    have he1 : ((ua : Int) == (at_ : Int)) = true := by rw [hua]; exact beq_self_eq_true _
                    have he2 : (Y == rf - 1) = true := by
                      have hx : (X == rf - 1) = false := beq_eq_false_iff_ne.2 (by omega)
                      rw [hx, Bool.and_false, Bool.or_false] at hD2
                      simpa using (Bool.and_eq_true_iff.1 hD2.symm).2
                    have hsn := HSN.out; rw [if_pos hua] at hsn
                    have hso := HSO.out; rw [if_pos hua] at hso
                    rw [hso] at hRT hTI; rw [hsn] at hTI
                    have HRT := Lib.hid hRT; have HTX := Lib.hid hTI
                    clear hDB HSN HSO HFA HT2 HNB HYB HTI hRT hTI hso hsn hdt hD2 hqq hAA hua
                    go_wp2
                    go_quiet (fail)
                    go_wp2
                    go_quiet (fail)
                    go_wp2_with (at_builtin; (refine wpList_app _ rfl _ _ 25 rfl wl.heap.size 2 i0 _ 1 8 Tryz.underlying25 hi0 hz0 hz1 hz2 rfl (by omega) A2 _ c2 _ rfl (((own_drew HLO.out _)).alloc _) ⟨_, 0, none⟩ 1 1 [.int .i64 ((t : Int) + 1)] rfl rfl (cell_one_at (by simp) _ _) (by simp [Value.oneCell']) (by unfold maxLen; omega) (by omega) (by have hz := (hbo).size; simp at hz ⊢; omega) ?_); intro A3 c3 w2 ho2 hb2; have hb6 : Below wl.heap.size wk w2 := ((below_drewN (Below.refl wl.heap.size wk) _).alloc (by have hz := hbo.size; simp; omega) _).trans hb2; have a2w := (hb6.cell (by rw [block_of_add]; omega)).trans a2; have HO2 := Lib.hid ho2; clear ho2)
                    go_wp2
                    go_roundw
                    case rel => exact ⟨A3, c3, ub, r, out ++ [(t : Int) + 1], by rw [List.length_append]; rfl, by go_num, hb, HRT.out.1, HTX.out, (show _ = _ by have := HLN.out; rw [List.length_append, List.length_singleton]; omega), by rw [List.length_append, List.length_singleton]; simpa [ints] using HO2.out, hbo.trans (hb6.mono (Nat.le_refl _))⟩
                    case measure => have := HLN.out; simp [lenV]; omega
                  · have he1 : ((ua : Int) == (at_ : Int)) = false := beq_eq_false_iff_ne.2 (by omega)
                    have hn1 : (ua == at_) = false := beq_eq_false_iff_ne.2 hua
                    rw [hn1, Bool.false_and, Bool.false_or] at hD2
                    have hD3 := Bool.and_eq_true_iff.1 hD2.symm
                    have he2 : ((ub : Int) == (at_ : Int)) = true := by rw [eq_of_beq hD3.1]; exact beq_self_eq_true _
                    have he3 : (X == rf - 1) = true := hD3.2
                    have hsn := HSN.out; rw [if_neg hua] at hsn
                    have hso := HSO.out; rw [if_neg hua] at hso
                    rw [hso] at hRT hTI; rw [hsn] at hTI
                    have HRT := Lib.hid hRT; have HTX := Lib.hid hTI
                    clear hDB HSN HSO HFA HT2 HNB HYB HTI hRT hTI hso hsn hdt hD2 hqq hua hn1 hD3
                    go_wp2
                    go_quiet (fail)
                    go_wp2
                    go_quiet (fail)
                    go_wp2
                    go_quiet (fail)
                    go_wp2_with (at_builtin; (refine wpList_app _ rfl _ _ 25 rfl wl.heap.size 2 i0 _ 1 8 Tryz.underlying25 hi0 hz0 hz1 hz2 rfl (by omega) A2 _ c2 _ rfl (((own_drew HLO.out _)).alloc _) ⟨_, 0, none⟩ 1 1 [.int .i64 (-(t : Int) - 1)] rfl rfl (cell_one_at (by simp) _ _) (by simp [Value.oneCell']) (by unfold maxLen; omega) (by omega) (by have hz := (hbo).size; simp at hz ⊢; omega) ?_); intro A3 c3 w2 ho2 hb2; have hb6 : Below wl.heap.size wk w2 := ((below_drewN (Below.refl wl.heap.size wk) _).alloc (by have hz := hbo.size; simp; omega) _).trans hb2; have a1w := (hb6.cell (by rw [block_of_add]; omega)).trans a1; have HO2 := Lib.hid ho2; clear ho2)
                    go_wp2
                    go_roundw
                    case rel => exact ⟨A3, c3, ua, r, out ++ [-(t : Int) - 1], by rw [List.length_append]; rfl, by go_num, ha, HRT.out.1, HTX.out, (show _ = _ by have := HLN.out; rw [List.length_append, List.length_singleton]; omega), by rw [List.length_append, List.length_singleton]; simpa [ints] using HO2.out, hbo.trans (hb6.mono (Nat.le_refl _))⟩
                    case measure => have := HLN.out; simp [lenV]; omega
                · have hqlt : q < qi := by omega
                  have hdt := HNB.out hqlt
                  have hD2 := hDB.out
                  rw [hdt] at hD2
                  have hD3 := Bool.or_eq_false_iff.1 hD2.symm
                  have hAA := HFA.out
                  clear hDB HSN HSO HFA HT2 HNB HYB HTI hdt hD2 hqq
                  by_cases hua : ua = at_
                  · have hX := hAA hua
                    have he1 : ((ua : Int) == (at_ : Int)) = true := by rw [hua]; exact beq_self_eq_true _
                    have he2 : (Y == rf - 1) = false := by have h1 := hD3.1; rw [hua, beq_self_eq_true, Bool.true_and] at h1; exact h1
                    have he3 : (X == rf - 1) = false := beq_eq_false_iff_ne.2 (by omega)
                    by_cases hub : ub = at_
                    · have he4 : ((ub : Int) == (at_ : Int)) = true := by rw [hub]; exact beq_self_eq_true _
                      clear hua hub hX
                      clear hAA hD3
                      go_wp2
                      go_quiet (fail)
                      go_wp2
                      go_quiet (fail)
                      go_wp2
                      go_quiet (fail)
                      go_wp2
                      go_roundw
                      case rel => exact ⟨q + 1, _, by omega, rfl, rfl, by go_num, rfl⟩
                      case measure => simp [intOf]; omega
                    · have he4 : ((ub : Int) == (at_ : Int)) = false := beq_eq_false_iff_ne.2 (by omega)
                      clear hua hub hX
                      clear hAA hD3
                      go_wp2
                      go_quiet (fail)
                      go_wp2
                      go_quiet (fail)
                      go_wp2
                      go_quiet (fail)
                      go_wp2
                      go_roundw
                      case rel => exact ⟨q + 1, _, by omega, rfl, rfl, by go_num, rfl⟩
                      case measure => simp [intOf]; omega
                  · have he1 : ((ua : Int) == (at_ : Int)) = false := beq_eq_false_iff_ne.2 (by omega)
                    by_cases hub : ub = at_
                    · have he4 : ((ub : Int) == (at_ : Int)) = true := by rw [hub]; exact beq_self_eq_true _
                      have he3 : (X == rf - 1) = false := by have h1 := hD3.2; rw [hub, beq_self_eq_true, Bool.true_and] at h1; exact h1
                      clear hua hub
                      clear hAA hD3
                      go_wp2
                      go_quiet (fail)
                      go_wp2
                      go_quiet (fail)
                      go_wp2
                      go_quiet (fail)
                      go_wp2
                      go_roundw
                      case rel => exact ⟨q + 1, _, by omega, rfl, rfl, by go_num, rfl⟩
                      case measure => simp [intOf]; omega
                    · have he4 : ((ub : Int) == (at_ : Int)) = false := beq_eq_false_iff_ne.2 (by omega)
                      clear hua hub
                      clear hAA hD3
                      go_wp2
                      go_quiet (fail)
                      go_wp2
                      go_quiet (fail)
                      go_wp2
                      go_quiet (fail)
                      go_wp2
                      go_roundw
                      case rel => exact ⟨q + 1, _, by omega, rfl, rfl, by go_num, rfl⟩
                      case measure => simp [intOf]; omega
end Go.Proofs.YtjmhhbjbmgpagaaGreat

/- Junctions that are reached, one behind the other; the distances found on the way. Plain laws. -/
namespace Go.Proofs.YtjmhhbjbmgpagaaGreat
set_option linter.unusedVariables false
set_option linter.unusedSimpArgs false
/-- An airway leads from u to v. -/
def Lead (E : Edges) (i u v : Nat) : Prop := (eA E i = u ∧ eB E i = v) ∨ (eB E i = u ∧ eA E i = v)
/-- Does an airway end at u? -/
def endB (E : Edges) (i u : Nat) : Bool := eA E i == u || eB E i == u
theorem lead_to {E : Edges} {i u : Nat} (h : endB E i u = true) : Lead E i u (stepTo E u i) := by
  unfold endB at h
  simp only [Bool.or_eq_true, beq_iff_eq] at h
  unfold stepTo
  by_cases h1 : eA E i = u
  · rw [if_pos h1]; exact .inl ⟨h1, rfl⟩
  · rw [if_neg h1]
    rcases h with h | h
    · exact absurd h h1
    · exact .inr ⟨h, rfl⟩
theorem lead_end {E : Edges} {i u v : Nat} (h : Lead E i u v) : endB E i u = true := by
  unfold endB
  rcases h with ⟨h, _⟩ | ⟨h, _⟩
  · rw [h]; simp
  · rw [h]; simp
theorem lead_one {E : Edges} {i u v : Nat} (hne : eA E i ≠ eB E i) (h : Lead E i u v) : v = stepTo E u i := by
  unfold stepTo
  rcases h with ⟨h1, h2⟩ | ⟨h1, h2⟩
  · rw [if_pos h1]; exact h2.symm
  · rw [if_neg (by omega)]; exact h2.symm
theorem Lead.conn {E : Edges} {T : List Nat} {i u v x : Nat} (h : Lead E i u v) (hi : i ∈ T) (hc : Conn E T x u) : Conn E T x v := by
  rcases h with ⟨rfl, rfl⟩ | ⟨rfl, rfl⟩
  · exact hc.fwd hi
  · exact hc.bwd hi
theorem Lead.wlk {E : Edges} {T : List Nat} {i u v to n : Nat} (h : Lead E i u v) (hi : i ∈ T) (hc : Wlk E T to n u) : Wlk E T to (n + 1) v := by
  rcases h with ⟨rfl, rfl⟩ | ⟨rfl, rfl⟩
  · exact hc.fwd hi
  · exact hc.bwd hi
theorem Lead.lt {E : Edges} {T : List Nat} {J i u v : Nat} (h : Lead E i u v) (hr : ∀ i ∈ T, eA E i < J ∧ eB E i < J) (hi : i ∈ T) : v < J := by
  rcases h with ⟨rfl, rfl⟩ | ⟨rfl, rfl⟩
  · exact (hr i hi).2
  · exact (hr i hi).1
/-- The airways among R lead from u to junctions of V alone. -/
def Shut (E : Edges) (R : List Nat) (V : List Nat) (u : Nat) : Prop := ∀ i ∈ R, ∀ v, Lead E i u v → v ∈ V
/-- Junctions reached from fr, in order; those before place k are done with, and at place k the first q airways. -/
structure Rch (E : Edges) (J : Nat) (T : List Nat) (fr k q : Nat) (V : List Nat) : Prop where
  nodup : V.Nodup
  first : fr ∈ V
  lt : ∀ v ∈ V, v < J
  conn : ∀ v ∈ V, Conn E T fr v
  shut : ∀ j u, j < k → V[j]? = some u → Shut E T V u
  part : ∀ u, V[k]? = some u → Shut E (T.take q) V u
section
variable {E : Edges} {J : Nat} {T V : List Nat} {fr k q i u v : Nat}
theorem rch_start (h : fr < J) : Rch E J T fr 0 0 [fr] :=
  ⟨by simp, by simp, fun v hv => by rw [List.mem_singleton] at hv; omega, fun v hv => by rw [List.mem_singleton] at hv; subst hv; exact .refl, fun j u hj => absurd hj (Nat.not_lt_zero _), fun u hu i hi => by simp at hi⟩
theorem shut_snoc (h : Shut E T V u) (x : Nat) : Shut E T (V ++ [x]) u := fun i hi v hv => List.mem_append_left _ (h i hi v hv)
theorem take_mem (hi : T[q]? = some i) {j : Nat} (hj : j ∈ T.take (q + 1)) : j ∈ T.take q ∨ j = i := by
  rw [List.take_add_one, hi] at hj
  rcases List.mem_append.1 hj with h | h
  · exact .inl h
  · exact .inr (by simpa using h)
theorem rch_skip (h : Rch E J T fr k q V) (hu : V[k]? = some u) (hi : T[q]? = some i) (hs : ∀ v, Lead E i u v → v ∈ V) : Rch E J T fr k (q + 1) V := by
  refine ⟨h.nodup, h.first, h.lt, h.conn, h.shut, fun u' hu' j hj v hv => ?_⟩
  rw [hu] at hu'
  injection hu' with hu'
  subst hu'
  rcases take_mem hi hj with h1 | rfl
  · exact h.part _ hu j h1 v hv
  · exact hs v hv
theorem rch_add (h : Rch E J T fr k q V) (hu : V[k]? = some u) (hi : T[q]? = some i) (hne : eA E i ≠ eB E i) (hr : ∀ i ∈ T, eA E i < J ∧ eB E i < J) (hl : Lead E i u v) (hv : v ∉ V) : Rch E J T fr k (q + 1) (V ++ [v]) := by
  have hk : k < V.length := (List.getElem?_eq_some_iff.1 hu).1
  have hiT := List.mem_of_getElem? hi
  have hold : ∀ j x, j ≤ k → (V ++ [v])[j]? = some x → V[j]? = some x := fun j x hj hx => by rwa [List.getElem?_append_left (by omega)] at hx
  refine ⟨List.nodup_append.2 ⟨h.nodup, by simp, fun a ha b hb => ?_⟩, List.mem_append_left _ h.first, fun x hx => ?_, fun x hx => ?_, fun j x hj hx => shut_snoc (h.shut j x hj (hold j x (Nat.le_of_lt hj) hx)) v, fun x hx j hj y hy => ?_⟩
  · rw [List.mem_singleton] at hb; subst hb; rintro rfl; exact hv ha
  · rcases List.mem_append.1 hx with h1 | h1
    · exact h.lt x h1
    · rw [List.mem_singleton] at h1; subst h1; exact hl.lt hr hiT
  · rcases List.mem_append.1 hx with h1 | h1
    · exact h.conn x h1
    · rw [List.mem_singleton] at h1; subst h1; exact hl.conn hiT (h.conn u (List.mem_of_getElem? hu))
  · have hx' := hold k x (Nat.le_refl _) hx
    rw [hu] at hx'
    injection hx' with hx'
    subst hx'
    rcases take_mem hi hj with h1 | rfl
    · exact List.mem_append_left _ (h.part _ hu j h1 y hy)
    · rw [lead_one hne hy, ← lead_one hne hl]; exact List.mem_append_right _ (List.mem_singleton.2 rfl)
theorem rch_next (h : Rch E J T fr k q V) (hq : T.length ≤ q) : Rch E J T fr (k + 1) 0 V := by
  refine ⟨h.nodup, h.first, h.lt, h.conn, fun j u hj hu => ?_, fun u hu i hi => by simp at hi⟩
  rcases Nat.lt_or_ge j k with h1 | h1
  · exact h.shut j u h1 hu
  · obtain rfl : j = k := by omega
    have := h.part u hu
    rwa [List.take_of_length_le hq] at this
theorem rch_len (h : Rch E J T fr k q V) : V.length ≤ J := nodup_le J V h.nodup h.lt
theorem rch_end (h : Rch E J T fr k q V) (hk : V.length ≤ k) (v : Nat) : v ∈ V ↔ Conn E T fr v := by
  have step : ∀ u i v, u ∈ V → i ∈ T → Lead E i u v → v ∈ V := fun u i v hu hi hl => by
    obtain ⟨j, hj⟩ := List.getElem?_of_mem hu
    have := (List.getElem?_eq_some_iff.1 hj).1
    exact h.shut j u (by omega) hj i hi v hl
  refine ⟨h.conn v, fun hc => ?_⟩
  induction hc with
  | refl => exact h.first
  | fwd _ hi ih => exact step _ _ _ ih hi (.inl ⟨rfl, rfl⟩)
  | bwd _ hi ih => exact step _ _ _ ih hi (.inr ⟨rfl, rfl⟩)
end
/-- Junctions with their distances, as they were found. -/
structure Bfs (E : Edges) (J : Nat) (T : List Nat) (to k q : Nat) (V : List (Nat × Nat)) : Prop where
  rch : Rch E J T to k q (V.map (·.1))
  dist : ∀ p ∈ V, isDist E T to p.2 p.1
  mono : ∀ (i j : Nat) (p r : Nat × Nat), i ≤ j → V[i]? = some p → V[j]? = some r → p.2 ≤ r.2
  near : ∀ p : Nat × Nat, V[k]? = some p → ∀ r ∈ V, r.2 ≤ p.2 + 1
section
variable {E : Edges} {J : Nat} {T : List Nat} {V : List (Nat × Nat)} {to k q i v d : Nat} {p : Nat × Nat}
theorem map_at (h : V[k]? = some p) : (V.map (·.1))[k]? = some p.1 := by rw [List.getElem?_map, h]; rfl
theorem bfs_start (h : to < J) : Bfs E J T to 0 0 [(to, 0)] := by
  refine ⟨rch_start h, fun p hp => ?_, fun i j p r hij hi hj => ?_, fun p hp r hr => ?_⟩
  · rw [List.mem_singleton] at hp; subst hp; exact dist_zero.2 rfl
  · have h1 := List.mem_of_getElem? hi
    rw [List.mem_singleton] at h1; subst h1; exact Nat.zero_le _
  · rw [List.mem_singleton] at hr; subst hr; exact Nat.zero_le _
theorem bfs_skip (h : Bfs E J T to k q V) (hp : V[k]? = some p) (hi : T[q]? = some i) (hs : ∀ v, Lead E i p.1 v → v ∈ V.map (·.1)) : Bfs E J T to k (q + 1) V :=
  ⟨rch_skip h.rch (map_at hp) hi hs, h.dist, h.mono, h.near⟩
/-- Every junction that is no farther than the one at hand has been found. -/
theorem bfs_known (h : Bfs E J T to k q V) (hp : V[k]? = some p) : ∀ m x, m ≤ p.2 → isDist E T to m x → x ∈ V.map (·.1)
  | 0, x, _, hd => by rw [dist_zero.1 hd]; exact h.rch.first
  | m + 1, x, hm, hd => by
    obtain ⟨i, hi, y, hy, he⟩ := dist_pred hd
    have hyV := bfs_known h hp m y (by omega) hy
    obtain ⟨r, hr, hry⟩ := List.mem_map.1 hyV
    obtain ⟨j, hj⟩ := List.getElem?_of_mem hr
    have hrd := h.dist r hr
    rw [hry] at hrd
    have e := dist_unique hrd hy
    have hjk : j < k := by
      rcases Nat.lt_or_ge j k with h1 | h1
      · exact h1
      · have := h.mono k j p r h1 hp hj; omega
    have := h.rch.shut j r.1 hjk (map_at hj) i hi x
    rw [hry] at this
    refine this ?_
    rcases he with ⟨rfl, rfl⟩ | ⟨rfl, rfl⟩
    · exact .inl ⟨rfl, rfl⟩
    · exact .inr ⟨rfl, rfl⟩
theorem bfs_add (h : Bfs E J T to k q V) (hp : V[k]? = some p) (hi : T[q]? = some i) (hne : eA E i ≠ eB E i) (hr : ∀ i ∈ T, eA E i < J ∧ eB E i < J) (hl : Lead E i p.1 v) (hv : v ∉ V.map (·.1)) : Bfs E J T to k (q + 1) (V ++ [(v, p.2 + 1)]) := by
  have hk : k < V.length := (List.getElem?_eq_some_iff.1 hp).1
  have hiT := List.mem_of_getElem? hi
  have hnear := h.near p hp
  refine ⟨by rw [List.map_append]; exact rch_add h.rch (map_at hp) hi hne hr hl hv, fun r hr => ?_, fun a b r s hab ha hb => ?_, fun r hr s hs => ?_⟩
  · rcases List.mem_append.1 hr with h1 | h1
    · exact h.dist r h1
    · rw [List.mem_singleton] at h1; subst h1
      refine ⟨hl.wlk hiT (h.dist p (List.mem_of_getElem? hp)).1, fun m hm hw => ?_⟩
      obtain ⟨m', hm', hd⟩ := dist_exists _ hw
      exact hv (bfs_known h hp m' v (by simp only at hm; omega) hd)
  · rw [List.getElem?_append] at ha hb
    split at ha
    · split at hb
      · exact h.mono a b r s hab ha hb
      · have h1 := List.mem_of_getElem? hb
        rw [List.mem_singleton] at h1; subst h1
        exact hnear r (List.mem_of_getElem? ha)
    · have h1 := List.mem_of_getElem? ha
      rw [List.mem_singleton] at h1
      rw [if_neg (by omega)] at hb
      have h2 := List.mem_of_getElem? hb
      rw [List.mem_singleton] at h2
      rw [h1, h2]; exact Nat.le_refl _
  · rw [List.getElem?_append_left hk, hp] at hr
    injection hr with hr
    subst hr
    rcases List.mem_append.1 hs with h1 | h1
    · exact hnear s h1
    · rw [List.mem_singleton] at h1; subst h1; exact Nat.le_refl _
theorem bfs_next (h : Bfs E J T to k q V) (hk : k < V.length) (hq : T.length ≤ q) : Bfs E J T to (k + 1) 0 V := by
  refine ⟨rch_next h.rch hq, h.dist, h.mono, fun p hp r hr => ?_⟩
  have h0 := List.getElem?_eq_getElem hk
  have h1 := h.near _ h0 r hr
  have h2 := h.mono k (k + 1) _ p (by omega) h0 hp
  omega
theorem bfs_len (h : Bfs E J T to k q V) : V.length ≤ J := by have := rch_len h.rch; rwa [List.length_map] at this
theorem bfs_end (h : Bfs E J T to k q V) (hk : V.length ≤ k) {v : Nat} (hc : Conn E T to v) : ∃ d, (v, d) ∈ V ∧ isDist E T to d v := by
  have := (rch_end h.rch (by rw [List.length_map]; exact hk) v).2 hc
  obtain ⟨p, hp, rfl⟩ := List.mem_map.1 this
  exact ⟨p.2, hp, h.dist p hp⟩
end
end Go.Proofs.YtjmhhbjbmgpagaaGreat

/- Contracts of the junctions reached and of the tree, the program's. -/
namespace Go.Proofs.YtjmhhbjbmgpagaaGreat
set_option linter.unusedVariables false
set_option linter.unusedSimpArgs false
open Go.RowKit
def othI (a b u : Int) : Int := if u = a then b else if u = b then a else 0
def othB (a b u : Int) : Bool := (u == a) || (u == b)
theorem other_any (s : ByteArray) (a b l c f h u : Int) (w : World) :
    Calls Tryz.prog 105 #[.agg #[.string s, .int .i64 a, .int .i64 b, .int .i64 l, .int .i64 c, .int .i64 f, .int .i64 h], .int .i64 u] w fun e w' => e = .returned (.tuple #[.int .i64 (othI a b u), .bool (othB a b u)]) ∧ Below w.heap.size w w' := by
  by_cases h1 : u = a
  · have H : Hid (othI a b u = b ∧ othB a b u = true) := ⟨if_pos h1, by unfold othB; rw [h1]; simp⟩
    have e1 : (u == a) = true := by rw [h1]; exact beq_self_eq_true _
    clear h1
    go_enter Tryz.func105, Tryz.ntmps105
    go_wp2
    go_ret2
    exact ⟨by rw [H.out.1, H.out.2]; rfl, by (repeat (first | exact Below.refl _ _ | assumption | (refine Below.alloc ?_ (by first | exact Nat.le_refl _ | (simp; done) | (simp; omega)) _) | (refine below_drewN ?_ _) | (refine Below.trans ?_ (Below.mono (by assumption) (by first | exact Nat.le_refl _ | (simp; done) | (simp; omega) | omega)))))⟩
  · have e1 : (u == a) = false := beq_eq_false_iff_ne.2 h1
    by_cases h2 : u = b
    · have H : Hid (othI a b u = a ∧ othB a b u = true) := ⟨by unfold othI; rw [if_neg h1, if_pos h2], by unfold othB; rw [h2]; simp⟩
      have e2 : (u == b) = true := by rw [h2]; exact beq_self_eq_true _
      clear h1 h2
      go_enter Tryz.func105, Tryz.ntmps105
      go_wp2
      go_ret2
      exact ⟨by rw [H.out.1, H.out.2]; rfl, by (repeat (first | exact Below.refl _ _ | assumption | (refine Below.alloc ?_ (by first | exact Nat.le_refl _ | (simp; done) | (simp; omega)) _) | (refine below_drewN ?_ _) | (refine Below.trans ?_ (Below.mono (by assumption) (by first | exact Nat.le_refl _ | (simp; done) | (simp; omega) | omega)))))⟩
    · have e2 : (u == b) = false := beq_eq_false_iff_ne.2 h2
      have H : Hid (othI a b u = 0 ∧ othB a b u = false) := ⟨by unfold othI; rw [if_neg h1, if_neg h2], by unfold othB; rw [e1, e2]; rfl⟩
      clear h1 h2
      go_enter Tryz.func105, Tryz.ntmps105
      go_wp2
      go_ret2
      exact ⟨by rw [H.out.1, H.out.2]; rfl, by (repeat (first | exact Below.refl _ _ | assumption | (refine Below.alloc ?_ (by first | exact Nat.le_refl _ | (simp; done) | (simp; omega)) _) | (refine below_drewN ?_ _) | (refine Below.trans ?_ (Below.mono (by assumption) (by first | exact Nat.le_refl _ | (simp; done) | (simp; omega) | omega)))))⟩
theorem oth_y {E : Edges} {t u : Nat} (h : endB E t u = true) : othI (eA E t : Nat) (eB E t : Nat) (u : Nat) = (stepTo E u t : Nat) ∧ othB (eA E t : Nat) (eB E t : Nat) (u : Nat) = true := by
  unfold endB at h
  simp only [Bool.or_eq_true, beq_iff_eq] at h
  unfold othI othB stepTo
  by_cases h1 : eA E t = u
  · rw [if_pos (by omega), if_pos h1, h1]; simp
  · have h2 : eB E t = u := by rcases h with h | h; exact absurd h h1; exact h
    rw [if_neg (by omega), if_pos (by omega), if_neg h1, h2]; simp
theorem oth_n {E : Edges} {t u : Nat} (h : endB E t u = false) : othI (eA E t : Nat) (eB E t : Nat) (u : Nat) = 0 ∧ othB (eA E t : Nat) (eB E t : Nat) (u : Nat) = false := by
  unfold endB at h
  rw [Bool.or_eq_false_iff] at h
  have h1 := beq_eq_false_iff_ne.1 h.1
  have h2 := beq_eq_false_iff_ne.1 h.2
  unfold othI othB
  rw [if_neg (by omega), if_neg (by omega)]
  refine ⟨rfl, ?_⟩
  rw [Bool.or_eq_false_iff]
  exact ⟨beq_eq_false_iff_ne.2 (by omega), beq_eq_false_iff_ne.2 (by omega)⟩
theorem edge_ne {J : Int} {xs : List Awy} (hok : mineOk J xs = true) {i : Nat} (h : i < xs.length) : eA (edgesOf xs) i ≠ eB (edgesOf xs) i := by
  have hx := List.getElem?_eq_getElem h
  obtain ⟨e1, e2, _, _⟩ := edge_ok hok hx
  obtain ⟨_, _, h3⟩ := mineOk_t hok
  have h4 := (awyOk_t (h3 _ (List.getElem_mem h)).1).2.2.1
  intro e
  exact h4 (by rw [e1, e2, e])
theorem hasI_mem {V : List Nat} {v : Nat} : hasI (nI V) (v : Int) = true ↔ v ∈ V := by
  unfold hasI
  rw [List.any_eq_true]
  constructor
  · rintro ⟨x, hx, e⟩
    rw [beq_iff_eq] at e
    subst e
    exact nI_mem.1 hx
  · exact fun h => ⟨(v : Int), nI_mem.2 h, beq_self_eq_true _⟩
theorem hasI_y {V : List Nat} {v : Nat} (h : v ∈ V) : hasI (nI V) (v : Int) = true := hasI_mem.2 h
theorem hasI_n {V : List Nat} {v : Nat} (h : v ∉ V) : hasI (nI V) (v : Int) = false := by
  cases e : hasI (nI V) (v : Int)
  · rfl
  · exact absurd (hasI_mem.1 e) h
/-- The junctions reached from fr. -/
def IsRch (E : Edges) (T : List Nat) (fr : Nat) (V : List Nat) : Prop := ∀ v, v ∈ V ↔ Conn E T fr v
set_option maxHeartbeats 3200000 in
set_option maxRecDepth 100000 in
theorem reached_any (J : Int) (M : Option Addr) (m d : Nat) (xs : List Awy) (fr : Nat) (A : Option Addr) (n c : Nat) (T : List Nat) (w : World) (hm1 : Reads w w.heap.size 7 M m (Awy.recs xs)) (hT1 : Reads w w.heap.size 1 A n (ints (nI T))) (hok : mineOk J xs = true) (hn : n ≤ 1000) (hTl : ∀ i ∈ T, i < xs.length) (hfr : fr < J.toNat) :
    Calls Tryz.prog 103 #[.agg #[.int .i64 J, .slice M m d], .int .i64 fr, .slice A n c] w fun e w' => ∃ A' n' c' V, e = .returned (.slice A' n' c') ∧ w'.ownsRow w.heap.size 2 1 (.slice A' n' c') n' (ints (nI V)) ∧ n' ≤ 16 ∧ IsRch (edgesOf xs) T fr V ∧ Below w.heap.size w w' := by
  obtain ⟨i0, hi0, hz0, hz1, hz2⟩ := info_parts info_Int64S
  obtain ⟨⟨j1, j2⟩, hx24, _⟩ := mineOk_t hok
  obtain ⟨jn, rfl⟩ : ∃ jn : Nat, J = jn := ⟨J.toNat, by omega⟩
  rw [Int.toNat_natCast] at hfr
  have hb0 : Below w.heap.size w (w.alloc (.cells #[.int .i64 jn, .slice M m d] 33)) := (Below.refl _ _).alloc (Nat.le_refl _) _
  have hm : Reads (w.alloc (.cells #[.int .i64 jn, .slice M m d] 33)) (w.heap.size + 1) 7 M m (Awy.recs xs) := (hm1.below hb0).more (by omega)
  have hT : Reads (w.alloc (.cells #[.int .i64 jn, .slice M m d] 33)) (w.heap.size + 1) 1 A n (ints (nI T)) := (hT1.below hb0).more (by omega)
  have HLm := Lib.hid (recs_rlen Awy.clen (by omega) hm1)
  have hm24 : m ≤ 24 := by rw [← HLm.out]; exact hx24
  have HLT : Hid (T.length = n) := show _ = _ by have := ints_len hT; rw [nI_len] at this; exact this
  have HOK := Lib.hid hok
  have HTl := Lib.hid hTl
  have HR : Hid (∀ i ∈ T, eA (edgesOf xs) i < jn ∧ eB (edgesOf xs) i < jn) := fun i hi => by have := edge_lt hok (hTl i hi); rwa [Int.toNat_natCast] at this
  have HNE : Hid (∀ i ∈ T, eA (edgesOf xs) i ≠ eB (edgesOf xs) i) := fun i hi => edge_ne hok (hTl i hi)
  have hjn : jn ≤ 16 := by omega
  clear hok hTl hb0
  go_enter Tryz.func103, Tryz.ntmps103
  go_wp2
  go_loopw [7, 8] (fun L i wr => ∃ (k : Nat) (A1 : Option Addr) (n1 c1 : Nat) (V : List Nat), L = .slice A1 n1 c1 ∧ i = .int .i64 k ∧ k ≤ n1 ∧ Hid (Rch (edgesOf xs) jn T fr k 0 V) ∧ wr.ownsRow (w.heap.size + 1) 2 1 (.slice A1 n1 c1) n1 (ints (nI V)) ∧ Below (w.heap.size + 1) (w.alloc (.cells #[.int .i64 jn, .slice M m d] 33)) wr) (fun _ i _ => jn - (intOf i).toNat)
  case atStart =>
    refine ⟨0, _, 1, 1, [fr], rfl, rfl, by omega, rch_start hfr, ?_, (Below.refl _ _).alloc (by simp) _⟩
    have h := own_of_blk (xs := ints (nI [fr])) (n := 1) (Blk.new (w.alloc (.cells #[.int .i64 jn, .slice M m d] 33)) 2 #[.int .i64 fr]) rfl rfl (by unfold maxLen; omega) (fun j _ => by rw [← Array.getElem?_toList]; rfl)
    rw [show (w.alloc (.cells #[.int .i64 jn, .slice M m d] 33)).heap.size = w.heap.size + 1 by simp] at h
    exact h
  case round =>
    obtain ⟨k, A1, n1, c1, V, rfl, rfl, hk, HRC, hown, hbr⟩ := hrel
    obtain ⟨wo, rfl⟩ : ∃ wo : World, wo = wr := ⟨_, rfl⟩
    have hnV : n1 ≤ jn := by have h1 := rch_len HRC.out; have h2 := ints_len (Reads.of_own hown); rw [nI_len] at h2; omega
    by_cases hlt : k < n1
    · go_wp2
      go_loopw [7, 23] (fun L i wq => ∃ (q : Nat) (A2 : Option Addr) (n2 c2 : Nat) (V2 : List Nat), L = .slice A2 n2 c2 ∧ i = .int .i64 q ∧ q ≤ n ∧ k < n2 ∧ Hid (Rch (edgesOf xs) jn T fr k q V2) ∧ wq.ownsRow (w.heap.size + 1) 2 1 (.slice A2 n2 c2) n2 (ints (nI V2)) ∧ Below (w.heap.size + 1) (w.alloc (.cells #[.int .i64 jn, .slice M m d] 33)) wq) (fun _ i _ => n - (intOf i).toNat)
      case atStart => exact ⟨0, _, _, _, V, rfl, rfl, by omega, hlt, HRC, hown, hbr⟩
      case round =>
        obtain ⟨q, A2, n2, c2, V2, rfl, rfl, hq, hk2, HRC2, hown2, hbq⟩ := hrel
        clear hown hbr HRC hlt hnV hk
        obtain ⟨wi, rfl⟩ : ∃ wi : World, wi = wr := ⟨_, rfl⟩
        have zo : w.heap.size < wi.heap.size := by have h := hbq.size; simp at h; omega
        have hV2 := ints_len (Reads.of_own hown2)
        rw [nI_len] at hV2
        have hnV2 : n2 ≤ jn := by have h1 := rch_len HRC2.out; omega
        by_cases hqn : q < n
        · obtain ⟨t, htq⟩ : ∃ t, T[q]? = some t := ⟨_, List.getElem?_eq_getElem (by rw [HLT.out]; exact hqn)⟩
          have htT := List.mem_of_getElem? htq
          have htl := HTl.out t htT
          obtain ⟨td, rfl, htd, _, hct⟩ := (hT.below hbq).int_at (nI_at htq)
          obtain ⟨ad, x, rfl, had, hx, hc⟩ := (hm.below hbq).rec_at Awy.clen (by omega) (k := t) (by rw [← HLm.out]; exact htl)
          obtain ⟨ea, eb, ha, hb⟩ := edge_ok HOK.out hx
          obtain ⟨a0, a1, a2, a3, a4, a5, a6⟩ := Awy.open_ hc
          rw [Int.toNat_natCast] at ha hb
          have htm : t < m := by rw [← HLm.out]; exact htl
          obtain ⟨u, hu⟩ : ∃ u, V2[k]? = some u := ⟨_, List.getElem?_eq_getElem (by omega)⟩
          obtain ⟨g, rfl, hg1, hg2, cu, _, _⟩ := own_at hown2 hk2
          have hgu : V2.getD k 0 = u := by rw [List.getD_eq_getElem?_getD, hu]; rfl
          rw [hgu] at cu
          have b1 : wi.cell? ⟨w.heap.size, 1, none⟩ = some (.slice (some ad) m d) := (hbq.cell (p := ⟨w.heap.size, 1, none⟩) (by show w.heap.size < _; omega)).trans (by go_simp)
          rw [ea] at a1
          rw [eb] at a2
          have hqI : (q : Int) < (n : Int) := by omega
          have htI : (t : Int) < (m : Int) := by omega
          have hkI : (k : Int) < (n2 : Int) := by omega
          have HO2 := Lib.hid hown2
          have HU := Lib.hid hu
          have HTQ := Lib.hid htq
          have hne := HNE.out t htT
          cases hend : endB (edgesOf xs) t u
          · obtain ⟨o1, o2⟩ := oth_n hend
            have HA : Hid (∀ W : World, Calls Tryz.prog 105 #[.agg #[.string x.s, .int .i64 (eA (edgesOf xs) t : Nat), .int .i64 (eB (edgesOf xs) t : Nat), .int .i64 x.l, .int .i64 x.c, .int .i64 x.f, .int .i64 x.h], .int .i64 (u : Nat)] W fun e w' => e = .returned (.tuple #[.int .i64 0, .bool false]) ∧ Below W.heap.size W w') :=
              fun W => by have := other_any x.s (eA (edgesOf xs) t : Nat) (eB (edgesOf xs) t : Nat) x.l x.c x.f x.h (u : Nat) W; rw [o1, o2] at this; exact this
            have HN : Hid (Rch (edgesOf xs) jn T fr k (q + 1) V2) := rch_skip HRC2.out hu htq (fun v hl => by rw [lead_end hl] at hend; cases hend)
            generalize eA (edgesOf xs) t = ua at *
            generalize eB (edgesOf xs) t = ub at *
            clear hx hc htq htl htT ea eb hu hown2 hgu hend o1 o2 hne hV2
            go_wp2
            have m1_0 := nb_cell b1 (block_lt_of_cell b1); have m1_1 := nb_cell a0 (block_lt_of_cell a0); have m1_2 := nb_cell a1 (block_lt_of_cell a1); have m1_3 := nb_cell a2 (block_lt_of_cell a2); have m1_4 := nb_cell a3 (block_lt_of_cell a3); have m1_5 := nb_cell a4 (block_lt_of_cell a4); have m1_6 := nb_cell a5 (block_lt_of_cell a5); have m1_7 := nb_cell a6 (block_lt_of_cell a6); have m1_8 := nb_cell cu (block_lt_of_cell cu); (refine wp_region_nb (by kernel_rfl) (by kernel_rfl) ?_); (repeat (go_big_quiet_step (((go_at_call 105; exact nb_call (HA.out _)))))); (refine wpQuiet_nil ?_); intro w1 hw1; have hb1 := nb_out hw1; clear hw1 m1_0 m1_1 m1_2 m1_3 m1_4 m1_5 m1_6 m1_7 m1_8
            go_wp2
            go_roundw
            case rel => exact ⟨q + 1, _, n2, c2, V2, rfl, by go_num, by omega, hk2, HN, own_below HO2.out hb1, hbq.trans (hb1.mono (by omega))⟩
            case measure => simp [intOf]; omega
          · obtain ⟨o1, o2⟩ := oth_y hend
            have HA : Hid (∀ W : World, Calls Tryz.prog 105 #[.agg #[.string x.s, .int .i64 (eA (edgesOf xs) t : Nat), .int .i64 (eB (edgesOf xs) t : Nat), .int .i64 x.l, .int .i64 x.c, .int .i64 x.f, .int .i64 x.h], .int .i64 (u : Nat)] W fun e w' => e = .returned (.tuple #[.int .i64 (stepTo (edgesOf xs) u t : Nat), .bool true]) ∧ Below W.heap.size W w') :=
              fun W => by have := other_any x.s (eA (edgesOf xs) t : Nat) (eB (edgesOf xs) t : Nat) x.l x.c x.f x.h (u : Nat) W; rw [o1, o2] at this; exact this
            have hl := lead_to hend
            by_cases hin : stepTo (edgesOf xs) u t ∈ V2
            · have HH := Lib.hid (hasI_y hin)
              have HN : Hid (Rch (edgesOf xs) jn T fr k (q + 1) V2) := rch_skip HRC2.out hu htq (fun v hl' => by rw [lead_one hne hl']; exact hin)
              generalize stepTo (edgesOf xs) u t = v at *
              generalize eA (edgesOf xs) t = ua at *
              generalize eB (edgesOf xs) t = ub at *
              clear hx hc htq htl htT ea eb hu hown2 hgu hend o1 o2 hne hV2 hl hin
              go_wp2
              have m1_0 := nb_cell b1 (block_lt_of_cell b1); have m1_1 := nb_cell a0 (block_lt_of_cell a0); have m1_2 := nb_cell a1 (block_lt_of_cell a1); have m1_3 := nb_cell a2 (block_lt_of_cell a2); have m1_4 := nb_cell a3 (block_lt_of_cell a3); have m1_5 := nb_cell a4 (block_lt_of_cell a4); have m1_6 := nb_cell a5 (block_lt_of_cell a5); have m1_7 := nb_cell a6 (block_lt_of_cell a6); have m1_8 := nb_cell cu (block_lt_of_cell cu); (refine wp_region_nb (by kernel_rfl) (by kernel_rfl) ?_); (repeat (go_big_quiet_step (((go_at_call 105; exact nb_call (HA.out _)))))); (refine wpQuiet_nil ?_); intro w1 hw1; have hb1 := nb_out hw1; clear hw1 m1_0 m1_1 m1_2 m1_3 m1_4 m1_5 m1_6 m1_7 m1_8
              have ho3 := own_below HO2.out hb1
              have cc := contains_any (some ⟨g, 0, none⟩) n2 c2 (nI V2) (v : Nat) w1 (Reads.of_own ho3) (by omega)
              rw [HH.out] at cc
              have HO3 := Lib.hid ho3
              clear ho3
              go_wp2_with fail; ((with_reducible refine cc.mono ?_); rintro e w' ⟨rfl, rfl⟩)
              go_wp2
              go_roundw
              case rel => exact ⟨q + 1, _, n2, c2, V2, rfl, by go_num, by omega, hk2, HN, HO3.out, hbq.trans (hb1.mono (by omega))⟩
              case measure => simp [intOf]; omega
            · have HH := Lib.hid (hasI_n hin)
              have HN : Hid (Rch (edgesOf xs) jn T fr k (q + 1) (V2 ++ [stepTo (edgesOf xs) u t])) := rch_add HRC2.out hu htq hne HR.out hl hin
              generalize stepTo (edgesOf xs) u t = v at *
              generalize eA (edgesOf xs) t = ua at *
              generalize eB (edgesOf xs) t = ub at *
              clear hx hc htq htl htT ea eb hu hown2 hgu hend o1 o2 hne hV2 hl hin
              go_wp2
              have m1_0 := nb_cell b1 (block_lt_of_cell b1); have m1_1 := nb_cell a0 (block_lt_of_cell a0); have m1_2 := nb_cell a1 (block_lt_of_cell a1); have m1_3 := nb_cell a2 (block_lt_of_cell a2); have m1_4 := nb_cell a3 (block_lt_of_cell a3); have m1_5 := nb_cell a4 (block_lt_of_cell a4); have m1_6 := nb_cell a5 (block_lt_of_cell a5); have m1_7 := nb_cell a6 (block_lt_of_cell a6); have m1_8 := nb_cell cu (block_lt_of_cell cu); (refine wp_region_nb (by kernel_rfl) (by kernel_rfl) ?_); (repeat (go_big_quiet_step (((go_at_call 105; exact nb_call (HA.out _)))))); (refine wpQuiet_nil ?_); intro w1 hw1; have hb1 := nb_out hw1; clear hw1 m1_0 m1_1 m1_2 m1_3 m1_4 m1_5 m1_6 m1_7 m1_8
              have ho3 := own_below HO2.out hb1
              have cc := contains_any (some ⟨g, 0, none⟩) n2 c2 (nI V2) (v : Nat) w1 (Reads.of_own ho3) (by omega)
              rw [HH.out] at cc
              have HO3 := Lib.hid ho3
              have hb3 := hbq.trans (hb1.mono (by omega))
              clear ho3
              go_wp2_with fail; ((with_reducible refine cc.mono ?_); rintro e w' ⟨rfl, rfl⟩)
              go_wp2_with (at_builtin; (refine wpList_app _ rfl _ _ 25 rfl (w.heap.size + 1) 2 i0 _ 1 8 Tryz.underlying25 hi0 hz0 hz1 hz2 rfl (by omega) (some ⟨g, 0, none⟩) _ c2 _ rfl ((HO3.out).alloc _) ⟨_, 0, none⟩ 1 1 [.int .i64 (v : Int)] rfl rfl (cell_one_at (by simp) _ _) (by simp [Value.oneCell']) (by unfold maxLen; omega) (by omega) (by have hz := (hb3).size; simp at hz ⊢; omega) ?_); intro A3 c3 w2 ho2 hb2)
              go_roundw
              case rel => exact ⟨q + 1, A3, n2 + 1, c3, V2 ++ [v], rfl, by go_num, by omega, by omega, HN, by rw [nI_snoc]; simpa [ints] using ho2, (hb3.alloc (by have := hb3.size; simp at this; omega) _).trans hb2⟩
              case measure => simp [intOf]; omega
        · have HN : Hid (Rch (edgesOf xs) jn T fr (k + 1) 0 V2) := rch_next HRC2.out (by rw [HLT.out]; omega)
          have HO2 := Lib.hid hown2
          have hkj : k < jn := by omega
          clear hown2 hV2
          go_wp2
          go_roundw
          case rel => exact ⟨k + 1, A2, n2, c2, V2, rfl, by go_num, by omega, HN, HO2.out, hbq⟩
          case measure => simp [intOf]; omega
    · have HE : Hid (IsRch (edgesOf xs) T fr V) := fun v => rch_end HRC.out (by have h2 := ints_len (Reads.of_own hown); rw [nI_len] at h2; omega) v
      have HO2 := Lib.hid hown
      clear hown
      go_wp2
      go_ret
      exact ⟨A1, n1, c1, V, rfl, own_base HO2.out (by omega), by omega, HE.out, ((Below.refl _ _).alloc (Nat.le_refl _) _).trans (hbr.mono (by omega))⟩
end Go.Proofs.YtjmhhbjbmgpagaaGreat

/- Contract of the program's tree of a mine. -/
namespace Go.Proofs.YtjmhhbjbmgpagaaGreat
set_option linter.unusedVariables false
set_option linter.unusedSimpArgs false
open Go.RowKit
theorem treeL_ltm {J : Int} {xs : List Awy} {k : Nat} (hk : k ≤ xs.length) : ∀ i ∈ treeL (edgesOf xs) J.toNat k, i < xs.length := fun i hi => by
  have := treeL_lt (edgesOf xs) J.toNat k i hi; omega
set_option maxHeartbeats 3200000 in
set_option maxRecDepth 100000 in
theorem tree_any (J : Int) (M : Option Addr) (m d : Nat) (xs : List Awy) (w : World) (hm1 : Reads w w.heap.size 7 M m (Awy.recs xs)) (hok : mineOk J xs = true) :
    Calls Tryz.prog 75 #[.agg #[.int .i64 J, .slice M m d]] w fun e w' => ∃ A' c', e = .returned (.slice A' (treeL (edgesOf xs) J.toNat m).length c') ∧ w'.ownsRow w.heap.size 2 1 (.slice A' (treeL (edgesOf xs) J.toNat m).length c') (treeL (edgesOf xs) J.toNat m).length (ints (nI (treeL (edgesOf xs) J.toNat m))) ∧ Below w.heap.size w w' := by
  obtain ⟨i0, hi0, hz0, hz1, hz2⟩ := info_parts info_Int64S
  obtain ⟨⟨j1, j2⟩, hx24, _⟩ := mineOk_t hok
  obtain ⟨jn, rfl⟩ : ∃ jn : Nat, J = jn := ⟨J.toNat, by omega⟩
  have hb0 : Below w.heap.size w (w.alloc (.cells #[.int .i64 jn, .slice M m d] 33)) := (Below.refl _ _).alloc (Nat.le_refl _) _
  have hm : Reads (w.alloc (.cells #[.int .i64 jn, .slice M m d] 33)) (w.heap.size + 1) 7 M m (Awy.recs xs) := (hm1.below hb0).more (by omega)
  have HLm := Lib.hid (recs_rlen Awy.clen (by omega) hm1)
  have hm24 : m ≤ 24 := by rw [← HLm.out]; exact hx24
  have HOK := Lib.hid hok
  clear hok hx24 hb0
  rw [Int.toNat_natCast]
  generalize hE : edgesOf xs = E at *
  have HE := Lib.hid hE
  clear hE
  go_enter Tryz.func75, Tryz.ntmps75
  go_wp2
  go_loopw [3, 9] (fun o i wr => ∃ (k : Nat) (A' : Option Addr) (n' c' : Nat), k ≤ m ∧ n' = (treeL E jn k).length ∧ o = .slice A' n' c' ∧ i = .int .i64 k ∧ wr.ownsRow (w.heap.size + 1) 2 1 (.slice A' n' c') n' (ints (nI (treeL E jn k))) ∧ Below (w.heap.size + 1) (w.alloc (.cells #[.int .i64 jn, .slice M m d] 33)) wr) (fun _ i _ => m - (intOf i).toNat)
  case atStart => exact ⟨0, none, 0, 0, by omega, rfl, rfl, rfl, own_nil _ _ _ _, Below.refl _ _⟩
  case round =>
    obtain ⟨k, A', n', c', hk, hn', rfl, rfl, hown, hbr⟩ := hrel
    obtain ⟨wo, rfl⟩ : ∃ wo : World, wo = wr := ⟨_, rfl⟩
    have zo : w.heap.size < wo.heap.size := by have h := hbr.size; simp at h; omega
    have Bo : Below w.heap.size w wo := ((Below.refl _ _).alloc (Nat.le_refl _) _).trans (hbr.mono (by omega))
    have hnk : n' ≤ k := by rw [hn']; exact treeL_len E jn k
    have HNL := Lib.hid hn'
    clear hn'
    by_cases hlt : k < m
    · obtain ⟨ad, x, rfl, had, hx, hc⟩ := (hm.below hbr).rec_at Awy.clen (by omega) hlt
      obtain ⟨ea, eb, ha, hb⟩ := edge_ok HOK.out hx
      rw [HE.out, Int.toNat_natCast] at ha hb
      rw [HE.out] at ea eb
      obtain ⟨a0, a1, a2, a3, a4, a5, a6⟩ := Awy.open_ hc
      rw [ea] at a1
      rw [eb] at a2
      have g0 : wo.cell? ⟨w.heap.size, 0, none⟩ = some (.int .i64 jn) := (hbr.cell (p := ⟨w.heap.size, 0, none⟩) (by show w.heap.size < _; omega)).trans (by go_simp)
      have g1 : wo.cell? ⟨w.heap.size, 1, none⟩ = some (.slice (some ad) m d) := (hbr.cell (p := ⟨w.heap.size, 1, none⟩) (by show w.heap.size < _; omega)).trans (by go_simp)
      have hkI : (k : Int) < (m : Int) := by omega
      have HLY := Lib.hid (fun h => treeL_y (E := E) (J := jn) (k := k) h fun i hi => by have h1 := edge_lt HOK.out (i := i) (by rw [HLm.out]; omega); rw [HE.out, Int.toNat_natCast] at h1; exact h1)
      have HLN := Lib.hid (fun h => treeL_n (E := E) (J := jn) (k := k) h fun i hi => by have h1 := edge_lt HOK.out (i := i) (by rw [HLm.out]; omega); rw [HE.out, Int.toNat_natCast] at h1; exact h1)
      generalize hua : eA E k = ua at *
      generalize hub : eB E k = ub at *
      obtain ⟨wa, hwa⟩ : ∃ wa, wa = wo.alloc (.cells #[.string x.s, .int .i64 (ua : Nat), .int .i64 (ub : Nat), .int .i64 x.l, .int .i64 x.c, .int .i64 x.f, .int .i64 x.h] 78) := ⟨_, rfl⟩
      have hba : Below (w.heap.size + 1) (w.alloc (.cells #[.int .i64 jn, .slice (some ad) m d] 33)) wa := by rw [hwa]; exact hbr.alloc (by omega) _
      have hoa : wa.ownsRow (w.heap.size + 1) 2 1 (.slice A' n' c') n' (ints (nI (treeL E jn k))) := by rw [hwa]; exact hown.alloc _
      have f1 : wa.cell? ⟨wo.heap.size, 1, none⟩ = some (.int .i64 (ua : Nat)) := by rw [hwa]; exact ((Blk.new wo _ _).cell 1).trans rfl
      have f2 : wa.cell? ⟨wo.heap.size, 2, none⟩ = some (.int .i64 (ub : Nat)) := by rw [hwa]; exact ((Blk.new wo _ _).cell 2).trans rfl
      have f3 : wa.cell? ⟨w.heap.size, 0, none⟩ = some (.int .i64 jn) := by rw [hwa]; exact (World.cell?_alloc_lt _ _ _ (block_lt_of_cell g0)).trans g0
      have f4 : wa.cell? ⟨w.heap.size, 1, none⟩ = some (.slice (some ad) m d) := by rw [hwa]; exact (World.cell?_alloc_lt _ _ _ (block_lt_of_cell g1)).trans g1
      have za : wo.heap.size < wa.heap.size := by rw [hwa]; simp
      have zz : w.heap.size + 1 ≤ wa.heap.size := by omega
      have HWA := Lib.hid hwa
      have Ba : Below w.heap.size w wa := ((Below.refl _ _).alloc (Nat.le_refl _) _).trans (hba.mono (by omega))
      have HRC : Hid (∀ W : World, Below wa.heap.size wa W → Calls Tryz.prog 103 #[.agg #[.int .i64 jn, .slice (some ad) m d], .int .i64 (ua : Nat), .slice A' n' c'] W fun e w' => ∃ A2 n2 c2 V, e = .returned (.slice A2 n2 c2) ∧ w'.ownsRow W.heap.size 2 1 (.slice A2 n2 c2) n2 (ints (nI V)) ∧ n2 ≤ 16 ∧ IsRch E (treeL E jn k) ua V ∧ Below W.heap.size W w') := fun W hW => by
        have h := reached_any jn (some ad) m d xs ua A' n' c' (treeL E jn k) W (((hm1.below Ba).more Ba.size |>.below hW).more hW.size) (((Reads.of_own hoa).below hW).more hW.size) HOK.out (by omega) (by have := treeL_ltm (J := jn) (xs := xs) (k := k) (by rw [HLm.out]; omega); rw [HE.out, Int.toNat_natCast] at this; exact this) (by rw [Int.toNat_natCast]; exact ha)
        rw [HE.out] at h
        exact h
      have HOA := Lib.hid hoa
      have HHB := Lib.hid hba
      clear hx hc ea eb hua hub hown hwa hoa
      by_cases hcn : Conn E (treeL E jn k) ua ub
      · have HT := Lib.hid (HLY.out hcn)
        have HV : Hid (∀ V, IsRch E (treeL E jn k) ua V → hasI (nI V) (ub : Nat) = true) := fun V h => hasI_y ((h ub).2 hcn)
        clear HLY HLN hcn
        go_wp2
        rw [← HWA.out]
        go_region_held3 (fun w' => w'.cell? ⟨wo.heap.size, 1, none⟩ = some (.int .i64 (ua : Nat)) ∧ w'.cell? ⟨wo.heap.size, 2, none⟩ = some (.int .i64 (ub : Nat)) ∧ w'.cell? ⟨w.heap.size, 0, none⟩ = some (.int .i64 jn) ∧ w'.cell? ⟨w.heap.size, 1, none⟩ = some (.slice (some ad) m d))
          (first | go_keep | (exact ⟨(hb1.cell (p := ⟨wo.heap.size, 1, none⟩) za).trans f1, (hb1.cell (p := ⟨wo.heap.size, 2, none⟩) za).trans f2, (hb1.cell (p := ⟨w.heap.size, 0, none⟩) (Nat.lt_trans zo za)).trans f3, (hb1.cell (p := ⟨w.heap.size, 1, none⟩) (Nat.lt_trans zo za)).trans f4⟩))
          ((first | (go_at_call 103; refine (HRC.out _ ((Below.refl _ _).drew)).mono ?_; rintro e w1 ⟨A2, n2, c2, V, rfl, ho1, hn2, hrv, hb1⟩; have HH := Lib.hid (HV.out V hrv); have HO1 := Lib.hid ho1; clear ho1 hrv) | (go_at_call 76; refine (contains_any A2 n2 c2 (nI V) (ub : Nat) _ (Reads.of_own HO1.out) (by omega)).mono ?_; rintro e w' ⟨rfl, rfl⟩; rw [HH.out])))
        have hb2 : Below wa.heap.size wa w1 := ((Below.refl _ _).drew).trans hb1
        have hb3 := HHB.out.trans (hb2.mono zz)
        have HO3 := Lib.hid (own_below HOA.out hb2)
        clear hb2
        go_wp2
        go_roundw
        case rel => exact ⟨k + 1, A', n', c', by omega, by rw [HT.out]; exact HNL.out, rfl, by go_num, by rw [HT.out]; exact HO3.out, hb3⟩
        case measure => simp [intOf]; omega
      · have HT := Lib.hid (HLN.out hcn)
        have HV : Hid (∀ V, IsRch E (treeL E jn k) ua V → hasI (nI V) (ub : Nat) = false) := fun V h => hasI_n (fun h1 => hcn ((h ub).1 h1))
        clear HLY HLN hcn
        go_wp2
        rw [← HWA.out]
        go_region_held3 (fun w' => w'.cell? ⟨wo.heap.size, 1, none⟩ = some (.int .i64 (ua : Nat)) ∧ w'.cell? ⟨wo.heap.size, 2, none⟩ = some (.int .i64 (ub : Nat)) ∧ w'.cell? ⟨w.heap.size, 0, none⟩ = some (.int .i64 jn) ∧ w'.cell? ⟨w.heap.size, 1, none⟩ = some (.slice (some ad) m d))
          (first | go_keep | (exact ⟨(hb1.cell (p := ⟨wo.heap.size, 1, none⟩) za).trans f1, (hb1.cell (p := ⟨wo.heap.size, 2, none⟩) za).trans f2, (hb1.cell (p := ⟨w.heap.size, 0, none⟩) (Nat.lt_trans zo za)).trans f3, (hb1.cell (p := ⟨w.heap.size, 1, none⟩) (Nat.lt_trans zo za)).trans f4⟩))
          ((first | (go_at_call 103; refine (HRC.out _ ((Below.refl _ _).drew)).mono ?_; rintro e w1 ⟨A2, n2, c2, V, rfl, ho1, hn2, hrv, hb1⟩; have HH := Lib.hid (HV.out V hrv); have HO1 := Lib.hid ho1; clear ho1 hrv) | (go_at_call 76; refine (contains_any A2 n2 c2 (nI V) (ub : Nat) _ (Reads.of_own HO1.out) (by omega)).mono ?_; rintro e w' ⟨rfl, rfl⟩; rw [HH.out])))
        have hb2 : Below wa.heap.size wa w1 := ((Below.refl _ _).drew).trans hb1
        have hb3 := HHB.out.trans (hb2.mono zz)
        have HO3 := Lib.hid (own_below HOA.out hb2)
        clear hb2
        go_wp2_with (at_builtin; (refine wpList_app _ rfl _ _ 25 rfl (w.heap.size + 1) 2 i0 _ 1 8 Tryz.underlying25 hi0 hz0 hz1 hz2 rfl (by omega) A' _ c' _ rfl ((HO3.out).alloc _) ⟨_, 0, none⟩ 1 1 [.int .i64 (k : Int)] rfl rfl (cell_one_at (by simp) _ _) (by simp [Value.oneCell']) (by unfold maxLen; omega) (by omega) (by have hz := (hb3).size; simp at hz ⊢; omega) ?_); intro A3 c3 w2 ho2 hb2)
        go_roundw
        case rel => exact ⟨k + 1, A3, n' + 1, c3, by omega, by rw [HT.out, List.length_append, ← HNL.out]; rfl, by first | rfl | go_num, by go_num, by rw [HT.out, nI_snoc]; simpa [ints] using ho2, (hb3.alloc (by have := hb3.size; simp at this; omega) _).trans hb2⟩
        case measure => simp [intOf]; omega
    · have HKM : Hid (k = m) := show _ = _ by omega
      have HOW := Lib.hid hown
      clear hown
      go_wp2
      go_ret
      have hn' := HNL.out
      have hown := HOW.out
      rw [HKM.out] at hn' hown
      subst hn'
      exact ⟨A', c', rfl, own_base hown (by omega), Bo⟩
end Go.Proofs.YtjmhhbjbmgpagaaGreat

/- A queue of numbers: a row of the call's own whose head may be cut off; and a map of distances. -/
namespace Go.Proofs.YtjmhhbjbmgpagaaGreat
set_option linter.unusedVariables false
set_option linter.unusedSimpArgs false
open Go.RowKit
/-- A queue of numbers in the call's own memory. -/
structure Que (w : World) (base g k n c : Nat) (xs : List Int) : Prop where
  len : xs.length = n
  le : n ≤ c
  mx : c ≤ maxLen
  lo : base ≤ g
  hi : g < w.heap.size
  val : 0 < c → ∃ cur, Blk w g 2 cur ∧ cur.size = k + c ∧ ∀ j b, xs[j]? = some b → cur[k + j]? = some (.int .i64 b)
section
variable {w w' : World} {base g k n c : Nat} {xs : List Int}
theorem que_new (hb : base ≤ w.heap.size) (x : Int) : Que (w.alloc (.cells #[.int .i64 x] 2)) base w.heap.size 0 1 1 [x] :=
  ⟨rfl, Nat.le_refl _, by unfold maxLen; omega, hb, by simp, fun _ => ⟨_, Blk.new w _ _, rfl, fun j b hj => by
    cases j with
    | zero => simp at hj; subst hj; rfl
    | succ j => simp at hj⟩⟩
theorem Que.head {x : Int} (h : Que w base g k n c (x :: xs)) : w.cell? ⟨g, k, none⟩ = some (.int .i64 x) := by
  have h1 := h.len
  have h2 := h.le
  obtain ⟨cur, hb, _, hc⟩ := h.val (by simp at h1; omega)
  rw [hb.cell k]
  simpa using hc 0 x rfl
theorem Que.cut {x : Int} (h : Que w base g k n c (x :: xs)) : Que w base g (if c = 1 then k else k + 1) (n - 1) (c - 1) xs := by
  have h1 := h.len
  have h2 := h.le
  have h3 := h.mx
  simp only [List.length_cons] at h1
  refine ⟨by omega, by omega, by omega, h.lo, h.hi, fun hc => ?_⟩
  obtain ⟨cur, hb, hs, hcur⟩ := h.val (by omega)
  rw [if_neg (by omega)]
  refine ⟨cur, hb, by omega, fun j b hj => ?_⟩
  rw [show k + 1 + j = k + (j + 1) by omega]
  exact hcur (j + 1) b (by simpa using hj)
theorem Que.grown {row : Option Nat} (h : Que w base g k n c xs) (hg : w.grownBy w' row) (hne : some g ≠ row) : Que w' base g k n c xs :=
  ⟨h.len, h.le, h.mx, h.lo, Nat.lt_of_lt_of_le h.hi hg.size, fun hc => by
    obtain ⟨cur, hb, hs, hcur⟩ := h.val hc
    exact ⟨cur, hb.grown hg hne, hs, hcur⟩⟩
theorem Que.below (h : Que w base g k n c xs) (hb : Below w.heap.size w w') : Que w' base g k n c xs :=
  h.grown (row := none) ⟨hb.os, hb.tape, hb.output, hb.size, fun i hi _ => hb.block i hi⟩ (by simp)
theorem Que.drewN (h : Que w base g k n c xs) (m : Nat) : Que (w.drewN m) base g k n c xs := h.below (below_drewN (Below.refl _ _) m)
theorem Que.alloc (h : Que w base g k n c xs) (o : Obj) : Que (w.alloc o) base g k n c xs := h.below ((Below.refl _ _).alloc (Nat.le_refl _) _)
end
section
variable {P : Program} (w : World)
theorem setCells_one (b o : Nat) (v : Value) : w.setCells b o [v] = w.setCell ⟨b, o, none⟩ v := rfl
/-- One number more at the queue's end. -/
theorem run_append_que {i : TypeInfo} (t ty : TypeId) (ht : P.underlying t = some (.slice 2)) (hi : P.info? 2 = some i) {z : Value} (hz : i.zero = some z) (hs : i.size = 1) (hby : i.bytes = 8) (hzs : z.cells.size = 1)
    {base g k n c : Nat} {xs : List Int} (h : Que w base g k n c xs) (x : Int) (ad : Addr) (hx : w.cell? ad = some (.int .i64 x)) (hn : n ≤ 1000000) (hbase : base ≤ w.heap.size) :
    ∃ g' k' c' w', (Builtin.append_ #[t, t] ty #[.slice (some ⟨g, k, none⟩) n c, .slice (some ad) 1 1]).run P w = .ok (.slice (some ⟨g', k', none⟩) (n + 1) c') w' ∧ Que w' base g' k' (n + 1) c' (xs ++ [x]) ∧ w.grownBy w' (some g) := by
  have hl := h.len
  have src : Src P i.size t (.slice (some ad) 1 1) 1 [.int .i64 x] w := Src.ofSlice w ht ad 1 1 _ (by rw [hs]; rfl) (fun j u hj => by
    cases j with
    | zero => simp at hj; subst hj; simpa [Addr.add] using hx
    | succ j => simp at hj) (fun u hu => by rw [List.mem_singleton] at hu; subst hu; rfl)
  by_cases hroom : n + 1 ≤ c
  · obtain ⟨cur, hb, hcs, hcur⟩ := h.val (by omega)
    have hlt : k + n < cur.size := by omega
    have hr := run_append_room_src (P := P) w t t ty 2 i ht hi g k n c _ 1 _ src hroom (fun j hj => by
      have : j = 0 := by simp at hj; omega
      subst this
      rw [hs, hb.cell, Nat.mul_one, Nat.add_zero, Array.getElem?_eq_getElem hlt]; rfl) (fun j hj => hb.frozen _)
    rw [hs, Nat.mul_one, setCells_one] at hr
    refine ⟨g, k, c, _, hr, ⟨by simp [hl], hroom, h.mx, h.lo, by simpa [World.setCell] using h.hi, fun _ => ⟨_, hb.set_ (k + n) _, by simpa using hcs, fun j b hj => ?_⟩⟩, ⟨rfl, rfl, rfl, by simp [World.setCell], fun q hq hne => Below.heap_setCell _ _ _ _ fun e => hne (by rw [e])⟩⟩
    rw [Array.getElem?_setIfInBounds]
    rw [List.getElem?_append] at hj
    split at hj
    · rename_i hjl
      rw [if_neg (by omega)]
      exact hcur j b hj
    · rename_i hjl
      have hj0 : j = n := by
        have := (List.getElem?_eq_some_iff.1 hj).1
        simp at this; omega
      subst hj0
      rw [if_pos rfl, if_pos hlt]
      rw [hl, Nat.sub_self] at hj
      simp at hj
      rw [hj]
  · have hcn : c = n := by have := h.le; omega
    have holds : ∀ j v, (ints xs)[j]? = some v → w.cell? ((⟨g, k, none⟩ : Addr).add j) = some v := fun j v hj => by
      obtain ⟨b, hb1, rfl⟩ := ints_at hj
      have hjl := (List.getElem?_eq_some_iff.1 hb1).1
      obtain ⟨cur, hb, hcs, hcur⟩ := h.val (by omega)
      rw [Addr.add_lit, hb.cell]
      exact hcur j b hb1
    have hr := run_append_grow (P := P) w t ty 2 i z ht hi hz ⟨g, k, none⟩ n c (ints xs) (by rw [hs]; simp [ints, hl]) holds ad 1 1 [.int .i64 x] (by rw [hs]; rfl) (fun j u hj => by
      cases j with
      | zero => simp at hj; subst hj; simpa [Addr.add] using hx
      | succ j => simp at hj) (by omega) (by omega) (growslice_fits (by omega) (by rw [hby]; omega))
    have hge := grownCap_ge w (n + 1) c 2
    have hcm : grownCap w (n + 1) c 2 ≤ maxLen := grownCap_le_maxLen w (n + 1) c 2 (by unfold maxLen; omega)
    refine ⟨w.heap.size, 0, _, _, hr, ⟨by simp [hl], hge, hcm, hbase, by simp, fun _ => ⟨_, heap_alloc_new w.drew _, ?_, fun j b hj => ?_⟩⟩, ⟨rfl, rfl, rfl, by simp, fun q hq _ => heap_alloc_old w.drew _ hq⟩⟩
    · simp only [Array.size_append, List.size_toArray, size_zeroCells, hzs]
      simp [ints, hl]; omega
    · have hjl := (List.getElem?_eq_some_iff.1 hj).1
      rw [Nat.zero_add, Array.getElem?_append_left (by simp [ints, hl] at hjl ⊢; omega)]
      have e : (ints xs).toArray ++ [Value.int .i64 x].toArray = (ints (xs ++ [x])).toArray := by simp [ints]
      rw [e, List.getElem?_toArray]
      unfold ints
      rw [List.getElem?_map, hj]; rfl
theorem wpList_app_que {ops : Array Oper} {rest : List Oper} {o : Oper} {a : Act} {Q : Exit → Act → World → Prop} (hgd : o.guard = none) (s y : Operand) (t : TypeId)
    (ho : o.op = .call { callee := .builtin .append, args := #[s, y], argTypes := #[t, t] })
    {i : TypeInfo} (ht : P.underlying t = some (.slice 2)) (hi : P.info? 2 = some i) {z : Value} (hz : i.zero = some z) (hsz : i.size = 1) (hby : i.bytes = 8) (hzs : z.cells.size = 1)
    {base g k n c : Nat} {xs : List Int} (hs : a.eval s = .slice (some ⟨g, k, none⟩) n c) (hq : Que w base g k n c xs) (x : Int) (ad : Addr) (hy : a.eval y = .slice (some ad) 1 1) (hx : w.cell? ad = some (.int .i64 x)) (hn : n ≤ 1000000) (hbase : base ≤ w.heap.size)
    (h : ∀ g' k' c' w', Que w' base g' k' (n + 1) c' (xs ++ [x]) → w.grownBy w' (some g) → wpList P ops Q rest (a.put o.dst (.slice (some ⟨g', k', none⟩) (n + 1) c')) w') : wpList P ops Q (o :: rest) a w := by
  refine wpList_plain hgd fun K hK => ?_
  obtain ⟨g', k', c', w', hrun, h2, h3⟩ := run_append_que (P := P) w t o.type ht hi hz hsz hby hzs hq x ad hx hn hbase
  unfold Oper.wp execOp
  simp only [ho, resolve, invoke, builtin, Sem.run_bind, Sem.run_pure, Result.andThen_ok, List.map_toArray, List.map_cons, List.map_nil, hs, hy, hrun]
  exact hK _ _ (h g' k' c' w' h2 h3)
end
open Go.Maps (Keyed)
theorem List.reverseRecOn_ {α : Type} {p : List α → Prop} (nil : p []) (snoc : ∀ t x, p t → p (t ++ [x])) : ∀ l, p l := by
  intro l
  have : ∀ r : List α, p r.reverse := by
    intro r
    induction r with
    | nil => exact nil
    | cons x t ih => rw [List.reverse_cons]; exact snoc _ _ ih
  have h := this l.reverse
  rwa [List.reverse_reverse] at h
/-- What a map of distances holds. -/
def farD (V : List (Nat × Nat)) : DataW Unit := V.foldl (fun D p => D.put (.int .i64 p.1) (.lit (.int .i64 p.2))) (.map [])
theorem farD_snoc (V : List (Nat × Nat)) (p : Nat × Nat) : farD (V ++ [p]) = (farD V).put (.int .i64 p.1) (.lit (.int .i64 p.2)) := by
  unfold farD; rw [List.foldl_append]; rfl
theorem farD_isMap : ∀ V : List (Nat × Nat), Maps.IsMap (farD V) := by
  intro V
  unfold farD
  have : ∀ (l : List (Nat × Nat)) (D : DataW Unit), Maps.IsMap D → Maps.IsMap (l.foldl (fun D p => D.put (.int .i64 p.1) (.lit (.int .i64 p.2))) D) := by
    intro l
    induction l with
    | nil => exact fun D h => h
    | cons p t ih => exact fun D h => ih _ (h.put _ _)
  exact this V _ Maps.isMap_empty
theorem lit_ne {a b : Nat} (h : a ≠ b) : (Lit.int .i64 a) ≠ Lit.int .i64 b := by
  intro e
  injection e with _ e
  omega
theorem farD_has_snoc (V : List (Nat × Nat)) (p : Nat × Nat) (u : Nat) : Maps.has (farD (V ++ [p])) (.int .i64 u) = (decide (u = p.1) || Maps.has (farD V) (.int .i64 u)) := by
  rw [farD_snoc]
  by_cases h : u = p.1
  · subst h
    rw [Maps.has_put_same (farD_isMap V) (by first | trivial | exact ⟨⟩ | simp [WideAt.IsKeyLit]), decide_eq_true rfl]; rfl
  · rw [Maps.has_put_other (lit_ne h), decide_eq_false h]; rfl
theorem farD_has : ∀ (V : List (Nat × Nat)) (u : Nat), Maps.has (farD V) (.int .i64 u) = decide (u ∈ V.map (·.1)) := by
  intro V u
  induction V using List.reverseRecOn_ with
  | nil => rfl
  | snoc t p ih =>
    rw [farD_has_snoc, ih, Bool.eq_iff_iff]
    simp only [Bool.or_eq_true, decide_eq_true_eq, List.map_append, List.mem_append, List.map_cons, List.map_nil, List.mem_singleton]
    exact or_comm
theorem farD_at {z : DataW Unit} : ∀ (V : List (Nat × Nat)), (V.map (·.1)).Nodup → ∀ u d, (u, d) ∈ V → (farD V).atKey (.int .i64 u) z = .lit (.int .i64 d) := by
  intro V
  induction V using List.reverseRecOn_ with
  | nil => intro _ u d h; simp at h
  | snoc t p ih =>
    intro hn u d h
    rw [List.map_append, List.nodup_append] at hn
    rw [farD_snoc]
    by_cases hu : u = p.1
    · subst hu
      rw [Maps.atKey_put_same (k := .int .i64 (p.1 : Nat)) (farD_isMap t) trivial]
      rcases List.mem_append.1 h with h | h
      · exact absurd rfl (hn.2.2 p.1 (List.mem_map.2 ⟨_, h, rfl⟩) p.1 (by simp))
      · rw [List.mem_singleton] at h; rw [show d = p.2 from congrArg Prod.snd h]
    · rw [Maps.atKey_put_other (lit_ne hu)]
      rcases List.mem_append.1 h with h | h
      · exact ih hn.1 u d h
      · rw [List.mem_singleton] at h; exact absurd (congrArg Prod.fst h) hu
/-- A key and its value put into a map that is just made. -/
theorem wpList_insert_own {H : Type} {P : Program} (w : World) {ops : Array Oper} {rest : List Oper} {o : Oper} {a : Act} {Q : Exit → Act → World → Prop}
    (hg : o.guard = none) (m x v : Operand) (t : TypeId) (hop : o.op = Op.insert t m x v)
    (k e : TypeId) (K : Keyed P k) (ht : P.underlying t = some (.map k e)) (R : Value → Option (DataW H × List MemPlace)) (b n : Nat) (D : DataW H)
    (hm : a.eval m = .map (some b)) (hown : w.ownsMap P k R b n D) (hn : n < maxLen) (key val : Value) (kl : Lit) (hx : a.eval x = key) (hv : a.eval v = val) (hkey : keyOf P k key = some kl)
    (d : DataW H) (ps : List MemPlace) (hval : R val = some (d, ps))
    (hK : ∀ w', w'.ownsMap P k R b (n + 1) (D.put kl d) → w.grownBy w' (some b) → wpList P ops Q rest (a.put o.dst undef) w') :
    wpList P ops Q (o :: rest) a w := by
  refine wpList_plain hg fun K' hK' => ?_
  obtain ⟨w', hrun, r1, r2⟩ := hown.update K ht hn hkey hval
  unfold Oper.wp
  simp [execOp, hop, hm, hx, hv, hrun, Result.andThen]
  exact hK' _ _ (hK w' r1 r2)
end Go.Proofs.YtjmhhbjbmgpagaaGreat
