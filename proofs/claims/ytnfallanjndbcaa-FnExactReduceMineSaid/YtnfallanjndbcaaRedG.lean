/- Contract of one step of the reduction, the reference's side (written by mk79y8.py). -/
import Derived.Test.YtnfallanjndbcaaRedF
import Derived.Deep.DeepCutAuto
namespace Go.Proofs.Ytnfallanjndbcaa
set_option linter.unusedVariables false
set_option linter.unusedSimpArgs false
open Go.RowKit
def StepRet (w : World) (fr te J : Int) (A : Option Addr) (n c : Nat) (es : List Edg) (e : Ending) (w' : World) : Prop :=
  (RStop fr te J es ∧ e = .returned (.tuple #[.slice A n c, .bool false]) ∧ Below w.heap.size w w') ∨
  (∃ es' b A' n' c', RStep fr te J es es' b ∧ e = .returned (.tuple #[.slice A' n' c', .bool true]) ∧ w'.ownsRow w.heap.size 46 3 (.slice A' n' c') n' (Edg.recs es') ∧ Below w.heap.size w w')
def SdC (es : List Edg) (i k : Nat) : Prop := ∀ i' k', i' < k' → k' < es.length → (i' < i ∨ (i' = i ∧ k' < k)) → jnAt es i' k' = false
theorem sdC_next {es : List Edg} {i k : Nat} (h : SdC es i k) (h1 : jnAt es i k = false) : SdC es i (k + 1) := fun i' k' g1 g2 g3 => by
  rcases g3 with g | ⟨rfl, g⟩
  · exact h i' k' g1 g2 (.inl g)
  · rcases Nat.lt_succ_iff_lt_or_eq.1 g with g | rfl
    · exact h i' k' g1 g2 (.inr ⟨rfl, g⟩)
    · exact h1
theorem sdC_row {es : List Edg} {i k : Nat} (h : SdC es i k) (hk : es.length ≤ k) : SdC es (i + 1) 0 := fun i' k' g1 g2 g3 => by
  rcases g3 with g | ⟨rfl, g⟩
  · rcases Nat.lt_succ_iff_lt_or_eq.1 g with g | rfl
    · exact h i' k' g1 g2 (.inl g)
    · exact h i' k' g1 g2 (.inr ⟨rfl, by omega⟩)
  · omega
theorem getD_erase {es : List Edg} {i k : Nat} (h : i < k) : (es.eraseIdx k).getD i default = es.getD i default := by
  rw [List.getD_eq_getElem?_getD, List.getElem?_eraseIdx, if_pos h, List.getD_eq_getElem?_getD]
theorem edTo_pre (es : List Edg) (j : Int) : ∀ (d k : Nat), edTo es j k <+: edTo es j (k + d)
  | 0, k => List.prefix_refl _
  | d + 1, k => (edTo_pre es j d k).trans (by rw [show k + (d + 1) = (k + d) + 1 by omega, edTo_s]; exact List.prefix_append _ _)
theorem pre_two {t i p q : Nat} (h : [t, i] <+: [p, q]) : p = t ∧ q = i := by
  obtain ⟨r, hr⟩ := h
  simp at hr
  exact ⟨hr.1.symm, hr.2.1.symm⟩
theorem reads_two' {W : World} {g : Nat} {x y : Int} (h0 : W.cell? ⟨g, 0, none⟩ = some (.int .i64 x)) (h1 : W.cell? ⟨g, 1, none⟩ = some (.int .i64 y)) : Reads W W.heap.size 1 (some ⟨g, 0, none⟩) 2 (ints [x, y]) :=
  ⟨rfl, fun _ => ⟨⟨g, 0, none⟩, rfl, block_lt_of_cell h0, fun j u hu => by
    match j with
    | 0 => obtain rfl := Option.some.inj hu; exact h0
    | 1 => obtain rfl := Option.some.inj hu; exact h1
    | j + 2 => simp [ints] at hu⟩⟩
theorem two_list' {xs : List Nat} (h : xs.length = 2) : ∃ p q, xs = [p, q] := by
  match xs, h with
  | [p, q], _ => exact ⟨p, q, rfl⟩
/-- The first place at which a junction's edges begin, or -1. -/
def Fst (es : List Edg) (j : Int) (i : Nat) (f : Int) : Prop := (f = -1 ∧ edTo es j i = []) ∨ (∃ t : Nat, f = (t : Int) ∧ edTo es j i = [t])
theorem nat_eq_one (m : Nat) : (m == 1) = ((m : Int) == 1) := by rw [Bool.eq_iff_iff]; simp; omega
set_option maxHeartbeats 25600000 in
set_option maxRecDepth 100000 in
theorem l08Step_any (base : Nat) (fr te J : Int) (A : Option Addr) (n c : Nat) (es : List Edg) (w : World) (ho : w.ownsRow base 46 3 (.slice A n c) n (Edg.recs es)) (hk : EsOk es) (hJ : 0 ≤ J ∧ J ≤ 16) :
    Calls Try.prog 15 #[.slice A n c, .int .i64 J, .int .i64 fr, .int .i64 te] w (StepRet w fr te J A n c es) := by
  obtain ⟨N, rfl⟩ : ∃ N : Nat, J = (N : Int) := ⟨J.toNat, by omega⟩
  have hel : es.length = n := by have := ho.1; rw [recs_len Edg.clen] at this; omega
  have HL := Lib.hid hel
  have hn : n ≤ 24 := by have := hk.2; omega
  have HO := Lib.hid ho
  have HK := Lib.hid hk
  have HAC : Hid (∀ (W : World) (j : Int), Below w.heap.size w W → Calls Try.prog 29 #[.slice A n c, .int .i64 j] W fun e w' => e = .returned (.int .i64 (edC es j)) ∧ W = w') := fun W j hW => l08At_any base A n c es j W (own_below ho hW) hn
  clear ho hk hel
  go_enter Try.func15, Try.ntmps15
  go_wp2
  go_loopw [10] (fun i wr => ∃ (i' : Nat), i' ≤ n ∧ i = .int .i64 i' ∧ Hid (∀ j, j < i' → deadE fr te es (es.getD j default) = false) ∧ Below w.heap.size w wr) (fun i _ => n - (intOf i).toNat)
  case atStart => exact ⟨0, by omega, rfl, (fun j h => by omega), Below.refl _ _⟩
  case round =>
    obtain ⟨i, hi, rfl, HDB, hbr⟩ := hrel
    obtain ⟨wo, rfl⟩ : ∃ wo : World, wo = wr := ⟨_, rfl⟩
    have hzo := hbr.size
    by_cases hli : i < n
    · obtain ⟨ge, cap, hv, hgb, hgl⟩ := HO.out.form (by omega)
      injection hv with hA _ hcc
      subst hA
      subst hcc
      obtain ⟨x, HX, hxm, e0, e1, e2⟩ := edge_cells (own_below HO.out hbr) hli
      have hiI : (i : Int) < (n : Int) := by omega
      have hbx : Below w.heap.size w (wo.alloc (.cells #[.int .i64 x.a, .int .i64 x.b, .int .i64 x.r] 46)) := hbr.alloc hzo _
      have HCA := Lib.hid (HAC.out _ x.a hbx)
      have HCB := Lib.hid (HAC.out _ x.b hbx)
      have HBX := Lib.hid hbx
      have HD : Hid (deadE fr te es x = (x.a == x.b || (x.a != fr && x.a != te && edC es x.a == 1) || (x.b != fr && x.b != te && edC es x.b == 1))) := rfl
      clear hxm hbx
      go_upto_region 5 with (fail)
      go_cut [12] (fun s12 wx => s12 = .bool (deadE fr te es x) ∧ wx = wo.alloc (.cells #[.int .i64 x.a, .int .i64 x.b, .int .i64 x.r] 46))
      case first =>
        cases c1 : (x.a == x.b)
        · skip
          cases c2 : (x.a != fr)
          · skip
            cases c5 : (x.b != fr)
            · skip
              go_wp2_with (go_at_call 29; first | ((with_reducible refine HCA.out.mono ?_); rintro e w' ⟨rfl, rfl⟩) | ((with_reducible refine HCB.out.mono ?_); rintro e w' ⟨rfl, rfl⟩))
              go_meet
              exact ⟨congrArg Value.bool (by rw [HD.out]; simp [c1, c2, c5]), rfl⟩
            · skip
              cases c6 : (x.b != te)
              · skip
                go_wp2_with (go_at_call 29; first | ((with_reducible refine HCA.out.mono ?_); rintro e w' ⟨rfl, rfl⟩) | ((with_reducible refine HCB.out.mono ?_); rintro e w' ⟨rfl, rfl⟩))
                go_meet
                exact ⟨congrArg Value.bool (by rw [HD.out]; simp [c1, c2, c5, c6]), rfl⟩
              · skip
                cases c7 : (((edC es x.b : Nat) : Int) == 1)
                · skip
                  have d7 : (edC es x.b == 1) = _ := (nat_eq_one _).trans c7
                  go_wp2_with (go_at_call 29; first | ((with_reducible refine HCA.out.mono ?_); rintro e w' ⟨rfl, rfl⟩) | ((with_reducible refine HCB.out.mono ?_); rintro e w' ⟨rfl, rfl⟩))
                  go_meet
                  exact ⟨congrArg Value.bool (by rw [HD.out]; simp [c1, c2, c5, c6, d7]), rfl⟩
                · skip
                  have d7 : (edC es x.b == 1) = _ := (nat_eq_one _).trans c7
                  go_wp2_with (go_at_call 29; first | ((with_reducible refine HCA.out.mono ?_); rintro e w' ⟨rfl, rfl⟩) | ((with_reducible refine HCB.out.mono ?_); rintro e w' ⟨rfl, rfl⟩))
                  go_meet
                  exact ⟨congrArg Value.bool (by rw [HD.out]; simp [c1, c2, c5, c6, d7]), rfl⟩
          · skip
            cases c3 : (x.a != te)
            · skip
              cases c5 : (x.b != fr)
              · skip
                go_wp2_with (go_at_call 29; first | ((with_reducible refine HCA.out.mono ?_); rintro e w' ⟨rfl, rfl⟩) | ((with_reducible refine HCB.out.mono ?_); rintro e w' ⟨rfl, rfl⟩))
                go_meet
                exact ⟨congrArg Value.bool (by rw [HD.out]; simp [c1, c2, c3, c5]), rfl⟩
              · skip
                cases c6 : (x.b != te)
                · skip
                  go_wp2_with (go_at_call 29; first | ((with_reducible refine HCA.out.mono ?_); rintro e w' ⟨rfl, rfl⟩) | ((with_reducible refine HCB.out.mono ?_); rintro e w' ⟨rfl, rfl⟩))
                  go_meet
                  exact ⟨congrArg Value.bool (by rw [HD.out]; simp [c1, c2, c3, c5, c6]), rfl⟩
                · skip
                  cases c7 : (((edC es x.b : Nat) : Int) == 1)
                  · skip
                    have d7 : (edC es x.b == 1) = _ := (nat_eq_one _).trans c7
                    go_wp2_with (go_at_call 29; first | ((with_reducible refine HCA.out.mono ?_); rintro e w' ⟨rfl, rfl⟩) | ((with_reducible refine HCB.out.mono ?_); rintro e w' ⟨rfl, rfl⟩))
                    go_meet
                    exact ⟨congrArg Value.bool (by rw [HD.out]; simp [c1, c2, c3, c5, c6, d7]), rfl⟩
                  · skip
                    have d7 : (edC es x.b == 1) = _ := (nat_eq_one _).trans c7
                    go_wp2_with (go_at_call 29; first | ((with_reducible refine HCA.out.mono ?_); rintro e w' ⟨rfl, rfl⟩) | ((with_reducible refine HCB.out.mono ?_); rintro e w' ⟨rfl, rfl⟩))
                    go_meet
                    exact ⟨congrArg Value.bool (by rw [HD.out]; simp [c1, c2, c3, c5, c6, d7]), rfl⟩
            · skip
              cases c4 : (((edC es x.a : Nat) : Int) == 1)
              · skip
                have d4 : (edC es x.a == 1) = _ := (nat_eq_one _).trans c4
                cases c5 : (x.b != fr)
                · skip
                  go_wp2_with (go_at_call 29; first | ((with_reducible refine HCA.out.mono ?_); rintro e w' ⟨rfl, rfl⟩) | ((with_reducible refine HCB.out.mono ?_); rintro e w' ⟨rfl, rfl⟩))
                  go_meet
                  exact ⟨congrArg Value.bool (by rw [HD.out]; simp [c1, c2, c3, d4, c5]), rfl⟩
                · skip
                  cases c6 : (x.b != te)
                  · skip
                    go_wp2_with (go_at_call 29; first | ((with_reducible refine HCA.out.mono ?_); rintro e w' ⟨rfl, rfl⟩) | ((with_reducible refine HCB.out.mono ?_); rintro e w' ⟨rfl, rfl⟩))
                    go_meet
                    exact ⟨congrArg Value.bool (by rw [HD.out]; simp [c1, c2, c3, d4, c5, c6]), rfl⟩
                  · skip
                    cases c7 : (((edC es x.b : Nat) : Int) == 1)
                    · skip
                      have d7 : (edC es x.b == 1) = _ := (nat_eq_one _).trans c7
                      go_wp2_with (go_at_call 29; first | ((with_reducible refine HCA.out.mono ?_); rintro e w' ⟨rfl, rfl⟩) | ((with_reducible refine HCB.out.mono ?_); rintro e w' ⟨rfl, rfl⟩))
                      go_meet
                      exact ⟨congrArg Value.bool (by rw [HD.out]; simp [c1, c2, c3, d4, c5, c6, d7]), rfl⟩
                    · skip
                      have d7 : (edC es x.b == 1) = _ := (nat_eq_one _).trans c7
                      go_wp2_with (go_at_call 29; first | ((with_reducible refine HCA.out.mono ?_); rintro e w' ⟨rfl, rfl⟩) | ((with_reducible refine HCB.out.mono ?_); rintro e w' ⟨rfl, rfl⟩))
                      go_meet
                      exact ⟨congrArg Value.bool (by rw [HD.out]; simp [c1, c2, c3, d4, c5, c6, d7]), rfl⟩
              · skip
                have d4 : (edC es x.a == 1) = _ := (nat_eq_one _).trans c4
                go_wp2_with (go_at_call 29; first | ((with_reducible refine HCA.out.mono ?_); rintro e w' ⟨rfl, rfl⟩) | ((with_reducible refine HCB.out.mono ?_); rintro e w' ⟨rfl, rfl⟩))
                go_meet
                exact ⟨congrArg Value.bool (by rw [HD.out]; simp [c1, c2, c3, d4]), rfl⟩
        · skip
          go_wp2_with (go_at_call 29; first | ((with_reducible refine HCA.out.mono ?_); rintro e w' ⟨rfl, rfl⟩) | ((with_reducible refine HCB.out.mono ?_); rintro e w' ⟨rfl, rfl⟩))
          go_meet
          exact ⟨congrArg Value.bool (by rw [HD.out]; simp [c1]), rfl⟩
      obtain ⟨rfl, rfl⟩ := hcut
      cases hd : deadE fr te es x
      · have HN : Hid (∀ j, j < i + 1 → deadE fr te es (es.getD j default) = false) := fun j hj => by
          rcases Nat.lt_succ_iff_lt_or_eq.1 hj with h | rfl
          · exact HDB.out j h
          · rw [HX.out]; exact hd
        clear hd
        go_wp2
        go_roundw
        case rel => exact ⟨i + 1, by omega, by go_num, HN.out, HBX.out⟩
        case measure => simp [intOf]; omega
      · have HRM : Hid (rmOf fr te es = some i) := rm_some (by rw [HL.out]; exact hli) (by rw [HX.out]; exact hd) HDB.out
        have HW := Lib.hid (l08Without_any base ge n c i es _ (own_below HO.out HBX.out) hli hn)
        clear hd
        go_wp2_with fail; ((with_reducible refine HW.out.mono ?_); rintro e w3 ⟨A3, c3, rfl, ho3, hb3⟩)
        have HO3 := Lib.hid ho3
        clear ho3
        go_wp2
        go_ret2
        exact .inr ⟨_, false, A3, n - 1, c3, RStep.rm i HRM.out, rfl, own_base HO3.out HBX.out.size, HBX.out.trans (hb3.mono HBX.out.size)⟩
    · have HRM : Hid (rmOf fr te es = none) := rm_none fun j hj => HDB.out j (by rw [HL.out] at hj; omega)
      obtain ⟨w1, rfl⟩ : ∃ t : World, t = wo := ⟨_, rfl⟩
      have HB1 := Lib.hid hbr
      clear HDB hbr
      go_wp2
      go_loopw [13] (fun i wr => ∃ (i' : Nat), i' ≤ n ∧ i = .int .i64 i' ∧ Hid (SdC es i' 0) ∧ Below w.heap.size w wr) (fun i _ => n - (intOf i).toNat)
      case atStart => exact ⟨0, by omega, rfl, (fun i' k' _ _ g => by omega), HB1.out⟩
      case round =>
        clear hi hzo HB1
        obtain ⟨i, hi, rfl, HSB, hbr⟩ := hrel
        obtain ⟨wo, rfl⟩ : ∃ wo : World, wo = wr := ⟨_, rfl⟩
        have hzo := hbr.size
        have HBo := Lib.hid hbr
        by_cases hli : i < n
        · obtain ⟨ge, cap, hv, hgb, hgl⟩ := HO.out.form (by omega)
          injection hv with hA _ hcc
          subst hA
          subst hcc
          have hiI : (i : Int) < (n : Int) := by omega
          have hwi : IntKind.i64.wrap ((i : Int) + 1) = (i : Int) + 1 := IntWalk.i64_in _ (by omega)
          clear hbr
          go_wp2
          go_loopw [14] (fun q wr => ∃ (k : Nat), i + 1 ≤ k ∧ k ≤ n ∧ q = .int .i64 k ∧ Hid (SdC es i k) ∧ Below w.heap.size w wr) (fun q _ => n - (intOf q).toNat)
          case atStart => exact ⟨i + 1, by omega, by omega, by go_num, (fun i' k' g1 g2 g3 => by
            rcases g3 with g | ⟨rfl, g⟩
            · exact HSB.out i' k' g1 g2 (.inl g)
            · omega), HBo.out⟩
          case round =>
            obtain ⟨k, hk1, hk2, rfl, HSK, hbk⟩ := hrel
            obtain ⟨wp, rfl⟩ : ∃ wp : World, wp = wr := ⟨_, rfl⟩
            have hzp := hbk.size
            have HBp := Lib.hid hbk
            by_cases hlk : k < n
            · obtain ⟨x, HX, hxm, e0, e1, e2⟩ := edge_cells (own_below HO.out hbk) hli
              obtain ⟨y, HY, hym, f0, f1, f2⟩ := edge_cells (own_below HO.out hbk) hlk
              have hkI : (k : Int) < (n : Int) := by omega
              have hxo := HK.out.1 x hxm
              have hyo := HK.out.1 y hym
              have g0 := (World.cell?_alloc_lt wp (.cells #[.int .i64 x.a, .int .i64 x.b, .int .i64 x.r] 46) _ (block_lt_of_cell f0)).trans f0
              have g1 := (World.cell?_alloc_lt wp (.cells #[.int .i64 x.a, .int .i64 x.b, .int .i64 x.r] 46) _ (block_lt_of_cell f1)).trans f1
              have g2 := (World.cell?_alloc_lt wp (.cells #[.int .i64 x.a, .int .i64 x.b, .int .i64 x.r] 46) _ (block_lt_of_cell f2)).trans f2
              have HJV : Hid (jnAt es i k = ((x.a == y.a && x.b == y.b) || (x.a == y.b && x.b == y.a))) := show _ = _ by unfold jnAt; rw [HX.out, HY.out]; rfl
              clear hxm hym hbk
              go_upto_region 16 with (fail)
              go_cut [15, 16, 128] (fun s15 s16 s128 wx => s15 = .pointer (some ⟨wp.heap.size, 0, none⟩) ∧ s16 = .pointer (some ⟨wp.heap.size + 1, 0, none⟩) ∧ s128 = .bool (jnAt es i k) ∧ wx = (wp.alloc (.cells #[.int .i64 x.a, .int .i64 x.b, .int .i64 x.r] 46)).alloc (.cells #[.int .i64 y.a, .int .i64 y.b, .int .i64 y.r] 46))
              case first =>
                cases c1 : (x.a == y.a) <;> cases c2 : (x.b == y.b) <;> cases c3 : (x.a == y.b) <;> cases c4 : (x.b == y.a)
                all_goals
                  go_wp2_with fail
                  go_meet
                  exact ⟨rfl, rfl, congrArg Value.bool (by rw [HJV.out]; simp [c1, c2, c3, c4]), rfl⟩
              obtain ⟨rfl, rfl, rfl, rfl⟩ := hcut
              have hbw : Below w.heap.size w ((wp.alloc (.cells #[.int .i64 x.a, .int .i64 x.b, .int .i64 x.r] 46)).alloc (.cells #[.int .i64 y.a, .int .i64 y.b, .int .i64 y.r] 46)) := (HBp.out.alloc hzp _).alloc (by simp; omega) _
              have HBw := Lib.hid hbw
              cases hjn : jnAt es i k
              · have HN := Lib.hid (sdC_next HSK.out hjn)
                clear hjn hbw
                go_wp2
                go_roundw
                case rel => exact ⟨k + 1, by omega, by omega, by go_num, HN.out, HBw.out⟩
                case measure => simp [intOf]; omega
              · have HAT : Hid (SdAt es i k) := ⟨by omega, by rw [HL.out]; exact hlk, hjn, HSK.out⟩
                have HW := Lib.hid (l08Without_any base ge n c k es _ (own_below HO.out hbw) hlk hn)
                have hX2 := (Blk.new wp 46 #[.int .i64 x.a, .int .i64 x.b, .int .i64 x.r]).alloc (.cells #[.int .i64 y.a, .int .i64 y.b, .int .i64 y.r] 46)
                have hY2 := Blk.new (wp.alloc (.cells #[.int .i64 x.a, .int .i64 x.b, .int .i64 x.r] 46)) 46 #[.int .i64 y.a, .int .i64 y.b, .int .i64 y.r]
                rw [show (wp.alloc (.cells #[.int .i64 x.a, .int .i64 x.b, .int .i64 x.r] 46)).heap.size = wp.heap.size + 1 by simp] at hY2
                clear hjn hbw e0 e1 e2 f0 f1 f2 g0 g1 g2 HJV
                generalize (wp.alloc (.cells #[.int .i64 x.a, .int .i64 x.b, .int .i64 x.r] 46)).alloc (.cells #[.int .i64 y.a, .int .i64 y.b, .int .i64 y.r] 46) = wq at *
                go_wp2_with fail; ((with_reducible refine HW.out.mono ?_); rintro e w3 ⟨A3, c3, rfl, ho3, hb3⟩)
                obtain ⟨go, cap3, hv3, hgo, hgo2⟩ := ho3.form (by omega)
                injection hv3 with hA3 _ hc3
                subst hA3
                subst hc3
                have HX3 := Lib.hid (hX2.below hb3 hX2.lt)
                have HY3 := Lib.hid (hY2.below hb3 hY2.lt)
                have HO3 := Lib.hid ho3
                have HB3 := Lib.hid (HBw.out.trans (hb3.mono HBw.out.size))
                have hz3 := HB3.out.size
                have hzq : w.heap.size ≤ wq.heap.size := HBw.out.size
                have a2 : w3.cell? ⟨wp.heap.size, 2, none⟩ = some (.int .i64 x.r) := (HX3.out.cell 2).trans rfl
                have b2 : w3.cell? ⟨wp.heap.size + 1, 2, none⟩ = some (.int .i64 y.r) := (HY3.out.cell 2).trans rfl
                obtain ⟨cur3, hG3, hrest3⟩ := own_open ho3
                obtain ⟨x3, hx3, hm3, q0, q1, q2⟩ := edge_cells ho3 (show i < n - 1 by omega)
                have q2' := (World.cell?_alloc_lt w3 (.cells #[.int .i64 x.r, .int .i64 y.r] 2) _ (block_lt_of_cell q2)).trans q2
                have f2' := (hG3.alloc (.cells #[.int .i64 x.r, .int .i64 y.r] 2)).frozen (i * 3 + 2)
                have h0 : (w3.alloc (.cells #[.int .i64 x.r, .int .i64 y.r] 2)).cell? ⟨w3.heap.size, 0, none⟩ = some (.int .i64 x.r) := ((Blk.new w3 2 #[.int .i64 x.r, .int .i64 y.r]).cell 0).trans rfl
                have h1 : (w3.alloc (.cells #[.int .i64 x.r, .int .i64 y.r] 2)).cell? ⟨w3.heap.size, 1, none⟩ = some (.int .i64 y.r) := ((Blk.new w3 2 #[.int .i64 x.r, .int .i64 y.r]).cell 1).trans rfl
                have HP := Lib.hid (l08Parallel_any (some ⟨w3.heap.size, 0, none⟩) 2 2 [x.r, y.r] _ (reads_two' h0 h1) (by omega) (by omega) (fun z hz => by
                  rcases List.mem_cons.1 hz with rfl | hz
                  · exact decide_eq_true hxo.2.2
                  · rw [List.mem_singleton] at hz; subst hz; exact decide_eq_true hyo.2.2))
                have hki : (i : Int) < ((n - 1 : Nat) : Int) := by omega
                have HV : Hid (({ (es.eraseIdx k).getD i default with r := par [x.r, y.r] } : Edg) = { es.getD i default with r := par [(es.getD i default).r, (es.getD k default).r] }) := show _ = _ by rw [getD_erase (by omega), HX.out, HY.out]
                have HE1 := Lib.hid (own_edit1 ho3 (show i < n - 1 by omega) (par [x.r, y.r]))
                clear ho3 hb3 hG3 hrest3 q0 q1 q2 hx3 hm3 h0 h1 hX2 hY2
                go_wp2_with fail; ((with_reducible refine HP.out.mono ?_); rintro e w' ⟨rfl, rfl⟩)
                go_wp2
                go_ret2
                refine .inr ⟨sdE es i k, false, some ⟨go, 0, none⟩, n - 1, c3, RStep.sd i k HRM.out HAT.out, rfl, ?_, (HB3.out.setCell (p := ⟨go, i * 3 + 2, none⟩) (by show w.heap.size ≤ go; omega) _).alloc (by simpa [World.setCell] using hz3) _⟩
                have he := own_base (HE1.out.alloc (.cells #[.int .i64 x.r, .int .i64 y.r] 2)) hzq
                rw [HV.out, set_erase (by omega)] at he
                exact he
            · have HN := Lib.hid (sdC_row HSK.out (by rw [HL.out]; omega))
              go_wp2
              go_roundw
              case rel => exact ⟨i + 1, by omega, by go_num, HN.out, HBp.out⟩
              case measure => simp [intOf]; omega
        · have HNO : Hid (SdNo es) := fun i' k' g1 g2 => HSB.out i' k' g1 g2 (.inl (by rw [HL.out] at g2; omega))
          obtain ⟨w1, rfl⟩ : ∃ t : World, t = wo := ⟨_, rfl⟩
          clear HSB hbr
          go_wp2
          go_loopw [18] (fun i wr => ∃ (k : Nat), k ≤ N ∧ i = .int .i64 k ∧ Hid (∀ j', 0 ≤ j' → j' < (k : Int) → twoJ fr te es j' = false) ∧ Below w.heap.size w wr) (fun i _ => N - (intOf i).toNat)
          case atStart => exact ⟨0, by omega, rfl, (fun j' h1 h2 => by omega), HBo.out⟩
          case round =>
            clear HBo hzo hi
            obtain ⟨k, hk, rfl, HN, hbr⟩ := hrel
            obtain ⟨wo, rfl⟩ : ∃ wo : World, wo = wr := ⟨_, rfl⟩
            have hzo := hbr.size
            have HBo := Lib.hid hbr
            by_cases hlk : k < N
            · have hkI : (k : Int) < (N : Int) := by omega
              have HAk := Lib.hid (HAC.out wo (k : Int) hbr)
              have HCE : Hid (edC es (k : Int) = (edI es (k : Int)).length) := edC_eq (k : Int) fun e he => rm_loop HRM.out he
              have HT : Hid (twoJ fr te es (k : Int) = ((k : Int) != fr && (k : Int) != te && (edI es (k : Int)).length == 2)) := rfl
              have next : Hid (twoJ fr te es (k : Int) = false → ∀ j', 0 ≤ j' → j' < ((k + 1 : Nat) : Int) → twoJ fr te es j' = false) := fun hf j' h1 h2 => by
                by_cases hj : j' = (k : Int)
                · rw [hj]; exact hf
                · exact HN.out j' h1 (by omega)
              clear hbr
              cases k1 : ((k : Int) == fr)
              · cases k2 : ((k : Int) == te)
                · cases k3 : (((edC es (k : Int) : Nat) : Int) != 2)
                  · have hN2 : (edI es (k : Int)).length = 2 := by have := HCE.out; simp at k3; omega
                    obtain ⟨p, q, hpq⟩ := two_list' hN2
                    have HAT : Hid (EnAt fr te (N : Int) es (k : Int) p q) := ⟨by omega, hkI, by rw [HT.out, hN2]; simp only [bne, k1, k2]; rfl, hpq, HN.out⟩
                    have hq := (en_pq HAT.out).2.1
                    rw [HL.out] at hq
                    obtain ⟨ge, cap, hv, hgb, hgl⟩ := HO.out.form (by omega)
                    injection hv with hA _ hcc
                    subst hA
                    subst hcc
                    have HPQ := Lib.hid hpq
                    clear hpq hN2 next HT HCE
                    go_wp2_with (go_at_call 29; (with_reducible refine HAk.out.mono ?_); rintro e w' ⟨rfl, rfl⟩)
                    go_loopw [19, 20] (fun f i wr => ∃ (f' : Int) (i' : Nat), i' ≤ n ∧ f = .int .i64 f' ∧ i = .int .i64 i' ∧ Hid (Fst es (k : Int) i' f') ∧ Below w.heap.size w wr) (fun _ i _ => n - (intOf i).toNat)
                    case atStart => exact ⟨-1, 0, by omega, rfl, rfl, .inl ⟨rfl, rfl⟩, HBo.out⟩
                    case round =>
                      obtain ⟨f, i, hi, rfl, rfl, HF, hbi⟩ := hrel
                      obtain ⟨wp, rfl⟩ : ∃ wp : World, wp = wr := ⟨_, rfl⟩
                      have hzp := hbi.size
                      have HBp := Lib.hid hbi
                      have HEI : Hid (edI es (k : Int) = edTo es (k : Int) n) := show _ = _ by unfold edI edTo; rw [HL.out]
                      by_cases hli : i < n
                      · obtain ⟨y, HY, hym, f0, f1, f2⟩ := edge_cells (own_below HO.out hbi) hli
                        have hiI : (i : Int) < (n : Int) := by omega
                        have hyo := HK.out.1 y hym
                        have HS := Lib.hid (edTo_s es (k : Int) i)
                        clear hym
                        by_cases htch : y.has (k : Int) = true
                        · have HS1 : Hid (edTo es (k : Int) (i + 1) = edTo es (k : Int) i ++ [i]) := show _ = _ by rw [HS.out, HY.out, if_pos htch]
                          rcases HF.out with ⟨rfl, hf0⟩ | ⟨t, rfl, hf0⟩
                          · have HF1 : Hid (Fst es (k : Int) (i + 1) (i : Int)) := .inr ⟨i, rfl, by rw [HS1.out, hf0]; rfl⟩
                            unfold Edg.has at htch
                            clear hf0 hbi
                            cases c1 : (y.a == (k : Int)) <;> cases c2 : (y.b == (k : Int)) <;> rw [c1, c2] at htch <;> first | (exact absurd htch (by decide)) | skip
                            all_goals
                              clear htch
                              have n1 : (y.a != (k : Int)) = !(y.a == (k : Int)) := rfl
                              have n2 : (y.b != (k : Int)) = !(y.b == (k : Int)) := rfl
                              rw [c1] at n1
                              rw [c2] at n2
                              go_wp2
                              go_roundw
                              case rel => exact ⟨(i : Int), i + 1, by omega, rfl, by go_num, HF1.out, HBp.out⟩
                              case measure => simp [intOf]; omega
                          · have hpre : edTo es (k : Int) (i + 1) <+: edTo es (k : Int) n := by
                              have := edTo_pre es (k : Int) (n - (i + 1)) (i + 1)
                              rwa [show i + 1 + (n - (i + 1)) = n by omega] at this
                            rw [← HEI.out, HPQ.out, HS1.out, hf0] at hpre
                            obtain ⟨rfl, rfl⟩ := pre_two hpre
                            obtain ⟨pq1, pq2, pq3, pq4⟩ := en_pq HAT.out
                            have hpn : p < n := by omega
                            obtain ⟨x, HX, hxm, e0, e1, e2⟩ := edge_cells (own_below HO.out hbi) hpn
                            have hxo := HK.out.1 x hxm
                            have hpI : (p : Int) < (n : Int) := by omega
                            have hp0 : decide ((p : Int) < 0) = false := decide_eq_false (by omega)
                            have g0 := (World.cell?_alloc_lt wp (.cells #[.int .i64 x.a, .int .i64 x.b, .int .i64 x.r] 46) _ (block_lt_of_cell f0)).trans f0
                            have g1 := (World.cell?_alloc_lt wp (.cells #[.int .i64 x.a, .int .i64 x.b, .int .i64 x.r] 46) _ (block_lt_of_cell f1)).trans f1
                            have g2 := (World.cell?_alloc_lt wp (.cells #[.int .i64 x.a, .int .i64 x.b, .int .i64 x.r] 46) _ (block_lt_of_cell f2)).trans f2
                            have hbw : Below w.heap.size w ((wp.alloc (.cells #[.int .i64 x.a, .int .i64 x.b, .int .i64 x.r] 46)).alloc (.cells #[.int .i64 y.a, .int .i64 y.b, .int .i64 y.r] 46)) := (hbi.alloc hzp _).alloc (by simp; omega) _
                            have HBw := Lib.hid hbw
                            have HW := Lib.hid (l08Without_any base ge n c q es _ (own_below HO.out hbw) hli hn)
                            have hX2 := (Blk.new wp 46 #[.int .i64 x.a, .int .i64 x.b, .int .i64 x.r]).alloc (.cells #[.int .i64 y.a, .int .i64 y.b, .int .i64 y.r] 46)
                            have hY2 := Blk.new (wp.alloc (.cells #[.int .i64 x.a, .int .i64 x.b, .int .i64 x.r] 46)) 46 #[.int .i64 y.a, .int .i64 y.b, .int .i64 y.r]
                            rw [show (wp.alloc (.cells #[.int .i64 x.a, .int .i64 x.b, .int .i64 x.r] 46)).heap.size = wp.heap.size + 1 by simp] at hY2
                            have HX2 := Lib.hid hX2
                            have HY2 := Lib.hid hY2
                            unfold Edg.ok at hxo hyo
                            unfold Edg.has at htch
                            have w1' : IntKind.i64.wrap (x.a + x.b) = x.a + x.b := IntWalk.i64_in _ (by omega)
                            clear w1'
                            clear hbw hX2 hY2 hxm hpre hf0 hbi pq3 pq4
                            cases c1 : (y.a == (k : Int)) <;> cases c2 : (y.b == (k : Int)) <;> rw [c1, c2] at htch <;> first | (exact absurd htch (by decide)) | skip
                            all_goals
                              clear htch
                              have n1 : (y.a != (k : Int)) = !(y.a == (k : Int)) := rfl
                              have n2 : (y.b != (k : Int)) = !(y.b == (k : Int)) := rfl
                              rw [c1] at n1
                              rw [c2] at n2
                              go_wp2_with fail; ((with_reducible refine HW.out.mono ?_); rintro e w3 ⟨A3, c3, rfl, ho3, hb3⟩)
                              obtain ⟨go, cap3, hv3, hgo, hgo2⟩ := ho3.form (by omega)
                              injection hv3 with hA3 _ hc3
                              subst hA3
                              subst hc3
                              have HX3 := Lib.hid (HX2.out.below hb3 HX2.out.lt)
                              have HY3 := Lib.hid (HY2.out.below hb3 HY2.out.lt)
                              have HB3 := Lib.hid (HBw.out.trans (hb3.mono HBw.out.size))
                              have hz3 := HB3.out.size
                              have hzq := HBw.out.size
                              have a0 : w3.cell? ⟨wp.heap.size, 0, none⟩ = some (.int .i64 x.a) := (HX3.out.cell 0).trans rfl
                              have a1 : w3.cell? ⟨wp.heap.size, 1, none⟩ = some (.int .i64 x.b) := (HX3.out.cell 1).trans rfl
                              have a2 : w3.cell? ⟨wp.heap.size, 2, none⟩ = some (.int .i64 x.r) := (HX3.out.cell 2).trans rfl
                              have b0 : w3.cell? ⟨wp.heap.size + 1, 0, none⟩ = some (.int .i64 y.a) := (HY3.out.cell 0).trans rfl
                              have b1 : w3.cell? ⟨wp.heap.size + 1, 1, none⟩ = some (.int .i64 y.b) := (HY3.out.cell 1).trans rfl
                              have b2 : w3.cell? ⟨wp.heap.size + 1, 2, none⟩ = some (.int .i64 y.r) := (HY3.out.cell 2).trans rfl
                              obtain ⟨cur3, hG3, hrest3⟩ := own_open ho3
                              obtain ⟨x3, hx3, hm3, q0, q1, q2⟩ := edge_cells ho3 (show p < n - 1 by omega)
                              have z0 := hG3.frozen (p * 3)
                              have z1 := hG3.frozen (p * 3 + 1)
                              have z2 := hG3.frozen (p * 3 + 2)
                              have hpk : (p : Int) < ((n - 1 : Nat) : Int) := by omega
                              have HE3 := Lib.hid (own_edit3 ho3 (show p < n - 1 by omega) (x.a + x.b - (k : Int)) (y.a + y.b - (k : Int)) (x.r + y.r))
                              have HV : Hid (enE es (k : Int) p q = (es.set p ⟨x.a + x.b - (k : Int), y.a + y.b - (k : Int), x.r + y.r⟩).eraseIdx q) := show _ = _ by unfold enE enSum; rw [HX.out, HY.out]
                              clear ho3 hb3 hG3 hrest3 hx3 hm3 e0 e1 e2 f0 f1 f2 g0 g1 g2
                              go_wp2
                              go_ret2
                              refine .inr ⟨enE es (k : Int) p q, _, some ⟨go, 0, none⟩, n - 1, c3, RStep.en (k : Int) p q HRM.out HNO.out HAT.out, rfl, ?_, ((HB3.out.setCell (p := ⟨go, p * 3, none⟩) (by show w.heap.size ≤ go; omega) _).setCell (p := ⟨go, p * 3 + 1, none⟩) (by show w.heap.size ≤ go; omega) _).setCell (p := ⟨go, p * 3 + 2, none⟩) (by show w.heap.size ≤ go; omega) _⟩
                              have he := own_base HE3.out hzq
                              rw [set_erase (by omega), ← HV.out] at he
                              exact he
                        · have HF1 : Hid (Fst es (k : Int) (i + 1) f) := by
                            have e : edTo es (k : Int) (i + 1) = edTo es (k : Int) i := by rw [HS.out, HY.out, if_neg htch, List.append_nil]
                            have h := HF.out
                            unfold Fst at h
                            rw [← e] at h
                            exact h
                          unfold Edg.has at htch
                          clear hbi
                          cases c1 : (y.a == (k : Int)) <;> cases c2 : (y.b == (k : Int)) <;> rw [c1, c2] at htch <;> first | (exact absurd rfl htch) | skip
                          clear htch
                          have n1 : (y.a != (k : Int)) = true := by unfold bne; rw [c1]; rfl
                          have n2 : (y.b != (k : Int)) = true := by unfold bne; rw [c2]; rfl
                          go_wp2
                          go_roundw
                          case rel => exact ⟨f, i + 1, by omega, rfl, by go_num, HF1.out, HBp.out⟩
                          case measure => simp [intOf]; omega
                      · exfalso
                        have e : i = n := by omega
                        subst e
                        rcases HF.out with ⟨_, hf0⟩ | ⟨t, _, hf0⟩ <;> rw [← HEI.out, HPQ.out] at hf0 <;> simp at hf0
                  · have HF : Hid (twoJ fr te es (k : Int) = false) := show _ = _ by rw [HT.out, ← HCE.out]; simp at k3 ⊢; intro _ _; omega
                    have HNx := Lib.hid (next.out HF.out)
                    clear next HT HCE
                    go_wp2_with (go_at_call 29; (with_reducible refine HAk.out.mono ?_); rintro e w' ⟨rfl, rfl⟩)
                    go_roundw
                    case rel => exact ⟨k + 1, by omega, by go_num, HNx.out, HBo.out⟩
                    case measure => simp [intOf]; omega
                · have HF : Hid (twoJ fr te es (k : Int) = false) := show _ = _ by rw [HT.out]; simp only [bne, k2]; simp
                  have HNx := Lib.hid (next.out HF.out)
                  clear next HT HCE
                  go_wp2
                  go_roundw
                  case rel => exact ⟨k + 1, by omega, by go_num, HNx.out, HBo.out⟩
                  case measure => simp [intOf]; omega
              · have HF : Hid (twoJ fr te es (k : Int) = false) := show _ = _ by rw [HT.out]; simp only [bne, k1]; simp
                have HNx := Lib.hid (next.out HF.out)
                clear next HT HCE
                go_wp2
                go_roundw
                case rel => exact ⟨k + 1, by omega, by go_num, HNx.out, HBo.out⟩
                case measure => simp [intOf]; omega
            · have e : k = N := by omega
              subst e
              go_wp2
              go_ret2
              exact .inl ⟨⟨HRM.out, HNO.out, HN.out⟩, rfl, HBo.out⟩
end Go.Proofs.Ytnfallanjndbcaa
