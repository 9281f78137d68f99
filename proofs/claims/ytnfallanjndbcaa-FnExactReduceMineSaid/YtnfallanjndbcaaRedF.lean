/- Contracts of the reduction's small functions, the reference's side: ends at a junction, a list without one. -/
import Derived.Test.YtnfallanjndbcaaRedE
namespace Go.Proofs.Ytnfallanjndbcaa
set_option linter.unusedVariables false
set_option linter.unusedSimpArgs false
open Go.RowKit
theorem edC_snoc (es : List Edg) (j : Int) (k : Nat) (x : Edg) (h : es[k]? = some x) : edC (es.take (k + 1)) j = edC (es.take k) j + x.ends j := by
  unfold edC
  rw [List.take_add_one, h, List.map_append, List.sum_append]
  simp
theorem edC_bnd (es : List Edg) (j : Int) (k : Nat) : edC (es.take k) j ≤ 2 * k := by
  have h1 := (cnt_le (es.take k) j).2
  have h2 : cntH (es.take k) j ≤ (es.take k).length := List.length_filter_le _ _
  rw [List.length_take] at h2
  omega
theorem info_way : (Try.prog.info? 46).map (fun i => (i.zero, i.size, i.bytes)) = some (some (.agg #[.int .i64 0, .int .i64 0, .int .i64 0]), 3, 24) := by kernel_rfl
theorem edge_at {w : World} {base ge n c k : Nat} {e : TypeId} {es : List Edg} (h : w.ownsRow base e 3 (.slice (some ⟨ge, 0, none⟩) n c) n (Edg.recs es)) (hk : k < n) :
    ∃ x, es[k]? = some x ∧ Hid (es.getD k default = x) ∧ x ∈ es ∧ w.cell? ⟨ge, k * 3, none⟩ = some (.int .i64 x.a) ∧ w.cell? ⟨ge, k * 3 + 1, none⟩ = some (.int .i64 x.b) ∧ w.cell? ⟨ge, k * 3 + 2, none⟩ = some (.int .i64 x.r) := by
  obtain ⟨x, h1, h2, h3⟩ := edge_cells h hk
  have hl : es.length = n := by have := h.1; rw [recs_len Edg.clen] at this; omega
  refine ⟨x, ?_, h1, h2, h3⟩
  have h4 : es.getD k default = x := h1.out
  rw [List.getD_eq_getElem?_getD, List.getElem?_eq_getElem (by omega)] at h4
  rw [List.getElem?_eq_getElem (by omega)]
  exact congrArg some h4
set_option maxHeartbeats 3200000 in
theorem l08At_any (base : Nat) (A : Option Addr) (n c : Nat) (es : List Edg) (j : Int) (w : World) (ho : w.ownsRow base 46 3 (.slice A n c) n (Edg.recs es)) (hn : n ≤ 24) :
    Calls Try.prog 29 #[.slice A n c, .int .i64 j] w fun e w' => e = .returned (.int .i64 (edC es j)) ∧ w = w' := by
  have HL : Hid (es.length = n) := show _ = _ by have := ho.1; rw [recs_len Edg.clen] at this; omega
  go_enter Try.func29, Try.ntmps29
  go_wp2
  go_loop [5, 6] (fun m i => ∃ k : Nat, k ≤ n ∧ i = .int .i64 k ∧ m = .int .i64 (edC (es.take k) j)) (fun _ i => n - (intOf i).toNat)
  case atStart => exact ⟨0, by omega, rfl, rfl⟩
  case round =>
    obtain ⟨k, hk, rfl, rfl⟩ := hrel
    have hb := edC_bnd es j k
    by_cases hlt : k < n
    · obtain ⟨ge, cap, hv, hbb, hll⟩ := ho.form (by omega)
      injection hv with hA _ hcc
      subst hA
      subst hcc
      obtain ⟨x, hx, HX, hxm, e0, e1, e2⟩ := edge_at ho hlt
      have HS := Lib.hid (edC_snoc es j k x hx)
      have hkI : (k : Int) < (n : Int) := by omega
      clear hx hxm
      cases h3 : (x.a == j) <;> cases h4 : (x.b == j)
      all_goals
        have HE : Hid (x.ends j = (if x.a = j then 1 else 0) + (if x.b = j then 1 else 0)) := rfl
        have H3 := Lib.hid h3
        have H4 := Lib.hid h4
        go_wp2
        go_round
        case rel =>
          have g3 := H3.out
          have g4 := H4.out
          simp at g3 g4
          exact ⟨k + 1, by omega, by go_num, by rw [HS.out, HE.out]; simp [g3, g4] <;> omega⟩
        case measure => simp [intOf]; omega
    · have e : k = n := by omega
      have HT : Hid (es.take k = es) := List.take_of_length_le (by rw [HL.out]; omega)
      rw [HT.out] at *
      go_wp2
      go_ret
      exact ⟨rfl, rfl⟩
set_option maxHeartbeats 3200000 in
theorem l08Without_any (base ge n c k : Nat) (es : List Edg) (w : World) (ho : w.ownsRow base 46 3 (.slice (some ⟨ge, 0, none⟩) n c) n (Edg.recs es)) (hk : k < n) (hn : n ≤ 24) :
    Calls Try.prog 30 #[.slice (some ⟨ge, 0, none⟩) n c, .int .i64 (k : Int)] w fun e w' => ∃ A' c', e = .returned (.slice A' (n - 1) c') ∧ w'.ownsRow w.heap.size 46 3 (.slice A' (n - 1) c') (n - 1) (Edg.recs (es.eraseIdx k)) ∧ Below w.heap.size w w' := by
  obtain ⟨i0, hi0, hz0, hz1, hz2⟩ := info_parts info_way
  have hel : es.length = n := by have := ho.1; rw [recs_len Edg.clen] at this; omega
  obtain ⟨cur, hB, hbg, hnc, hcm, hcs, hcur⟩ := own_open ho
  have hgl := hB.lt
  have hcell : ∀ t, t < n * 3 → w.cell? ⟨ge, t, none⟩ = (Edg.recs es)[t]? := fun t ht => (hB.cell t).trans (hcur t ht)
  have HC1 : Hid (∀ t u, (Edg.recs (es.take k))[t]? = some u → w.cell? ((⟨ge, 0, none⟩ : Addr).add t) = some u) := fun t u hu => by
    have ht : t < k * 3 := by
      have := (List.getElem?_eq_some_iff.1 hu).1
      rw [recs_len Edg.clen, List.length_take, hel, Nat.min_eq_left (by omega)] at this
      exact this
    rw [recs_take, List.getElem?_take, if_pos ht] at hu
    rw [Addr.add_lit, Nat.zero_add]
    exact (hcell t (by omega)).trans hu
  obtain ⟨A2, hA2, HC2⟩ : ∃ A2 : Addr, (if c = k + 1 then some (⟨ge, 0, none⟩ : Addr) else some ⟨ge, (k + 1) * 3, none⟩) = some A2 ∧ Hid (A2.block = ge ∧ ∀ t u, (Edg.recs (es.drop (k + 1)))[t]? = some u → w.cell? (A2.add t) = some u) := by
    by_cases h : c = k + 1
    · refine ⟨⟨ge, 0, none⟩, by simp [h], rfl, fun t u hu => ?_⟩
      have h0 : (Edg.recs (es.drop (k + 1))).length = 0 := by rw [recs_len Edg.clen, List.length_drop, hel]; omega
      rw [List.length_eq_zero_iff.1 h0] at hu
      simp at hu
    · refine ⟨⟨ge, (k + 1) * 3, none⟩, by simp [h], rfl, fun t u hu => ?_⟩
      have ht : t < (n - (k + 1)) * 3 := by
        have := (List.getElem?_eq_some_iff.1 hu).1
        rwa [recs_len Edg.clen, List.length_drop, hel] at this
      rw [recs_drop, List.getElem?_drop] at hu
      rw [Addr.add_lit]
      exact (hcell ((k + 1) * 3 + t) (by omega)).trans hu
  have HL1 : Hid ((Edg.recs (es.take k)).length = k * 3) := show _ = _ by rw [recs_len Edg.clen, List.length_take, hel, Nat.min_eq_left (by omega)]
  have HL2 : Hid ((Edg.recs (es.drop (k + 1))).length = (n - (k + 1)) * 3) := show _ = _ by rw [recs_len Edg.clen, List.length_drop, hel]
  have HE : Hid (Edg.recs (es.take k) ++ Edg.recs (es.drop (k + 1)) = Edg.recs (es.eraseIdx k)) := show _ = _ by
    rw [List.eraseIdx_eq_take_drop_succ]; exact (recs_append _ _ _).symm
  have hkc : k ≤ c := by omega
  have hkc2 : k + 1 ≤ c := by omega
  have hwr : IntKind.i64.wrap ((k : Int) + 1) = (k : Int) + 1 := IntWalk.i64_in _ (by omega)
  have hp1 : (k : Int) + 1 ≤ (n : Int) := by omega
  have hp2 : ((k : Int) + 1).toNat = k + 1 := by omega
  have HN : Hid (k + (n - (k + 1)) = n - 1) := show _ = _ by omega
  clear hcell hcur hB hcs hel ho hp2
  go_enter Try.func30, Try.ntmps30
  go_wp2_with (first
    | (at_builtin; refine wpList_app _ rfl _ _ 42 rfl w.heap.size 46 i0 _ 3 24 Try.underlying42 hi0 hz0 hz1 hz2 rfl (by omega) (some ⟨w.heap.size, 0, none⟩) 0 0 [] rfl (own_empty _ _ _) ⟨ge, 0, none⟩ k c (Edg.recs (es.take k)) rfl HL1.out (fun t u hu => (World.cell?_alloc_lt _ _ _ (by rw [block_of_add]; exact hgl)).trans (HC1.out t u hu)) (recs_one Edg.one _) (by unfold maxLen; omega) (by omega) (by simp) ?_; intro A1 c1 w1 ho1 hb1; simp only [Nat.zero_add, List.nil_append] at ho1; have HO1 := Lib.hid ho1; have HB01 : Hid (Below w.heap.size w w1) := ((Below.refl _ _).alloc (Nat.le_refl _) _).trans hb1; have hz01 := HB01.out.size; clear ho1 hb1)
    | (at_builtin; refine wpList_app _ rfl _ _ 42 rfl w.heap.size 46 i0 _ 3 24 Try.underlying42 hi0 hz0 hz1 hz2 rfl (by omega) A1 k c1 (Edg.recs (es.take k)) (by first | rfl | simp) HO1.out A2 (n - (k + 1)) (c - (k + 1)) (Edg.recs (es.drop (k + 1))) (by first | rfl | simp) HL2.out (fun t u hu => (HB01.out.cell (by rw [block_of_add, HC2.out.1]; exact hgl)).trans (HC2.out.2 t u hu)) (recs_one Edg.one _) (by unfold maxLen; omega) (by omega) hz01 ?_; intro A4 c4 w4 ho4 hb4; have HO4 := Lib.hid ho4; have HB4 := Lib.hid hb4; clear ho4 hb4))
  go_ret
  have ho := HO4.out
  rw [HN.out, HE.out] at ho
  exact ⟨A4, c4, by rw [HN.out]; rfl, ho, HB01.out.trans HB4.out⟩
end Go.Proofs.Ytnfallanjndbcaa
