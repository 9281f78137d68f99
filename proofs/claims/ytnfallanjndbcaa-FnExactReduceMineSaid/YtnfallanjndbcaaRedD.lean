/- Contract of the library's Delete at edges: one edge is taken out, in place. -/
import Derived.Test.YtnfallanjndbcaaRedC
import Derived.Deep.RegionLaw
import Derived.Lib.SliceRun
namespace Go.Proofs.Ytnfallanjndbcaa
set_option linter.unusedVariables false
set_option linter.unusedSimpArgs false
open Go.RowKit
theorem blk_cells_ex {g : Nat} {t : TypeId} : ∀ (vs : List Value) (o : Nat) (w : World) (cur : Array Value), Blk w g t cur → ∃ cur', Blk (w.setCells g o vs) g t cur' ∧ cur'.size = cur.size
  | [], o, w, cur, h => ⟨cur, h, rfl⟩
  | v :: r, o, w, cur, h => by
    obtain ⟨c', h1, h2⟩ := blk_cells_ex r (o + 1) _ _ (h.set_ o v)
    exact ⟨c', h1, by rw [h2]; simp⟩
theorem only_cells {a : World} {g : Nat} : ∀ (vs : List Value) (o : Nat) (w : World), a.grownBy w (some g) → a.grownBy (w.setCells g o vs) (some g)
  | [], o, w, h => h
  | v :: r, o, w, h => only_cells r (o + 1) _ (only_setCell h (p := ⟨g, o, none⟩) (.inl rfl) v)
/-- A row of the call's own is known by its block. -/
theorem own_open {w : World} {base ge n c sz : Nat} {e : TypeId} {xs : List Value} (h : w.ownsRow base e sz (.slice (some ⟨ge, 0, none⟩) n c) n xs) :
    ∃ cur, Blk w ge e cur ∧ base ≤ ge ∧ n ≤ c ∧ c ≤ maxLen ∧ cur.size = c * sz ∧ ∀ j, j < n * sz → cur[j]? = xs[j]? := by
  rcases h.2 with ⟨hv, h0⟩ | ⟨g', cap, cur, hv, hbg, hgb, hnc, hcm, hcs, htake⟩
  · cases hv
  · injection hv with hA _ hc
    injection hA with hA
    injection hA with hA
    subst hA
    subst hc
    refine ⟨cur, hgb, hbg, hnc, hcm, hcs, fun j hj => ?_⟩
    rw [← htake, List.getElem?_take, if_pos hj, Array.getElem?_toList]
theorem own_shut {w : World} {base ge n c sz : Nat} {e : TypeId} {cur : Array Value} {xs : List Value} (hB : Blk w ge e cur) (hb : base ≤ ge) (hn : n ≤ c) (hc : c ≤ maxLen) (hs : cur.size = c * sz) (hl : xs.length = n * sz) (hx : ∀ j, j < n * sz → w.cell? ⟨ge, j, none⟩ = xs[j]?) :
    w.ownsRow base e sz (.slice (some ⟨ge, 0, none⟩) n c) n xs := by
  refine ⟨hl, .inr ⟨ge, c, cur, rfl, hb, hB, hn, hc, hs, ?_⟩⟩
  apply List.ext_getElem?
  intro j
  rw [List.getElem?_take]
  by_cases hj : j < n * sz
  · rw [if_pos hj, Array.getElem?_toList, ← hx j hj, hB.cell]
  · rw [if_neg hj, List.getElem?_eq_none (by omega)]
theorem recs_drop (es : List Edg) (j : Nat) : Edg.recs (es.drop j) = (Edg.recs es).drop (j * 3) := by
  induction es generalizing j with
  | nil => simp [Edg.recs, Go.Proofs.Ytnfallanjndbcaa.recs]
  | cons e t ih =>
    cases j with
    | zero => simp
    | succ j =>
      rw [List.drop_succ_cons, ih]
      show _ = (e.cells ++ Edg.recs t).drop ((j + 1) * 3)
      rw [List.drop_append, List.drop_of_length_le (l := e.cells) (by rw [Edg.clen]; omega), List.nil_append, Edg.clen, show (j + 1) * 3 - 3 = j * 3 by omega]
theorem recs_take (es : List Edg) (j : Nat) : Edg.recs (es.take j) = (Edg.recs es).take (j * 3) := by
  induction es generalizing j with
  | nil => simp [Edg.recs, Go.Proofs.Ytnfallanjndbcaa.recs]
  | cons e t ih =>
    cases j with
    | zero => simp [Edg.recs, Go.Proofs.Ytnfallanjndbcaa.recs]
    | succ j =>
      rw [List.take_succ_cons]
      show e.cells ++ Edg.recs (t.take j) = (e.cells ++ Edg.recs t).take ((j + 1) * 3)
      rw [ih, List.take_append, List.take_of_length_le (l := e.cells) (by rw [Edg.clen]; omega), Edg.clen, show (j + 1) * 3 - 3 = j * 3 by omega]
theorem run_clear3 {P : Program} (w : World) (t e ty : TypeId) (ht : P.underlying t = some (.slice e)) (hv : ∀ w, (zeroValue e).run P w = .ok (.agg #[.int .i64 0, .int .i64 0, .int .i64 0]) w) (b o n c : Nat) (hn : 0 < n)
    (hc : ∀ j, j < n * 3 → (w.cell? ⟨b, o + j, none⟩).isSome = true) (hf : ∀ j, j < n * 3 → w.frozen? ⟨b, o + j, none⟩ = false) :
    (Builtin.clear_ #[t] ty #[.slice (some ⟨b, o, none⟩) n c]).run P w = .ok (.tuple #[]) (w.setCells b o (List.replicate (n * 3) (.int .i64 0))) := by
  have hzc : (Builtin.zeroCells (Value.agg #[.int .i64 0, .int .i64 0, .int .i64 0]).cells n).toList = List.replicate (n * 3) (Value.int .i64 0) := by
    apply List.ext_getElem
    · simp [Builtin.zeroCells, Value.cells]
    · intro i h1 h2
      have h3 : i % 3 < 3 := Nat.mod_lt _ (by omega)
      simp only [Builtin.zeroCells, Value.cells, Array.toList_map, Array.toList_range, List.getElem_map, List.getElem_range, List.getElem_replicate]
      show (#[Value.int .i64 0, Value.int .i64 0, Value.int .i64 0])[i % 3]! = _
      generalize i % 3 = m at *
      match m, h3 with
      | 0, _ => rfl
      | 1, _ => rfl
      | 2, _ => rfl
  have hst := run_storeCells_cells (P := P) b o (List.replicate (n * 3) (Value.int .i64 0)) 0 w (by simpa using hc) (by simpa using hf) (by intro v hv'; rw [List.eq_of_mem_replicate hv']; rfl)
  simp only [Nat.add_zero] at hst
  obtain ⟨m, rfl⟩ : ∃ m, n = m + 1 := ⟨n - 1, by omega⟩
  simp [Builtin.clear_, run_underlying ht, hv, hzc, hst]
theorem info_edge : (Try.prog.info? 57).map (fun i => (i.zero, i.size, i.bytes)) = some (some (.agg #[.int .i64 0, .int .i64 0, .int .i64 0]), 3, 24) := by kernel_rfl
theorem zero_edge : ∀ w, (zeroValue 57).run Try.prog w = .ok (.agg #[.int .i64 0, .int .i64 0, .int .i64 0]) w := fun w => by kernel_rfl
set_option maxHeartbeats 4000000 in
set_option maxRecDepth 1000000 in
theorem deleteIJ_any (base ge n c i j : Nat) (es : List Edg) (w : World) (ho : w.ownsRow base 57 3 (.slice (some ⟨ge, 0, none⟩) n c) n (Edg.recs es)) (hij : i < j) (hj : j ≤ n) (hn : n ≤ 1000) :
    Calls Try.prog 40 #[.slice (some ⟨ge, 0, none⟩) n c, .int .i64 (i : Int), .int .i64 (j : Int)] w fun e w' => e = .returned (.slice (some ⟨ge, 0, none⟩) (i + (n - j)) c) ∧ w'.ownsRow base 57 3 (.slice (some ⟨ge, 0, none⟩) (i + (n - j)) c) (i + (n - j)) (Edg.recs (es.take i ++ es.drop j)) ∧ w.grownBy w' (some ge) := by
  obtain ⟨i0, hi0, hz0, hz1, hz2⟩ := info_parts info_edge
  have hrl : (Edg.recs es).length = n * 3 := ho.1
  have hel : es.length = n := by rw [recs_len Edg.clen] at hrl; omega
  obtain ⟨cur, hB, hbg, hnc, hcm, hcs, hcur⟩ := own_open ho
  have hcell : ∀ t, t < n * 3 → w.cell? ⟨ge, t, none⟩ = (Edg.recs es)[t]? := fun t ht => (hB.cell t).trans (hcur t ht)
  have hsome : ∀ t, t < c * 3 → (w.cell? ⟨ge, t, none⟩).isSome = true := fun t ht => by rw [hB.cell, Array.getElem?_eq_getElem (by omega)]; rfl
  have hfr : ∀ t, w.frozen? ⟨ge, t, none⟩ = false := fun t => hB.frozen t
  obtain ⟨news, hnews⟩ : ∃ news, news = Edg.recs (es.drop j) := ⟨_, rfl⟩
  have hlen : news.length = (n - j) * 3 := by rw [hnews, recs_len Edg.clen, List.length_drop, hel]
  have hget : ∀ t, t < (n - j) * 3 → news[t]? = (Edg.recs es)[j * 3 + t]? := fun t ht => by rw [hnews, recs_drop, List.getElem?_drop]
  obtain ⟨A, hA, hsrc⟩ : ∃ A : Addr, (if c = j then some (⟨ge, 0, none⟩ : Addr) else some ⟨ge, j * 3, none⟩) = some A ∧ Hid (∀ t u, news[t]? = some u → w.drew.cell? (A.add t) = some u) := by
    by_cases h : c = j
    · refine ⟨⟨ge, 0, none⟩, by simp [h], fun t u hu => ?_⟩
      have h0 : news.length = 0 := by rw [hlen]; omega
      rw [List.length_eq_zero_iff.1 h0] at hu
      simp at hu
    · refine ⟨⟨ge, j * 3, none⟩, by simp [h], fun t u hu => ?_⟩
      have ht : t < (n - j) * 3 := by
        have := (List.getElem?_eq_some_iff.1 hu).1
        rwa [hlen] at this
      rw [hget t ht] at hu
      rw [Addr.add_lit]
      exact (hcell (j * 3 + t) (by omega)).trans hu
  have s1 : Hid (news.length = (n - j) * 3) := hlen
  have s2 : Hid (∀ u ∈ news, u.oneCell' = true) := by rw [hnews]; exact recs_one Edg.one _
  have s3 : Hid (∀ t, t < news.length → (w.drew.cell? ⟨ge, 0 + i * 3 + t, none⟩).isSome = true ∧ w.drew.frozen? ⟨ge, 0 + i * 3 + t, none⟩ = false) := by
    intro t ht
    rw [hlen] at ht
    rw [Nat.zero_add]
    exact ⟨hsome _ (by omega), hfr _⟩
  obtain ⟨W1, hW1⟩ : ∃ W1, W1 = w.drew.setCells ge (0 + i * 3) news := ⟨_, rfl⟩
  obtain ⟨c1, hB1, hs1⟩ := blk_cells_ex (g := ge) news (0 + i * 3) w.drew cur hB.drew
  rw [← hW1] at hB1
  have hsome1 : ∀ t, t < c * 3 → (W1.cell? ⟨ge, t, none⟩).isSome = true := fun t ht => by rw [hB1.cell, Array.getElem?_eq_getElem (by omega)]; rfl
  have hcl : ∀ ty, (Builtin.clear_ #[53] ty #[.slice (some ⟨ge, (i + (n - j)) * 3, none⟩) (n - (i + (n - j))) (c - (i + (n - j)))]).run Try.prog W1 = .ok (.tuple #[]) (W1.setCells ge ((i + (n - j)) * 3) (List.replicate ((n - (i + (n - j))) * 3) (.int .i64 0))) :=
    fun ty => run_clear3 W1 _ _ ty Try.underlying53 zero_edge ge ((i + (n - j)) * 3) _ _ (by omega) (fun t ht => hsome1 _ (by omega)) (fun t _ => hB1.frozen _)
  obtain ⟨c2, hB2, hs2⟩ := blk_cells_ex (g := ge) (List.replicate ((n - (i + (n - j))) * 3) (.int .i64 0)) ((i + (n - j)) * 3) W1 c1 hB1
  have hfin : ∀ t, t < (i + (n - j)) * 3 → (W1.setCells ge ((i + (n - j)) * 3) (List.replicate ((n - (i + (n - j))) * 3) (.int .i64 0))).cell? ⟨ge, t, none⟩ = (Edg.recs (es.take i ++ es.drop j))[t]? := by
    intro t ht
    rw [World.cell?_setCells_out ge _ _ _ ⟨ge, t, none⟩ (fun _ _ => .inl ht), show Edg.recs (es.take i ++ es.drop j) = Edg.recs (es.take i) ++ Edg.recs (es.drop j) from recs_append _ _ _, List.getElem?_append]
    have htl : (Edg.recs (es.take i)).length = i * 3 := by rw [recs_len Edg.clen, List.length_take, hel, Nat.min_eq_left (by omega)]
    rw [htl]
    by_cases h : t < i * 3
    · rw [if_pos h, recs_take, List.getElem?_take, if_pos h, hW1, World.cell?_setCells_out ge _ _ _ ⟨ge, t, none⟩ (fun _ _ => .inl (by show t < 0 + i * 3; omega))]
      exact hcell t (by omega)
    · rw [if_neg h, ← hnews, hW1]
      have h4 := World.cell?_setCells_in ge news (0 + i * 3) w.drew (fun t' ht' => (s3 t' ht').1) (t - i * 3) (by rw [hlen]; omega)
      rw [show 0 + i * 3 + (t - i * 3) = t by omega] at h4
      rw [h4, List.getElem?_eq_getElem]
  have hgr : w.grownBy (W1.setCells ge ((i + (n - j)) * 3) (List.replicate ((n - (i + (n - j))) * 3) (.int .i64 0))) (some ge) := only_cells _ _ _ (by rw [hW1]; exact only_cells _ _ _ (only_drew (World.grownBy.refl w _)))
  have HF := Lib.hid (And.intro (own_shut (sz := 3) hB2 hbg (show i + (n - j) ≤ c by omega) hcm (by omega) (by rw [recs_len Edg.clen, List.length_append, List.length_take, List.length_drop, hel, Nat.min_eq_left (by omega)]) hfin) hgr)
  have hW : Hid (W1 = w.drew.setCells ge (0 + i * 3) news) := hW1
  have hic : i ≤ c := by omega
  have hjc : j ≤ c := by omega
  have hne : ((i : Int) == (j : Int)) = false := by simp; omega
  clear hW1 hB1 hB2 hB hget hnews hlen hsome hsome1 hcell hcur hfr hfin hgr hs1 hs2 ho hrl hel
  go_enter Try.func40, Try.ntmps40
  go_wp2_with fail
  go_region_law (refine step_append_room rfl (.tmp 22) (.tmp 25) 53 rfl 57 i0 3 Try.underlying53 hi0 hz1 ge 0 i c (by simp [Act.eval, Act.put]) A (n - j) (c - j) news (by simp [Act.eval, Act.put]) s1.out hsrc.out s2.out (by omega) s3.out ?_; rw [← hW.out])
  go_wp2
  go_ret
  exact ⟨rfl, HF.out.1, HF.out.2⟩
theorem delete_any (base ge n c i : Nat) (es : List Edg) (w : World) (ho : w.ownsRow base 57 3 (.slice (some ⟨ge, 0, none⟩) n c) n (Edg.recs es)) (hi : i < n) (hn : n ≤ 1000) :
    Calls Try.prog 40 #[.slice (some ⟨ge, 0, none⟩) n c, .int .i64 (i : Int), .int .i64 ((i : Int) + 1)] w fun e w' => e = .returned (.slice (some ⟨ge, 0, none⟩) (n - 1) c) ∧ w'.ownsRow base 57 3 (.slice (some ⟨ge, 0, none⟩) (n - 1) c) (n - 1) (Edg.recs (es.eraseIdx i)) ∧ w.grownBy w' (some ge) := by
  have h := deleteIJ_any base ge n c i (i + 1) es w ho (by omega) (by omega) hn
  rw [show i + (n - (i + 1)) = n - 1 by omega, ← List.eraseIdx_eq_take_drop_succ] at h
  exact h
end Go.Proofs.Ytnfallanjndbcaa
