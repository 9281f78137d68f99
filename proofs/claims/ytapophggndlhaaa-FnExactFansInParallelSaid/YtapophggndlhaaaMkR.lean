/- Contracts of the laws' own marks on rows of numbers and on a fan's curve. -/
import Derived.Test.YtapophggndlhaaaFanH
namespace Go.Proofs.Ytapophggndlhaaa
set_option linter.unusedVariables false
set_option linter.unusedSimpArgs false
open Go.RowKit
/-- Rows that hold running numbers from k on. -/
def numR (rs : List Row) (k : Int) : List Row := rs.mapIdx fun i r => ⟨r.A, r.n, r.c, marksInt64S (k + tot (rs.take i)) r.n⟩
theorem numR_at {rs : List Row} {k : Int} {i : Nat} {q : Row} (h : (numR rs k)[i]? = some q) : ∃ r, rs[i]? = some r ∧ q = ⟨r.A, r.n, r.c, marksInt64S (k + tot (rs.take i)) r.n⟩ := by
  unfold numR at h
  rw [List.getElem?_mapIdx] at h
  cases e : rs[i]? with
  | none => rw [e] at h; simp at h
  | some r => rw [e] at h; simp at h; exact ⟨r, rfl, h.symm⟩
theorem numR_vals (rs : List Row) (k : Int) : rowsV (numR rs k) = rowsV rs := by
  apply List.ext_getElem?
  intro i
  unfold rowsV numR
  rw [List.getElem?_map, List.getElem?_map, List.getElem?_mapIdx]
  cases rs[i]? <;> rfl
theorem own_ne {w : World} {b1 e1 z1 n1 b2 e2 z2 n2 : Nat} {v1 v2 : Value} {xs1 xs2 : List Value} (h1 : w.ownsRow b1 e1 z1 v1 n1 xs1) (h2 : w.ownsRow b2 e2 z2 v2 n2 xs2) (hne : e1 ≠ e2) : ∀ k, v1.ownBlock = some k → v2.ownBlock = some k → False := by
  intro k k1 k2
  rcases h1.2 with ⟨rfl, _⟩ | ⟨g, cap, cur, rfl, _, g1, _⟩
  · simp [Value.ownBlock] at k1
  · rcases h2.2 with ⟨rfl, _⟩ | ⟨g', cap', cur', rfl, _, g2, _⟩
    · simp [Value.ownBlock] at k2
    · simp [Value.ownBlock] at k1 k2
      subst k1 k2
      rw [g1] at g2
      injection g2 with g2
      injection g2 with _ ht
      exact hne ht
def totD : List (List Int) → Int
  | [] => 0
  | x :: t => x.length + totD t
theorem tot_dat {w : World} {B : Nat} : ∀ {rs : List Row}, (∀ r ∈ rs, Reads w B 1 r.A r.n (ints r.xs)) → tot rs = totD (dat rs)
  | [], _ => rfl
  | r :: t, h => by
    have h1 := tot_dat (rs := t) fun q hq => h q (List.mem_cons_of_mem _ hq)
    have h2 := ints_len (h r (List.mem_cons_self ..))
    simp only [tot, dat, List.map_cons, totD]
    rw [h1, h2]; rfl
theorem tot_eq {w w' : World} {B B' n m : Nat} {A A' : Option Addr} {rs rs' : List Row} (h : RSS w B A n rs) (h' : RSS w' B' A' m rs') (hd : dat rs' = dat rs) : tot rs' = tot rs := by
  rw [tot_dat h.row, tot_dat h'.row, hd]
theorem apart_at {rs : List Row} (h : rs.Pairwise fun r s => ∀ k, r.val.ownBlock = some k → s.val.ownBlock = some k → False) {i j : Nat} {r s : Row} (hi : rs[i]? = some r) (hj : rs[j]? = some s) (hne : i ≠ j) : ∀ k, r.val.ownBlock = some k → s.val.ownBlock = some k → False := by
  have li : i < rs.length := by
    rcases Nat.lt_or_ge i rs.length with h1 | h1
    · exact h1
    · rw [List.getElem?_eq_none h1] at hi; cases hi
  have lj : j < rs.length := by
    rcases Nat.lt_or_ge j rs.length with h1 | h1
    · exact h1
    · rw [List.getElem?_eq_none h1] at hj; cases hj
  rw [List.getElem?_eq_getElem li] at hi
  rw [List.getElem?_eq_getElem lj] at hj
  obtain rfl := Option.some.inj hi
  obtain rfl := Option.some.inj hj
  rw [List.pairwise_iff_getElem] at h
  intro k h1 h2
  rcases Nat.lt_or_gt_of_ne hne with g | g
  · exact h i j li lj g k h1 h2
  · exact h j i lj li g k h2 h1
theorem len_of_at {α : Type} {xs : List α} {i : Nat} {x : α} (h : xs[i]? = some x) : i < xs.length := by
  rcases Nat.lt_or_ge i xs.length with h1 | h1
  · exact h1
  · rw [List.getElem?_eq_none h1] at h; cases h
/-- How rows stand while the first j of them are marked. -/
structure Mrk (w : World) (lo hi : Nat) (A : Option Addr) (n c : Nat) (rs : List Row) (k : Int) (j : Nat) : Prop where
  out : w.ownsRow lo 53 1 (.slice A n c) n (rowsV rs)
  did : ∀ i r, i < j → rs[i]? = some r → w.ownsRow lo 2 1 r.val r.n (ints (marksInt64S (k + tot (rs.take i)) r.n))
  due : ∀ i r, j ≤ i → rs[i]? = some r → w.ownsRow lo 2 1 r.val r.n (ints r.xs)
theorem Mrk.start {w : World} {lo hi n c : Nat} {A : Option Addr} {rs : List Row} (k : Int) (h : Oss w lo hi A n c rs) : Mrk w lo hi A n c rs k 0 :=
  ⟨h.oss.out, fun i r hi => absurd hi (Nat.not_lt_zero _), fun i r _ hr => h.oss.row r (List.mem_of_getElem? hr)⟩
theorem Mrk.row {w : World} {lo hi n c j : Nat} {A : Option Addr} {rs : List Row} {k : Int} (h : Mrk w lo hi A n c rs k j) {i : Nat} {r : Row} (hr : rs[i]? = some r) : ∃ ys, w.ownsRow lo 2 1 r.val r.n ys := by
  rcases Nat.lt_or_ge i j with g | g
  · exact ⟨_, h.did i r g hr⟩
  · exact ⟨_, h.due i r g hr⟩
theorem Mrk.step {w w' : World} {lo hi n c j : Nat} {A : Option Addr} {rs : List Row} {k : Int} {r : Row} (h : Mrk w lo hi A n c rs k j) (hp : rs.Pairwise fun r s => ∀ k, r.val.ownBlock = some k → s.val.ownBlock = some k → False)
    (hr : rs[j]? = some r) (ho : w'.ownsRow lo 2 1 r.val r.n (ints (marksInt64S (k + tot (rs.take j)) r.n))) (hg : w.grownBy w' r.val.ownBlock) : Mrk w' lo hi A n c rs k (j + 1) := by
  refine ⟨own_keep h.out hg fun g g1 g2 => own_ne h.out (h.due j r (Nat.le_refl _) hr) (by decide) g g1 g2, fun i q hi hq => ?_, fun i q hi hq => ?_⟩
  · rcases Nat.lt_succ_iff_lt_or_eq.1 hi with g | rfl
    · exact own_keep (h.did i q g hq) hg fun b g1 g2 => apart_at hp hq hr (by omega) b g1 g2
    · rw [hr] at hq; obtain rfl := Option.some.inj hq; exact ho
  · exact own_keep (h.due i q (by omega) hq) hg fun g g1 g2 => apart_at hp hq hr (by omega) g g1 g2
theorem Mrk.done {w w0 : World} {lo hi n c : Nat} {A : Option Addr} {rs : List Row} {k : Int} {j : Nat} (h : Mrk w lo hi A n c rs k j) (hj : rs.length ≤ j) (h0 : Oss w0 lo hi A n c rs) : Oss w lo hi A n c (numR rs k) := by
  refine ⟨⟨by rw [numR_vals]; exact h.out, fun q hq => ?_, ?_⟩, h0.top, fun q hq => ?_⟩
  · obtain ⟨i, hi⟩ := List.getElem?_of_mem hq
    obtain ⟨r, hr, rfl⟩ := numR_at hi
    exact h.did i r (Nat.lt_of_lt_of_le (len_of_at hr) hj) hr
  · rw [List.pairwise_iff_getElem]
    intro i j hi hj hij
    obtain ⟨r, hr, e1⟩ := numR_at (List.getElem?_eq_getElem hi)
    obtain ⟨s, hs, e2⟩ := numR_at (List.getElem?_eq_getElem hj)
    rw [e1, e2]
    have h9 := apart_at h0.oss.apart hr hs (Nat.ne_of_lt hij)
    exact h9
  · obtain ⟨i, hi⟩ := List.getElem?_of_mem hq
    obtain ⟨r, hr, rfl⟩ := numR_at hi
    exact h0.rtop r (List.mem_of_getElem? hr)
set_option maxHeartbeats 800000 in
theorem markInt64SS_any (lo hi : Nat) (A : Option Addr) (n c : Nat) (rs : List Row) (k : Int) (w : World) (h : Oss w lo hi A n c rs) (hn : n ≤ 1048576) (hrn : ∀ r ∈ rs, r.n ≤ 1048576) (ht : tot rs ≤ 1048576) (hk0 : 0 ≤ k) (hk1 : k ≤ 1073741824) :
    Calls Try.prog 43 #[.slice A n c, .int .i64 k] w fun e w' => e = .returned (.int .i64 (k + tot rs)) ∧ Oss w' lo hi A n c (numR rs k) ∧ Chg lo hi w w' := by
  have HO := Lib.hid h
  have HM := Lib.hid hrn
  have HL := Lib.hid h.reads.len
  clear h hrn
  go_enter Try.func43, Try.ntmps43
  go_wp2
  go_loopw [1, 5] (fun kk i wr => ∃ (j : Nat), j ≤ n ∧ kk = .int .i64 (k + tot (rs.take j)) ∧ i = .int .i64 j ∧ Hid (Mrk wr lo hi A n c rs k j) ∧ Hid (Chg lo hi w wr)) (fun _ i _ => n - (intOf i).toNat)
  case atStart => exact ⟨0, by omega, by simp [tot], rfl, Mrk.start k HO.out, Chg.refl _ _ _⟩
  case round =>
    obtain ⟨j, hj, rfl, rfl, HK, HG⟩ := hrel
    have p0 := tot_nonneg (rs.take j)
    have p1 := tot_take rs j
    by_cases hlt : j < n
    · have hrd : Reads wr wr.heap.size 1 A n (rowsV rs) := Reads.of_own HK.out.out
      obtain ⟨ad, u, rfl, had, hx, hc⟩ := hrd.at_ hlt
      obtain ⟨r, hr, rfl⟩ := rowsV_at hx
      have HX := Lib.hid (tot_snoc hr)
      have HR := Lib.hid hr
      have hm := HM.out r (List.mem_of_getElem? hr)
      have ho := HK.out.due j r (Nat.le_refl _) hr
      have cc := markInt64S_any r.A r.n r.c _ (k + tot (rs.take j)) lo wr ho (by omega) (by omega) (by omega)
      have hc' : wr.cell? (ad.add j) = some (.slice r.A r.n r.c) := hc
      clear hx hr hc ho hrd
      go_wp2_with fail; ((with_reducible refine cc.mono ?_); rintro e w1 ⟨rfl, ho1, hg1⟩)
      clear cc
      have HK1 := Lib.hid (HK.out.step (hi := hi) HO.out.oss.apart HR.out ho1 hg1)
      have HG1 := Lib.hid (HG.out.trans (Chg.of_grown (lo := lo) (hi := hi) hg1 fun g e => ⟨((HO.out.oss.row r (List.mem_of_getElem? HR.out)).lt g e).1, HO.out.rtop r (List.mem_of_getElem? HR.out) g e⟩))
      clear ho1 hg1
      go_wp2
      go_roundw
      case rel => exact ⟨j + 1, by omega, by rw [HX.out]; exact congrArg (Value.int .i64) (by omega), by go_num, HK1.out, HG1.out⟩
      case measure => simp [intOf]; omega
    · have e : j = n := by omega
      subst e
      have HT : Hid (rs.take j = rs) := List.take_of_length_le (by rw [HL.out]; omega)
      go_wp2
      go_ret
      exact ⟨ret_int (by rw [HT.out]), HK.out.done (by rw [HL.out]; exact Nat.le_refl _) HO.out, HG.out⟩
set_option maxHeartbeats 800000 in
theorem heldInt64SS_any (A : Option Addr) (n c : Nat) (rs : List Row) (k : Int) (w : World) (h : RSS w w.heap.size A n (numR rs k)) (hn : n ≤ 1048576) (hrn : ∀ r ∈ rs, r.n ≤ 1048576) (ht : tot rs ≤ 1048576) (hk0 : 0 ≤ k) (hk1 : k ≤ 1073741824) :
    Calls Try.prog 44 #[.slice A n c, .int .i64 k] w fun e w' => e = .returned (.int .i64 (k + tot rs)) ∧ w = w' := by
  have HM := Lib.hid hrn
  have HL : Hid (rs.length = n) := show rs.length = n by have := h.len; simpa [numR] using this
  clear hrn
  go_enter Try.func44, Try.ntmps44
  go_wp2
  go_loop [1, 5] (fun kk i => ∃ (j : Nat), j ≤ n ∧ kk = .int .i64 (k + tot (rs.take j)) ∧ i = .int .i64 j) (fun _ i => n - (intOf i).toNat)
  case atStart => exact ⟨0, by omega, by simp [tot], rfl⟩
  case round =>
    obtain ⟨j, hj, rfl, rfl⟩ := hrel
    have p0 := tot_nonneg (rs.take j)
    have p1 := tot_take rs j
    by_cases hlt : j < n
    · obtain ⟨ad, q, rfl, hx, hc, hq⟩ := h.at_ hlt
      obtain ⟨r, hr, rfl⟩ := numR_at hx
      have HX := Lib.hid (tot_snoc hr)
      have hm := HM.out r (List.mem_of_getElem? hr)
      have cc := heldInt64S_any r.A r.n r.c (k + tot (rs.take j)) w hq (by omega) (by omega) (by omega)
      have hc' : w.cell? (ad.add j) = some (.slice r.A r.n r.c) := hc
      clear hx hr hc hq
      go_wp2_with fail; ((with_reducible refine cc.mono ?_); rintro e w' ⟨rfl, rfl⟩)
      clear cc
      go_wp2
      go_round
      case rel => exact ⟨j + 1, by omega, by rw [HX.out]; exact congrArg (Value.int .i64) (by omega), by go_num⟩
      case measure => simp [intOf]; omega
    · have e : j = n := by omega
      subst e
      have HT : Hid (rs.take j = rs) := List.take_of_length_le (by rw [HL.out]; omega)
      go_wp2
      go_ret
      exact ⟨ret_int (by rw [HT.out]), rfl⟩
theorem markFan_any (s : ByteArray) (a : Int) (lo hi : Nat) (A : Option Addr) (n c : Nat) (rs : List Row) (k : Int) (w : World) (h : Oss w lo hi A n c rs) (hn : n ≤ 1048576) (hrn : ∀ r ∈ rs, r.n ≤ 1048576) (ht : tot rs ≤ 1048576) (hi' : hi ≤ w.heap.size) (hk0 : 0 ≤ k) (hk1 : k ≤ 1073741824) :
    Calls Try.prog 16 #[.agg #[.string s, .int .i64 a, .slice A n c], .int .i64 k] w fun e w' => e = .returned (.int .i64 (k + tot rs)) ∧ Oss w' lo hi A n c (numR rs k) ∧ Chg lo hi w w' := by
  have HR : Hid (∀ W, Below w.heap.size w W → Calls Try.prog 43 #[.slice A n c, .int .i64 k] W fun e w' => e = .returned (.int .i64 (k + tot rs)) ∧ Oss w' lo hi A n c (numR rs k) ∧ Chg lo hi W w') :=
    fun W hb => markInt64SS_any lo hi A n c rs k W (h.same ((Same.refl lo hi w).below hb hi')) hn hrn ht hk0 hk1
  have t0 := tot_nonneg rs
  clear h hrn
  go_enter Try.func16, Try.ntmps16
  go_wp2_with fail; ((with_reducible refine (HR.out _ (by (repeat (first | exact Below.refl _ _ | assumption | (refine Below.alloc ?_ (by first | exact Nat.le_refl _ | (simp; done) | (simp; omega)) _) | (refine below_drewN ?_ _) | (refine Below.trans ?_ (Below.mono (by assumption) (by first | exact Nat.le_refl _ | (simp; done) | (simp; omega) | omega))))))).mono ?_); rintro e w1 ⟨rfl, ho1, hg1⟩)
  have HO := Lib.hid ho1
  have HG := Lib.hid hg1
  clear ho1 hg1
  go_wp2
  go_ret
  exact ⟨rfl, HO.out, (Chg.of_below (by (repeat (first | exact Below.refl _ _ | assumption | (refine Below.alloc ?_ (by first | exact Nat.le_refl _ | (simp; done) | (simp; omega)) _) | (refine below_drewN ?_ _) | (refine Below.trans ?_ (Below.mono (by assumption) (by first | exact Nat.le_refl _ | (simp; done) | (simp; omega) | omega))))))).trans HG.out⟩
theorem heldFan_any (s : ByteArray) (a : Int) (A : Option Addr) (n c : Nat) (rs : List Row) (k : Int) (w : World) (h : RSS w w.heap.size A n (numR rs k)) (hn : n ≤ 1048576) (hrn : ∀ r ∈ rs, r.n ≤ 1048576) (ht : tot rs ≤ 1048576) (hk0 : 0 ≤ k) (hk1 : k ≤ 1073741824) :
    Calls Try.prog 17 #[.agg #[.string s, .int .i64 a, .slice A n c], .int .i64 k] w fun e w' => e = .returned (.int .i64 (k + tot rs)) ∧ Below w.heap.size w w' := by
  have HR : Hid (∀ W, Below w.heap.size w W → Calls Try.prog 44 #[.slice A n c, .int .i64 k] W fun e w' => e = .returned (.int .i64 (k + tot rs)) ∧ W = w') :=
    fun W hb => heldInt64SS_any A n c rs k W ((h.below hb).more hb.size) hn hrn ht hk0 hk1
  have t0 := tot_nonneg rs
  clear h hrn
  go_enter Try.func17, Try.ntmps17
  go_wp2_with fail; ((with_reducible refine (HR.out _ (by (repeat (first | exact Below.refl _ _ | assumption | (refine Below.alloc ?_ (by first | exact Nat.le_refl _ | (simp; done) | (simp; omega)) _) | (refine below_drewN ?_ _) | (refine Below.trans ?_ (Below.mono (by assumption) (by first | exact Nat.le_refl _ | (simp; done) | (simp; omega) | omega))))))).mono ?_); rintro e w' ⟨rfl, rfl⟩)
  go_wp2
  go_ret
  exact ⟨rfl, by (repeat (first | exact Below.refl _ _ | assumption | (refine Below.alloc ?_ (by first | exact Nat.le_refl _ | (simp; done) | (simp; omega)) _) | (refine below_drewN ?_ _) | (refine Below.trans ?_ (Below.mono (by assumption) (by first | exact Nat.le_refl _ | (simp; done) | (simp; omega) | omega)))))⟩
end Go.Proofs.Ytapophggndlhaaa
