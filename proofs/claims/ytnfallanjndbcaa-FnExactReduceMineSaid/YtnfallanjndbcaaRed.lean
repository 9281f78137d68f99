/- The reduction of a network, edge by edge: plain words, and that one step and the whole run are fixed. -/
import Derived.Test.YtnfallanjndbcaaPar
import Derived.Test.YtnfallanjndbcaaSlc
namespace Go.Proofs.Ytnfallanjndbcaa
set_option linter.unusedVariables false
set_option linter.unusedSimpArgs false
structure Edg where
  a : Int
  b : Int
  r : Int
instance : Inhabited Edg := ⟨⟨0, 0, 0⟩⟩
def Edg.ok (e : Edg) : Prop := (0 ≤ e.a ∧ e.a ≤ 15) ∧ (0 ≤ e.b ∧ e.b ≤ 15) ∧ (1 ≤ e.r ∧ e.r ≤ 1000000)
def Edg.has (e : Edg) (j : Int) : Bool := e.a == j || e.b == j
/-- How many ends of an edge lie at a junction. -/
def Edg.ends (e : Edg) (j : Int) : Nat := (if e.a = j then 1 else 0) + (if e.b = j then 1 else 0)
def edC (es : List Edg) (j : Int) : Nat := (es.map fun e => e.ends j).sum
/-- The places of the edges at a junction. -/
def edI (es : List Edg) (j : Int) : List Nat := (List.range es.length).filter fun i => (es.getD i default).has j
theorem ends_has (e : Edg) (j : Int) : (if e.has j = true then 1 else 0) ≤ e.ends j ∧ e.ends j ≤ 2 * (if e.has j = true then 1 else 0) := by
  unfold Edg.ends Edg.has
  by_cases h1 : e.a = j <;> by_cases h2 : e.b = j <;> simp [h1, h2]
theorem ends_one {e : Edg} {j : Int} (h : e.a ≠ e.b) (hj : e.has j = true) : e.ends j = 1 := by
  unfold Edg.has at hj
  unfold Edg.ends
  by_cases h1 : e.a = j
  · by_cases h2 : e.b = j
    · exact absurd (h1.trans h2.symm) h
    · rw [if_pos h1, if_neg h2]
  · by_cases h2 : e.b = j
    · rw [if_neg h1, if_pos h2]
    · simp [h1, h2] at hj
def cntH (es : List Edg) (j : Int) : Nat := (es.filter fun e => e.has j).length
theorem cnt_le : ∀ (es : List Edg) (j : Int), cntH es j ≤ edC es j ∧ edC es j ≤ 2 * cntH es j
  | [], j => by simp [cntH, edC]
  | e :: t, j => by
    have h1 := cnt_le t j
    have h2 := ends_has e j
    unfold cntH edC at *
    rw [List.filter_cons, List.map_cons, List.sum_cons]
    cases h3 : e.has j <;> rw [h3] at h2 <;> simp at h2 <;> simp <;> omega
theorem cnt_self {es : List Edg} {e : Edg} {j : Int} (hm : e ∈ es) (hj : e.has j = true) : 1 ≤ cntH es j := by
  unfold cntH
  exact List.length_pos_of_mem (List.mem_filter.2 ⟨hm, hj⟩)
theorem cnt_one : ∀ {es : List Edg} {e : Edg} {j : Int}, e ∈ es → e.has j = true → cntH es j = 1 → edC es j = e.ends j
  | x :: t, e, j, hm, hj, h1 => by
    have h2 := cnt_le t j
    unfold cntH at h1
    rw [List.filter_cons] at h1
    rw [show edC (x :: t) j = x.ends j + edC t j from by unfold edC; rw [List.map_cons, List.sum_cons]]
    cases h3 : x.has j with
    | true =>
      rw [h3] at h1
      simp only [if_true, List.length_cons] at h1
      have h4 : cntH t j = 0 := by unfold cntH; omega
      rcases List.mem_cons.1 hm with rfl | hm
      · omega
      · have := cnt_self hm hj; omega
    | false =>
      rw [h3] at h1
      have hm' : e ∈ t := by
        rcases List.mem_cons.1 hm with rfl | hm
        · rw [hj] at h3; cases h3
        · exact hm
      have h5 := cnt_one hm' hj (by unfold cntH; simpa using h1)
      have h6 : x.ends j = 0 := by have := ends_has x j; rw [h3] at this; simp at this; omega
      omega
theorem edI_from : ∀ (es : List Edg) (j : Int) (d : Nat), ((List.range es.length).filter fun i => (es.getD i default).has j).length = cntH es j
  | [], j, d => by simp [cntH]
  | e :: t, j, d => by
    have ih := edI_from t j d
    unfold cntH at *
    rw [List.length_cons, List.range_succ_eq_map, List.filter_cons, List.filter_cons, List.filter_map]
    have hc : ((fun i => ((e :: t).getD i default).has j) ∘ Nat.succ) = fun i => (t.getD i default).has j := by funext i; simp [List.getD]
    rw [hc]
    cases h3 : e.has j
    · simp [List.getD, h3]
      simpa [List.getD] using ih
    · simp [List.getD, h3]
      simpa [List.getD] using ih
theorem edI_len (es : List Edg) (j : Int) : (edI es j).length = cntH es j := edI_from es j 0
/-- An edge that carries nothing: the reference counts ends. -/
def deadE (fr to : Int) (es : List Edg) (e : Edg) : Bool := e.a == e.b || (e.a != fr && e.a != to && edC es e.a == 1) || (e.b != fr && e.b != to && edC es e.b == 1)
/-- .. and the program counts edges. -/
def ddJ (fr to : Int) (es : List Edg) (j : Int) : Bool := j != fr && j != to && (edI es j).length == 1
def deadP (fr to : Int) (es : List Edg) (e : Edg) : Bool := e.a == e.b || ddJ fr to es e.a || ddJ fr to es e.b
theorem dead_eq {fr to : Int} {es : List Edg} {e : Edg} (hm : e ∈ es) : deadP fr to es e = deadE fr to es e := by
  unfold deadP deadE ddJ
  by_cases h : e.a = e.b
  · simp [h]
  · have key : ∀ j, e.has j = true → ((edI es j).length == 1) = (edC es j == 1) := fun j hj => by
      rw [edI_len, Bool.eq_iff_iff]
      simp only [beq_iff_eq]
      have h1 := cnt_le es j
      have h2 := cnt_self hm hj
      constructor
      · intro h3; rw [cnt_one hm hj h3, ends_one h hj]
      · intro h3; omega
    rw [key e.a (by simp [Edg.has]), key e.b (by simp [Edg.has])]
theorem idx_congr {α : Type} {p q : α → Bool} : ∀ {xs : List α}, (∀ x ∈ xs, p x = q x) → xs.findIdx? p = xs.findIdx? q
  | [], _ => rfl
  | x :: t, h => by
    have ih := idx_congr (p := p) (q := q) (xs := t) fun y hy => h y (List.mem_cons_of_mem _ hy)
    rw [List.findIdx?_cons, List.findIdx?_cons, h x (List.mem_cons_self ..), ih]
def rmOf (fr to : Int) (es : List Edg) : Option Nat := es.findIdx? (deadE fr to es)
theorem rmOf_p (fr to : Int) (es : List Edg) : es.findIdx? (deadP fr to es) = rmOf fr to es := idx_congr fun x hx => dead_eq hx
theorem rm_some {fr to : Int} {es : List Edg} {i : Nat} (hi : i < es.length) (h1 : deadE fr to es (es.getD i default) = true) (h2 : ∀ j, j < i → deadE fr to es (es.getD j default) = false) : rmOf fr to es = some i := by
  unfold rmOf
  rw [List.findIdx?_eq_some_iff_getElem]
  refine ⟨hi, by rwa [List.getD_eq_getElem?_getD, List.getElem?_eq_getElem hi] at h1, fun j hj => ?_⟩
  have h3 := h2 j hj
  rw [List.getD_eq_getElem?_getD, List.getElem?_eq_getElem (by omega)] at h3
  simpa using h3
theorem rm_none {fr to : Int} {es : List Edg} (h : ∀ j, j < es.length → deadE fr to es (es.getD j default) = false) : rmOf fr to es = none := by
  unfold rmOf
  rw [List.findIdx?_eq_none_iff]
  intro x hx
  obtain ⟨k, hk, rfl⟩ := List.getElem_of_mem hx
  have h1 := h k hk
  rwa [List.getD_eq_getElem?_getD, List.getElem?_eq_getElem hk] at h1
theorem rm_lt {fr to : Int} {es : List Edg} {i : Nat} (h : rmOf fr to es = some i) : i < es.length := by
  unfold rmOf at h
  rw [List.findIdx?_eq_some_iff_getElem] at h
  exact h.1
theorem rm_loop {fr to : Int} {es : List Edg} (h : rmOf fr to es = none) {e : Edg} (hm : e ∈ es) : e.a ≠ e.b := by
  unfold rmOf at h
  rw [List.findIdx?_eq_none_iff] at h
  have h1 := h e hm
  intro he
  unfold deadE at h1
  rw [he] at h1
  simp at h1
/-- Without an edge from a junction to itself the ends are as many as the edges. -/
theorem edC_eq : ∀ {es : List Edg} (j : Int), (∀ e ∈ es, e.a ≠ e.b) → edC es j = (edI es j).length := by
  intro es j h
  rw [edI_len]
  induction es with
  | nil => rfl
  | cons e t ih =>
    have h1 := ih fun x hx => h x (List.mem_cons_of_mem _ hx)
    have h2 := h e (List.mem_cons_self ..)
    rw [show edC (e :: t) j = e.ends j + edC t j from by unfold edC; rw [List.map_cons, List.sum_cons], h1]
    unfold cntH
    rw [List.filter_cons]
    cases h3 : e.has j
    · have h6 : e.ends j = 0 := by have := ends_has e j; rw [h3] at this; simp at this; omega
      simp [h6]
    · rw [ends_one h2 h3]; simp; omega
def jn (x y : Edg) : Bool := (x.a == y.a && x.b == y.b) || (x.a == y.b && x.b == y.a)
def jnAt (es : List Edg) (i k : Nat) : Bool := jn (es.getD i default) (es.getD k default)
/-- The first pair side by side. -/
def SdAt (es : List Edg) (i k : Nat) : Prop := i < k ∧ k < es.length ∧ jnAt es i k = true ∧ ∀ i' k', i' < k' → k' < es.length → (i' < i ∨ (i' = i ∧ k' < k)) → jnAt es i' k' = false
def SdNo (es : List Edg) : Prop := ∀ i k, i < k → k < es.length → jnAt es i k = false
theorem sd_unique {es : List Edg} {i k i' k' : Nat} (h : SdAt es i k) (h' : SdAt es i' k') : i = i' ∧ k = k' := by
  obtain ⟨a1, a2, a3, a4⟩ := h
  obtain ⟨b1, b2, b3, b4⟩ := h'
  rcases Nat.lt_trichotomy i i' with g | g | g
  · rw [b4 i k a1 a2 (.inl g)] at a3; cases a3
  · subst g
    rcases Nat.lt_trichotomy k k' with g | g | g
    · rw [b4 i k a1 a2 (.inr ⟨rfl, g⟩)] at a3; cases a3
    · exact ⟨rfl, g⟩
    · rw [a4 i k' b1 b2 (.inr ⟨rfl, g⟩)] at b3; cases b3
  · rw [a4 i' k' b1 b2 (.inl g)] at b3; cases b3
theorem sd_not {es : List Edg} {i k : Nat} (h : SdAt es i k) (h' : SdNo es) : False := by
  have := h' i k h.1 h.2.1
  rw [h.2.2.1] at this; cases this
def sdE (es : List Edg) (i k : Nat) : List Edg := (es.set i { es.getD i default with r := par [(es.getD i default).r, (es.getD k default).r] }).eraseIdx k
/-- A junction with just two edges that is neither end. -/
def twoJ (fr to : Int) (es : List Edg) (j : Int) : Bool := j != fr && j != to && (edI es j).length == 2
def EnAt (fr to J : Int) (es : List Edg) (j : Int) (p q : Nat) : Prop := 0 ≤ j ∧ j < J ∧ twoJ fr to es j = true ∧ edI es j = [p, q] ∧ ∀ j', 0 ≤ j' → j' < j → twoJ fr to es j' = false
def EnNo (fr to J : Int) (es : List Edg) : Prop := ∀ j, 0 ≤ j → j < J → twoJ fr to es j = false
theorem en_unique {fr to J : Int} {es : List Edg} {j j' : Int} {p q p' q' : Nat} (h : EnAt fr to J es j p q) (h' : EnAt fr to J es j' p' q') : j = j' ∧ p = p' ∧ q = q' := by
  obtain ⟨a1, a2, a3, a4, a5⟩ := h
  obtain ⟨b1, b2, b3, b4, b5⟩ := h'
  have e : j = j' := by
    rcases Int.lt_trichotomy j j' with g | g | g
    · rw [b5 j a1 g] at a3; cases a3
    · exact g
    · rw [a5 j' b1 g] at b3; cases b3
  subst e
  rw [a4] at b4
  simp only [List.cons.injEq, and_true] at b4
  exact ⟨rfl, b4⟩
theorem en_not {fr to J : Int} {es : List Edg} {j : Int} {p q : Nat} (h : EnAt fr to J es j p q) (h' : EnNo fr to J es) : False := by
  have := h' j h.1 h.2.1
  rw [h.2.2.1] at this; cases this
def enSum (es : List Edg) (p q : Nat) : Int := (es.getD p default).r + (es.getD q default).r
def enE (es : List Edg) (j : Int) (p q : Nat) : List Edg :=
  (es.set p ⟨(es.getD p default).a + (es.getD p default).b - j, (es.getD q default).a + (es.getD q default).b - j, enSum es p q⟩).eraseIdx q
/-- One step: the edges behind it and whether it has made one that is too great. -/
def RStep (fr to J : Int) (es x : List Edg) (b : Bool) : Prop :=
  (∃ i : Nat, rmOf fr to es = some i ∧ x = es.eraseIdx i ∧ b = false) ∨
  (∃ i k : Nat, rmOf fr to es = none ∧ SdAt es i k ∧ x = sdE es i k ∧ b = false) ∨
  (∃ (j : Int) (p q : Nat), rmOf fr to es = none ∧ SdNo es ∧ EnAt fr to J es j p q ∧ x = enE es j p q ∧ b = decide (1000000 < enSum es p q))
theorem RStep.rm {fr to J : Int} {es : List Edg} (i : Nat) (h : rmOf fr to es = some i) : RStep fr to J es (es.eraseIdx i) false := .inl ⟨i, h, rfl, rfl⟩
theorem RStep.sd {fr to J : Int} {es : List Edg} (i k : Nat) (h : rmOf fr to es = none) (h1 : SdAt es i k) : RStep fr to J es (sdE es i k) false := .inr (.inl ⟨i, k, h, h1, rfl, rfl⟩)
theorem RStep.en {fr to J : Int} {es : List Edg} (j : Int) (p q : Nat) (h : rmOf fr to es = none) (h1 : SdNo es) (h2 : EnAt fr to J es j p q) : RStep fr to J es (enE es j p q) (decide (1000000 < enSum es p q)) := .inr (.inr ⟨j, p, q, h, h1, h2, rfl, rfl⟩)
def RStop (fr to J : Int) (es : List Edg) : Prop := rmOf fr to es = none ∧ SdNo es ∧ EnNo fr to J es
theorem step_det {fr to J : Int} {es x y : List Edg} {b c : Bool} (h : RStep fr to J es x b) (h' : RStep fr to J es y c) : x = y ∧ b = c := by
  rcases h with ⟨i, hi, rfl, rfl⟩ | ⟨i, k, h0, h1, rfl, rfl⟩ | ⟨j, p, q, h0, h1, h2, rfl, rfl⟩
  · rcases h' with ⟨i', hi', rfl, rfl⟩ | ⟨i', k', g0, g1, rfl, rfl⟩ | ⟨j', p', q', g0, g1, g2, rfl, rfl⟩
    · rw [hi] at hi'; cases hi'; exact ⟨rfl, rfl⟩
    · rw [hi] at g0; cases g0
    · rw [hi] at g0; cases g0
  · rcases h' with ⟨i', hi', rfl, rfl⟩ | ⟨i', k', g0, g1, rfl, rfl⟩ | ⟨j', p', q', g0, g1, g2, rfl, rfl⟩
    · rw [h0] at hi'; cases hi'
    · obtain ⟨rfl, rfl⟩ := sd_unique h1 g1; exact ⟨rfl, rfl⟩
    · exact absurd g1 fun h3 => sd_not h1 h3
  · rcases h' with ⟨i', hi', rfl, rfl⟩ | ⟨i', k', g0, g1, rfl, rfl⟩ | ⟨j', p', q', g0, g1, g2, rfl, rfl⟩
    · rw [h0] at hi'; cases hi'
    · exact absurd h1 fun h4 => sd_not g1 h4
    · obtain ⟨rfl, rfl, rfl⟩ := en_unique h2 g2; exact ⟨rfl, rfl⟩
theorem step_stop {fr to J : Int} {es x : List Edg} {b : Bool} (h : RStep fr to J es x b) (h' : RStop fr to J es) : False := by
  obtain ⟨g0, g1, g2⟩ := h'
  rcases h with ⟨i, hi, rfl, rfl⟩ | ⟨i, k, h0, h1, rfl, rfl⟩ | ⟨j, p, q, h0, h1, h2, rfl, rfl⟩
  · rw [g0] at hi; cases hi
  · exact sd_not h1 g1
  · exact en_not h2 g2
/-- What the run returns where no step is possible. -/
def redFin (fr to : Int) (es : List Edg) (st : Int) : Int × Int × Int :=
  match es with
  | [e] => if jn e ⟨fr, to, 0⟩ = true then (e.r, st, 0) else (0, 0, 6)
  | _ => (0, 0, 6)
/-- A run of at most so many steps. -/
def RRunN (fr to J : Int) : Nat → List Edg → Int → (Int × Int × Int) → Prop
  | 0, _, _, _ => False
  | n + 1, es, st, R => (RStop fr to J es ∧ R = redFin fr to es st) ∨ (∃ x, RStep fr to J es x true ∧ R = (0, 0, 5)) ∨ (∃ x, RStep fr to J es x false ∧ RRunN fr to J n x (st + 1) R)
def RRun (fr to J : Int) (es : List Edg) (st : Int) (R : Int × Int × Int) : Prop := ∃ n, RRunN fr to J n es st R
theorem RRun.stop {fr to J : Int} (es : List Edg) (st : Int) (h : RStop fr to J es) : RRun fr to J es st (redFin fr to es st) := ⟨1, .inl ⟨h, rfl⟩⟩
theorem RRun.full {fr to J : Int} (es x : List Edg) (st : Int) (h : RStep fr to J es x true) : RRun fr to J es st (0, 0, 5) := ⟨1, .inr (.inl ⟨x, h, rfl⟩)⟩
theorem RRun.go {fr to J : Int} (es x : List Edg) (st : Int) (R : Int × Int × Int) (h : RStep fr to J es x false) (h1 : RRun fr to J x (st + 1) R) : RRun fr to J es st R := by
  obtain ⟨n, hn⟩ := h1
  exact ⟨n + 1, .inr (.inr ⟨x, h, hn⟩)⟩
theorem runN_det {fr to J : Int} {R R' : Int × Int × Int} : ∀ (n m : Nat) (es : List Edg) (st : Int), RRunN fr to J n es st R → RRunN fr to J m es st R' → R = R'
  | 0, _, _, _, h, _ => h.elim
  | _ + 1, 0, _, _, _, h' => h'.elim
  | n + 1, m + 1, es, st, h, h' => by
    rcases h with ⟨hs, rfl⟩ | ⟨x, hs, rfl⟩ | ⟨x, hs, hr⟩
    · rcases h' with ⟨gs, rfl⟩ | ⟨y, gs, rfl⟩ | ⟨y, gs, gr⟩
      · rfl
      · exact (step_stop gs hs).elim
      · exact (step_stop gs hs).elim
    · rcases h' with ⟨gs, rfl⟩ | ⟨y, gs, rfl⟩ | ⟨y, gs, gr⟩
      · exact (step_stop hs gs).elim
      · rfl
      · exact absurd (step_det hs gs).2 (by decide)
    · rcases h' with ⟨gs, rfl⟩ | ⟨y, gs, rfl⟩ | ⟨y, gs, gr⟩
      · exact (step_stop hs gs).elim
      · exact absurd (step_det hs gs).2 (by decide)
      · obtain ⟨rfl, _⟩ := step_det hs gs
        exact runN_det n m _ _ hr gr
theorem run_det {fr to J : Int} {es : List Edg} {st : Int} {R R' : Int × Int × Int} (h : RRun fr to J es st R) (h' : RRun fr to J es st R') : R = R' := by
  obtain ⟨n, hn⟩ := h
  obtain ⟨m, hm⟩ := h'
  exact runN_det n m es st hn hm
open Classical in
/-- What the whole run returns. -/
noncomputable def redV (fr to J : Int) (es : List Edg) : Int × Int × Int := if h : ∃ R, RRun fr to J es 0 R then h.choose else (0, 0, 0)
theorem redV_eq {fr to J : Int} {es : List Edg} {R : Int × Int × Int} (h : RRun fr to J es 0 R) : redV fr to J es = R := by
  have hx : ∃ R, RRun fr to J es 0 R := ⟨R, h⟩
  unfold redV
  rw [dif_pos hx]
  exact run_det hx.choose_spec h
theorem edI_mem {es : List Edg} {j : Int} {i : Nat} : i ∈ edI es j ↔ i < es.length ∧ (es.getD i default).has j = true := by
  unfold edI
  rw [List.mem_filter, List.mem_range]
theorem edI_sorted (es : List Edg) (j : Int) : (edI es j).Pairwise (· < ·) := List.Pairwise.filter _ List.pairwise_lt_range
theorem en_pq {fr to J : Int} {es : List Edg} {j : Int} {p q : Nat} (h : EnAt fr to J es j p q) : p < q ∧ q < es.length ∧ (es.getD p default).has j = true ∧ (es.getD q default).has j = true := by
  have hs := edI_sorted es j
  have hp : p ∈ edI es j := by rw [h.2.2.2.1]; simp
  have hq : q ∈ edI es j := by rw [h.2.2.2.1]; simp
  rw [h.2.2.2.1] at hs
  simp at hs
  exact ⟨hs, (edI_mem.1 hq).1, (edI_mem.1 hp).2, (edI_mem.1 hq).2⟩
theorem getD_mem {es : List Edg} {i : Nat} (h : i < es.length) : es.getD i default ∈ es := by
  rw [List.getD_eq_getElem?_getD, List.getElem?_eq_getElem h]
  exact List.getElem_mem h
theorem has_other {e : Edg} {j : Int} (h : e.has j = true) : e.a + e.b - j = e.a ∨ e.a + e.b - j = e.b := by
  unfold Edg.has at h
  simp only [Bool.or_eq_true, beq_iff_eq] at h
  omega
theorem par_two {x y : Int} (hx : 1 ≤ x ∧ x ≤ 1000000) (hy : 1 ≤ y ∧ y ≤ 1000000) : 1 ≤ par [x, y] ∧ par [x, y] ≤ 1000000 := by
  have rx : isRes x = true := decide_eq_true hx
  have ry : isRes y = true := decide_eq_true hy
  have h := condSum_bnd (xs := [x, y]) (fun z hz => by
    rcases List.mem_cons.1 hz with rfl | hz
    · exact rx
    · rw [List.mem_singleton] at hz; subst hz; exact ry)
  simp only [List.length_cons, List.length_nil] at h
  obtain ⟨s1, s2⟩ := h
  refine ⟨(par_bnd (by omega) (by omega)).1, ?_⟩
  unfold par
  generalize condSum [x, y] = s at *
  have hs : (200000 : Int) * 200000 ≤ s * s := Int.mul_le_mul (by omega) (by omega) (by omega) (by omega)
  have hb := sq_bnd (s := s) (by omega) (by omega)
  generalize s * s = t at *
  have h3 : dr 10000000000000000 t ≤ 1000000 := (dr_scale (a := 10000000000000000) (b := t) (m := 1000000) (by omega) (by omega) (by omega)).2
  omega
def EsOk (es : List Edg) : Prop := (∀ e ∈ es, e.ok) ∧ es.length ≤ 24
theorem esOk_erase {es : List Edg} {i : Nat} (h : EsOk es) : EsOk (es.eraseIdx i) :=
  ⟨fun e he => h.1 e (List.mem_of_mem_eraseIdx he), Nat.le_trans (List.length_eraseIdx_le _ _) h.2⟩
theorem esOk_set {es : List Edg} {i : Nat} {e : Edg} (h : EsOk es) (he : e.ok) : EsOk (es.set i e) :=
  ⟨fun x hx => by
    rcases List.mem_or_eq_of_mem_set hx with h1 | rfl
    · exact h.1 x h1
    · exact he, by rw [List.length_set]; exact h.2⟩
theorem esOk_sd {es : List Edg} {i k : Nat} (h : EsOk es) (hs : SdAt es i k) : EsOk (sdE es i k) := by
  have h1 := h.1 _ (getD_mem (es := es) (i := i) (by have := hs.1; have := hs.2.1; omega))
  have h2 := h.1 _ (getD_mem (es := es) (i := k) hs.2.1)
  exact esOk_erase (esOk_set h ⟨h1.1, h1.2.1, par_two h1.2.2 h2.2.2⟩)
theorem en_ok {fr to J : Int} {es : List Edg} {j : Int} {p q : Nat} (h : EsOk es) (hs : EnAt fr to J es j p q) :
    (0 ≤ (es.getD p default).a + (es.getD p default).b - j ∧ (es.getD p default).a + (es.getD p default).b - j ≤ 15) ∧ (0 ≤ (es.getD q default).a + (es.getD q default).b - j ∧ (es.getD q default).a + (es.getD q default).b - j ≤ 15) ∧ 2 ≤ enSum es p q ∧ enSum es p q ≤ 2000000 := by
  obtain ⟨h1, h2, h3, h4⟩ := en_pq hs
  have g1 := h.1 _ (getD_mem (es := es) (i := p) (by omega))
  have g2 := h.1 _ (getD_mem (es := es) (i := q) h2)
  unfold Edg.ok at g1 g2
  unfold enSum
  have o1 := has_other h3
  have o2 := has_other h4
  omega
theorem esOk_en {fr to J : Int} {es : List Edg} {j : Int} {p q : Nat} (h : EsOk es) (hs : EnAt fr to J es j p q) (hf : enSum es p q ≤ 1000000) : EsOk (enE es j p q) := by
  obtain ⟨h1, h2, h3, h4⟩ := en_ok h hs
  exact esOk_erase (esOk_set h ⟨h1, h2, by show 1 ≤ enSum es p q; omega, hf⟩)
theorem sdE_len {es : List Edg} {i k : Nat} (hk : k < es.length) : (sdE es i k).length + 1 = es.length := by
  unfold sdE; rw [List.length_eraseIdx, List.length_set, if_pos hk]; omega
theorem enE_len {es : List Edg} {j : Int} {p q : Nat} (hk : q < es.length) : (enE es j p q).length + 1 = es.length := by
  unfold enE; rw [List.length_eraseIdx, List.length_set, if_pos hk]; omega
theorem erase_len {es : List Edg} {i : Nat} (hk : i < es.length) : (es.eraseIdx i).length + 1 = es.length := by
  rw [List.length_eraseIdx, if_pos hk]; omega
theorem step_len {fr to J : Int} {es x : List Edg} {b : Bool} (h : RStep fr to J es x b) : x.length + 1 = es.length := by
  rcases h with ⟨i, hi, rfl, rfl⟩ | ⟨i, k, h0, h1, rfl, rfl⟩ | ⟨j, p, q, h0, h1, h2, rfl, rfl⟩
  · exact erase_len (rm_lt hi)
  · exact sdE_len h1.2.1
  · exact enE_len (en_pq h2).2.1
theorem step_ok {fr to J : Int} {es x : List Edg} (h : RStep fr to J es x false) (hk : EsOk es) : EsOk x := by
  rcases h with ⟨i, hi, rfl, _⟩ | ⟨i, k, h0, h1, rfl, _⟩ | ⟨j, p, q, h0, h1, h2, rfl, hb⟩
  · exact esOk_erase hk
  · exact esOk_sd hk h1
  · refine esOk_en hk h2 ?_
    have := of_decide_eq_false hb.symm
    omega
/-- The reference looks at every edge of the next list: one is too great just where the sum was. -/
theorem step_full {fr to J : Int} {es x : List Edg} {b : Bool} (h : RStep fr to J es x b) (hk : EsOk es) : (x.any fun e => decide (1000000 < e.r)) = b := by
  cases b with
  | false =>
    rw [List.any_eq_false]
    intro e he
    have := (step_ok h hk).1 e he
    unfold Edg.ok at this
    simp; omega
  | true =>
    rcases h with ⟨i, hi, rfl, hb⟩ | ⟨i, k, h0, h1, rfl, hb⟩ | ⟨j, p, q, h0, h1, h2, rfl, hb⟩
    · cases hb
    · cases hb
    · rw [List.any_eq_true]
      obtain ⟨g1, g2, _⟩ := en_pq h2
      refine ⟨⟨(es.getD p default).a + (es.getD p default).b - j, (es.getD q default).a + (es.getD q default).b - j, enSum es p q⟩, ?_, hb.symm⟩
      unfold enE
      rw [List.mem_iff_getElem?]
      refine ⟨p, ?_⟩
      rw [List.getElem?_eraseIdx, if_pos g1, List.getElem?_set, if_pos rfl, if_pos (by omega)]
theorem set_erase {es : List Edg} {i k : Nat} {e : Edg} (h : i < k) : (es.eraseIdx k).set i e = (es.set i e).eraseIdx k := by
  apply List.ext_getElem?
  intro t
  rw [List.getElem?_set, List.getElem?_eraseIdx, List.getElem?_eraseIdx, List.length_eraseIdx, List.getElem?_set, List.getElem?_set]
  by_cases ht : i = t
  · subst ht
    rw [if_pos rfl, if_pos h, if_pos rfl]
    by_cases hk : k < es.length
    · rw [if_pos hk, if_pos (by omega), if_pos (by omega)]
    · rw [if_neg hk]
  · rw [if_neg ht, if_neg ht]
    by_cases htk : t < k
    · rw [if_pos htk, if_pos htk]
    · rw [if_neg htk, if_neg htk, if_neg (by omega)]
end Go.Proofs.Ytnfallanjndbcaa
