/- Several texts in one: Far Trs Tre Wlf Bfs. -/
import Derived.Test.YtjmhhbjbmgpagaaMgF
import Derived.Test.YtjmhhbjbmgpagaaMgC
/- Distances along airways, found level by level; the walk that they lead. Plain laws. -/
namespace Go.Proofs.Ytjmhhbjbmgpagaa
set_option linter.unusedVariables false
set_option linter.unusedSimpArgs false
/-- One airway at one level: an end without a distance gets one. -/
def relax1 (f : List Int) (s : Int) (u v : Nat) : List Int := if f.getD u 0 = s ∧ f.getD v 0 < 0 then f.set v (s + 1) else f
def relax (E : Edges) (s : Int) (f : List Int) (i : Nat) : List Int := relax1 (relax1 f s (eA E i) (eB E i)) s (eB E i) (eA E i)
def levelL (E : Edges) (T : List Nat) (f : List Int) (s : Nat) : List Int := T.foldl (relax E (s : Int)) f
def far0 (J to : Nat) : List Int := (List.replicate J (-1 : Int)).set to 0
def farTo (E : Edges) (J : Nat) (T : List Nat) (to : Nat) (k : Nat) : List Int := (List.range k).foldl (levelL E T) (far0 J to)
def farL (E : Edges) (J : Nat) (T : List Nat) (to : Nat) : List Int := farTo E J T to J
theorem farTo_succ (E : Edges) (J : Nat) (T : List Nat) (to k : Nat) : farTo E J T to (k + 1) = levelL E T (farTo E J T to k) k := by
  unfold farTo; rw [List.range_succ, List.foldl_append]; rfl
theorem relax1_len (f : List Int) (s : Int) (u v : Nat) : (relax1 f s u v).length = f.length := by unfold relax1; split <;> simp
theorem relax_len (E : Edges) (s : Int) (f : List Int) (i : Nat) : (relax E s f i).length = f.length := by unfold relax; rw [relax1_len, relax1_len]
theorem level_len (E : Edges) (s : Int) : ∀ (T : List Nat) (f : List Int), (T.foldl (relax E s) f).length = f.length
  | [], f => rfl
  | i :: t, f => by rw [List.foldl_cons, level_len E s t, relax_len]
theorem far0_len (J to : Nat) : (far0 J to).length = J := by unfold far0; simp
theorem farTo_len (E : Edges) (J : Nat) (T : List Nat) (to : Nat) : ∀ k, (farTo E J T to k).length = J
  | 0 => far0_len J to
  | k + 1 => by rw [farTo_succ]; unfold levelL; rw [level_len, farTo_len E J T to k]
theorem getD_set {f : List Int} {v u : Nat} {x : Int} (hv : v < f.length) : (f.set v x).getD u 0 = if v = u then x else f.getD u 0 := by
  rw [List.getD_eq_getElem?_getD, List.getElem?_set, List.getD_eq_getElem?_getD]
  split
  · first | rfl | (rw [if_pos hv]; rfl)
  · rfl
/-- All distances found are right, and all up to level s are found. -/
structure FarInv (E : Edges) (J : Nat) (T : List Nat) (to : Nat) (s : Nat) (f : List Int) : Prop where
  len : f.length = J
  lo : ∀ u, u < J → -1 ≤ f.getD u 0
  right : ∀ u, u < J → 0 ≤ f.getD u 0 → isDist E T to (f.getD u 0).toNat u
  known : ∀ u, u < J → ∀ m, m ≤ s → isDist E T to m u → f.getD u 0 = m
  top : ∀ u, u < J → f.getD u 0 ≤ s + 1
section
variable {E : Edges} {J : Nat} {T : List Nat} {to s : Nat} {f : List Int}
/-- What one step keeps. -/
theorem relax1_inv (h : FarInv E J T to s f) {u v : Nat} (hu : u < J) (hv : v < J) (hw : ∀ n, Wlk E T to n u → Wlk E T to (n + 1) v) :
    FarInv E J T to s (relax1 f s u v) ∧ (∀ x, x < J → 0 ≤ f.getD x 0 → (relax1 f s u v).getD x 0 = f.getD x 0) ∧ (∀ x, x < J → f.getD x 0 < 0 → (relax1 f s u v).getD x 0 = f.getD x 0 ∨ (relax1 f s u v).getD x 0 = s + 1) ∧ (f.getD u 0 = s → 0 ≤ (relax1 f s u v).getD v 0) := by
  unfold relax1
  by_cases hc : f.getD u 0 = s ∧ f.getD v 0 < 0
  · rw [if_pos hc]
    have hvl : v < f.length := by rw [h.len]; exact hv
    refine ⟨⟨by simp [h.len], fun x hx => ?_, fun x hx => ?_, fun x hx m hm hd => ?_, fun x hx => ?_⟩, fun x hx h0 => ?_, fun x hx h0 => ?_, fun _ => ?_⟩
    · rw [getD_set hvl]; split
      · omega
      · exact h.lo x hx
    · rw [getD_set hvl]
      split
      · rename_i he
        subst he
        intro _
        have h1 := h.right u hu (by omega)
        rw [hc.1, Int.toNat_natCast] at h1
        refine ⟨by rw [show ((s : Int) + 1).toNat = s + 1 by omega]; exact hw _ h1.1, fun m hm hwm => ?_⟩
        obtain ⟨q, hq, hd⟩ := dist_exists _ hwm
        have h2 := h.known v hx q (by omega) hd
        omega
      · exact h.right x hx
    · rw [getD_set hvl]
      split
      · rename_i he
        subst he
        have h2 := h.known v hx m hm hd
        omega
      · exact h.known x hx m hm hd
    · rw [getD_set hvl]; split
      · exact Int.le_refl _
      · exact h.top x hx
    · rw [getD_set hvl]; split
      · rename_i he; subst he; omega
      · rfl
    · rw [getD_set hvl]; split
      · exact .inr rfl
      · exact .inl rfl
    · rw [getD_set hvl, if_pos rfl]; omega
  · rw [if_neg hc]
    exact ⟨h, fun x _ _ => rfl, fun x _ _ => .inl rfl, fun h1 => by
      rcases Int.lt_or_le (f.getD v 0) 0 with h2 | h2
      · exact absurd ⟨h1, h2⟩ hc
      · exact h2⟩
theorem relax_inv (h : FarInv E J T to s f) {i : Nat} (hi : i ∈ T) (ha : eA E i < J) (hb : eB E i < J) :
    FarInv E J T to s (relax E s f i) ∧ (∀ x, x < J → 0 ≤ f.getD x 0 → (relax E s f i).getD x 0 = f.getD x 0) ∧ (∀ x, x < J → f.getD x 0 < 0 → (relax E s f i).getD x 0 = f.getD x 0 ∨ (relax E s f i).getD x 0 = s + 1) ∧
      ((relax E s f i).getD (eA E i) 0 = s → 0 ≤ (relax E s f i).getD (eB E i) 0) ∧ ((relax E s f i).getD (eB E i) 0 = s → 0 ≤ (relax E s f i).getD (eA E i) 0) := by
  obtain ⟨a1, a2, a3, a4⟩ := relax1_inv h ha hb fun n hn => hn.fwd hi
  obtain ⟨b1, b2, b3, b4⟩ := relax1_inv a1 hb ha fun n hn => hn.bwd hi
  have keep : ∀ x, x < J → 0 ≤ f.getD x 0 → (relax E s f i).getD x 0 = f.getD x 0 := fun x hx h0 => by
    have h1 := a2 x hx h0
    exact (b2 x hx (by omega)).trans h1
  have neg : ∀ x, x < J → f.getD x 0 < 0 → (relax E s f i).getD x 0 = f.getD x 0 ∨ (relax E s f i).getD x 0 = s + 1 := fun x hx h0 => by
    rcases a3 x hx h0 with h1 | h1
    · rcases b3 x hx (by omega) with h2 | h2
      · exact .inl (h2.trans h1)
      · exact .inr h2
    · exact .inr ((b2 x hx (by omega)).trans h1)
  have back : ∀ x, x < J → (relax E s f i).getD x 0 = s → f.getD x 0 = s := fun x hx h0 => by
    rcases Int.lt_or_le (f.getD x 0) 0 with h1 | h1
    · rcases neg x hx h1 with h2 | h2 <;> omega
    · rw [← keep x hx h1]; exact h0
  refine ⟨b1, keep, neg, fun h0 => ?_, fun h0 => ?_⟩
  · have h1 := a4 (back _ ha h0)
    have h2 := b2 _ hb h1
    show 0 ≤ (relax1 (relax1 f s (eA E i) (eB E i)) s (eB E i) (eA E i)).getD (eB E i) 0
    omega
  · have h1 := back _ hb h0
    have h2 : (relax1 f s (eA E i) (eB E i)).getD (eB E i) 0 = s := (a2 _ hb (by omega)).trans h1
    exact b4 h2
theorem level_inv (hr : ∀ i ∈ T, eA E i < J ∧ eB E i < J) : ∀ (R : List Nat), (∀ i ∈ R, i ∈ T) → ∀ f, FarInv E J T to s f →
    FarInv E J T to s (R.foldl (relax E s) f) ∧ (∀ x, x < J → 0 ≤ f.getD x 0 → (R.foldl (relax E s) f).getD x 0 = f.getD x 0) ∧ (∀ x, x < J → f.getD x 0 < 0 → (R.foldl (relax E s) f).getD x 0 = f.getD x 0 ∨ (R.foldl (relax E s) f).getD x 0 = s + 1) ∧
      ∀ i ∈ R, ((R.foldl (relax E s) f).getD (eA E i) 0 = s → 0 ≤ (R.foldl (relax E s) f).getD (eB E i) 0) ∧ ((R.foldl (relax E s) f).getD (eB E i) 0 = s → 0 ≤ (R.foldl (relax E s) f).getD (eA E i) 0)
  | [], _, f, h => ⟨h, fun x _ _ => rfl, fun x _ _ => .inl rfl, fun i hi => by simp at hi⟩
  | i :: t, hR, f, h => by
    have hi := hR i (List.mem_cons_self ..)
    obtain ⟨ha, hb⟩ := hr i hi
    obtain ⟨a1, a2, a3, a4, a5⟩ := relax_inv h hi ha hb
    obtain ⟨b1, b2, b3, b4⟩ := level_inv hr t (fun j hj => hR j (List.mem_cons_of_mem _ hj)) _ a1
    rw [List.foldl_cons]
    have keep : ∀ x, x < J → 0 ≤ f.getD x 0 → (t.foldl (relax E s) (relax E s f i)).getD x 0 = f.getD x 0 := fun x hx h0 => by
      have h1 := a2 x hx h0
      exact (b2 x hx (by omega)).trans h1
    have back : ∀ x, x < J → (t.foldl (relax E s) (relax E s f i)).getD x 0 = s → (relax E s f i).getD x 0 = s := fun x hx h0 => by
      rcases Int.lt_or_le ((relax E s f i).getD x 0) 0 with h1 | h1
      · rcases b3 x hx h1 with h2 | h2 <;> omega
      · rw [← b2 x hx h1]; exact h0
    refine ⟨b1, keep, fun x hx h0 => ?_, fun j hj => ?_⟩
    · rcases a3 x hx h0 with h1 | h1
      · rcases b3 x hx (by omega) with h2 | h2
        · exact .inl (h2.trans h1)
        · exact .inr h2
      · exact .inr ((b2 x hx (by omega)).trans h1)
    · rcases List.mem_cons.1 hj with rfl | hj
      · refine ⟨fun h0 => ?_, fun h0 => ?_⟩
        · have h1 := a4 (back _ ha h0)
          have h2 := b2 _ hb h1
          omega
        · have h1 := a5 (back _ hb h0)
          have h2 := b2 _ ha h1
          omega
      · exact b4 j hj
theorem level_next (hr : ∀ i ∈ T, eA E i < J ∧ eB E i < J) (h : FarInv E J T to s f) : FarInv E J T to (s + 1) (levelL E T f s) := by
  obtain ⟨b1, b2, b3, b4⟩ := level_inv hr T (fun _ hi => hi) f h
  refine ⟨b1.len, b1.lo, b1.right, fun u hu m hm hd => ?_, fun u hu => by have := b1.top u hu; unfold levelL; omega⟩
  rcases Nat.lt_or_ge s m with h1 | h1
  · obtain rfl : m = s + 1 := by omega
    obtain ⟨i, hi, v, hv, he⟩ := dist_pred hd
    obtain ⟨ha, hb⟩ := hr i hi
    have key : 0 ≤ (levelL E T f s).getD u 0 := by
      rcases he with ⟨rfl, rfl⟩ | ⟨rfl, rfl⟩
      · exact (b4 i hi).1 (b1.known _ ha s (Nat.le_refl _) hv)
      · exact (b4 i hi).2 (b1.known _ hb s (Nat.le_refl _) hv)
    have h2 := dist_unique (b1.right u hu key) hd
    unfold levelL at key ⊢
    omega
  · exact b1.known u hu m h1 hd
theorem far0_inv (hto : to < J) : FarInv E J T to 0 (far0 J to) := by
  have hg : ∀ u, u < J → (far0 J to).getD u 0 = if to = u then 0 else -1 := fun u hu => by
    unfold far0
    rw [getD_set (by simpa using hto), List.getD_eq_getElem?_getD, List.getElem?_replicate, if_pos hu]; rfl
  refine ⟨far0_len J to, fun u hu => ?_, fun u hu h0 => ?_, fun u hu m hm hd => ?_, fun u hu => ?_⟩
  · rw [hg u hu]; split <;> omega
  · rw [hg u hu] at h0 ⊢
    split at h0
    · rename_i he; rw [if_pos he]; exact dist_zero.2 he.symm
    · omega
  · obtain rfl : m = 0 := by omega
    rw [hg u hu, if_pos (dist_zero.1 hd).symm]; rfl
  · rw [hg u hu]; split <;> omega
theorem farTo_inv (hto : to < J) (hr : ∀ i ∈ T, eA E i < J ∧ eB E i < J) : ∀ k, FarInv E J T to k (farTo E J T to k)
  | 0 => far0_inv hto
  | k + 1 => by rw [farTo_succ]; exact level_next hr (farTo_inv hto hr k)
/-- What the levels find: the distances. -/
theorem far_char (hto : to < J) (hr : ∀ i ∈ T, eA E i < J ∧ eB E i < J) {u : Nat} (hu : u < J) :
    -1 ≤ (farL E J T to).getD u 0 ∧ (farL E J T to).getD u 0 ≤ J + 1 ∧ ∀ d : Nat, (farL E J T to).getD u 0 = d ↔ isDist E T to d u := by
  have h := farTo_inv (to := to) hto hr J
  refine ⟨h.lo u hu, h.top u hu, fun d => ⟨fun e => ?_, fun hd => ?_⟩⟩
  · have h1 := h.right u hu (by unfold farL at e; omega)
    unfold farL at e
    rw [e, Int.toNat_natCast] at h1
    exact h1
  · exact h.known u hu d (Nat.le_of_lt (dist_lt hto hr hd)) hd
end
/-- An airway that lowers the distance by one, seen from a junction. -/
def downB (E : Edges) (f : List Int) (at_ : Nat) (i : Nat) : Bool :=
  (eA E i == at_ && (f.getD (eB E i) 0 == f.getD at_ 0 - 1)) || (eB E i == at_ && (f.getD (eA E i) 0 == f.getD at_ 0 - 1))
/-- The number of an airway in a walk, and where it leads. -/
def stepN (E : Edges) (at_ i : Nat) : Int := if eA E i = at_ then (i : Int) + 1 else -(i : Int) - 1
def stepTo (E : Edges) (at_ i : Nat) : Nat := if eA E i = at_ then eB E i else eA E i
def walkL (E : Edges) (T : List Nat) (f : List Int) (to : Nat) : Nat → Nat → List Int
  | 0, _ => []
  | n + 1, at_ => if at_ = to then [] else match T.find? (downB E f at_) with
    | some i => stepN E at_ i :: walkL E T f to n (stepTo E at_ i)
    | none => []
/-- The way back from one junction to another. -/
def backL (E : Edges) (J : Nat) (T : List Nat) (fr to : Nat) : List Int := walkL E T (farL E J T to) to ((farL E J T to).getD fr 0).toNat fr
/-- The meshes among the first k airways. -/
def meshTo (E : Edges) (J : Nat) (T : List Nat) : Nat → List (List Int)
  | 0 => []
  | k + 1 => if k ∈ T then meshTo E J T k else meshTo E J T k ++ [((k : Int) + 1) :: backL E J T (eB E k) (eA E k)]
theorem meshTo_y {E : Edges} {J : Nat} {T : List Nat} {k : Nat} (h : k ∈ T) : meshTo E J T (k + 1) = meshTo E J T k := by simp only [meshTo]; rw [if_pos h]
theorem meshTo_n {E : Edges} {J : Nat} {T : List Nat} {k : Nat} (h : k ∉ T) : meshTo E J T (k + 1) = meshTo E J T k ++ [((k : Int) + 1) :: backL E J T (eB E k) (eA E k)] := by simp only [meshTo]; rw [if_neg h]
section
variable {E : Edges} {J : Nat} {T : List Nat} {to at_ i d : Nat}
theorem step_wlk (hi : i ∈ T) (hn : eA E i = at_ ∨ eB E i = at_) : (∀ n, Wlk E T to n at_ → Wlk E T to (n + 1) (stepTo E at_ i)) ∧ (∀ n, Wlk E T to n (stepTo E at_ i) → Wlk E T to (n + 1) at_) := by
  unfold stepTo
  by_cases h : eA E i = at_
  · rw [if_pos h]; subst h
    exact ⟨fun n hw => hw.fwd hi, fun n hw => hw.bwd hi⟩
  · rw [if_neg h]
    rcases hn with h1 | h1
    · exact absurd h1 h
    · subst h1
      exact ⟨fun n hw => hw.bwd hi, fun n hw => hw.fwd hi⟩
/-- The one that is found leads a step nearer. -/
theorem down_t (hto : to < J) (hr : ∀ i ∈ T, eA E i < J ∧ eB E i < J) (hat : at_ < J) (hd : isDist E T to (d + 1) at_) (hi : i ∈ T) (hb : downB E (farL E J T to) at_ i = true) :
    (eA E i = at_ ∨ eB E i = at_) ∧ stepTo E at_ i < J ∧ isDist E T to d (stepTo E at_ i) := by
  have hf := (((far_char hto hr hat).2.2 (d + 1)).2 hd)
  have ⟨ha, hbj⟩ := hr i hi
  unfold downB at hb
  simp only [Bool.or_eq_true, Bool.and_eq_true, beq_iff_eq] at hb
  have self : eA E i = at_ → (farL E J T to).getD (eA E i) 0 = (farL E J T to).getD at_ 0 := fun h => by rw [h]
  unfold stepTo
  rcases hb with ⟨h1, h2⟩ | ⟨h1, h2⟩
  · rw [if_pos h1]
    exact ⟨.inl h1, hbj, ((far_char hto hr hbj).2.2 d).1 (by rw [h2, hf]; omega)⟩
  · have hne : eA E i ≠ at_ := fun h => by have := self h; omega
    rw [if_neg hne]
    exact ⟨.inr h1, ha, ((far_char hto hr ha).2.2 d).1 (by rw [h2, hf]; omega)⟩
/-- There is one. -/
theorem down_ex (hto : to < J) (hr : ∀ i ∈ T, eA E i < J ∧ eB E i < J) (hat : at_ < J) (hd : isDist E T to (d + 1) at_) : ∃ i, i ∈ T ∧ downB E (farL E J T to) at_ i = true := by
  have hf := (((far_char hto hr hat).2.2 (d + 1)).2 hd)
  obtain ⟨i, hi, v, hv, he⟩ := dist_pred hd
  have ⟨ha, hb⟩ := hr i hi
  refine ⟨i, hi, ?_⟩
  unfold downB
  rcases he with ⟨rfl, rfl⟩ | ⟨rfl, rfl⟩
  · have h1 := ((far_char hto hr ha).2.2 d).2 hv
    rw [h1, hf]
    simp
  · have h1 := ((far_char hto hr hb).2.2 d).2 hv
    rw [h1, hf]
    simp
end
end Go.Proofs.Ytjmhhbjbmgpagaa

/- Contracts of the reference's parts and tree of a mine. -/
namespace Go.Proofs.Ytjmhhbjbmgpagaa
set_option linter.unusedVariables false
set_option linter.unusedSimpArgs false
open Go.RowKit
def edgesOf (xs : List Awy) : Edges := xs.map fun x => (x.a.toNat, x.b.toNat)
def nI (T : List Nat) : List Int := T.map fun i : Nat => (i : Int)
theorem edge_at {xs : List Awy} {i : Nat} {x : Awy} (h : xs[i]? = some x) : eA (edgesOf xs) i = x.a.toNat ∧ eB (edgesOf xs) i = x.b.toNat := by
  unfold eA eB edgesOf
  rw [List.getD_eq_getElem?_getD, List.getElem?_map, h]
  exact ⟨rfl, rfl⟩
/-- The ends of an airway of a valid mine. -/
theorem edge_ok {J : Int} {xs : List Awy} (hok : mineOk J xs = true) {i : Nat} {x : Awy} (h : xs[i]? = some x) :
    x.a = (eA (edgesOf xs) i : Nat) ∧ x.b = (eB (edgesOf xs) i : Nat) ∧ eA (edgesOf xs) i < J.toNat ∧ eB (edgesOf xs) i < J.toNat := by
  obtain ⟨_, _, h3⟩ := mineOk_t hok
  have h4 := h3 x (List.mem_of_getElem? h)
  obtain ⟨e1, e2⟩ := edge_at h
  rw [e1, e2]
  omega
theorem edge_lt {J : Int} {xs : List Awy} (hok : mineOk J xs = true) {i : Nat} (h : i < xs.length) : eA (edgesOf xs) i < J.toNat ∧ eB (edgesOf xs) i < J.toNat := by
  have := edge_ok hok (List.getElem?_eq_getElem h)
  exact this.2.2
theorem nI_len (T : List Nat) : (nI T).length = T.length := by simp [nI]
theorem nI_at {T : List Nat} {k : Nat} {t : Nat} (h : T[k]? = some t) : (nI T)[k]? = some (t : Int) := by unfold nI; rw [List.getElem?_map, h]; rfl
theorem nI_getD {p : List Nat} {k : Nat} (h : k < p.length) : (nI p)[k]? = some ((p.getD k 0 : Nat) : Int) := by
  rw [List.getD_eq_getElem?_getD, List.getElem?_eq_getElem h]; exact nI_at (List.getElem?_eq_getElem h)
theorem nI_snoc (T : List Nat) (k : Nat) : nI (T ++ [k]) = nI T ++ [(k : Int)] := by simp [nI]
theorem nI_mem {T : List Nat} {k : Nat} : (k : Int) ∈ nI T ↔ k ∈ T := by
  unfold nI
  rw [List.mem_map]
  constructor
  · rintro ⟨a, ha, e⟩
    obtain rfl : a = k := by omega
    exact ha
  · exact fun h => ⟨k, h, rfl⟩
/-- Labels x and y become one, in the first j places. -/
def mrgTo (p : List Nat) (x y j : Nat) : List Nat := mrg (p.take j) x y ++ p.drop j
theorem mrgTo_zero (p : List Nat) (x y : Nat) : mrgTo p x y 0 = p := by simp [mrgTo, mrg]
theorem mrgTo_all {p : List Nat} {n : Nat} (h : p.length = n) (x y : Nat) : mrgTo p x y n = mrg p x y := by
  unfold mrgTo; rw [List.take_of_length_le (by omega), List.drop_eq_nil_of_le (by omega), List.append_nil]
theorem mrgTo_len (p : List Nat) (x y j : Nat) : (mrgTo p x y j).length = p.length := by
  unfold mrgTo mrg; rw [List.length_append, List.length_map, List.length_take, List.length_drop]; omega
theorem mrgTo_at {p : List Nat} {x y j : Nat} (h : j < p.length) : (mrgTo p x y j)[j]? = some (p.getD j 0) := by
  unfold mrgTo mrg
  rw [List.getElem?_append_right (by rw [List.length_map, List.length_take]; omega), List.length_map, List.length_take, Nat.min_eq_left (by omega), Nat.sub_self, List.getElem?_drop, Nat.add_zero, List.getElem?_eq_getElem h,
    List.getD_eq_getElem?_getD, List.getElem?_eq_getElem h]; rfl
theorem mrgTo_succ {p : List Nat} {x y j : Nat} (h : j < p.length) : mrgTo p x y (j + 1) = (mrgTo p x y j).set j (if p.getD j 0 = max x y then min x y else p.getD j 0) := by
  have hd : p.drop j = p[j] :: p.drop (j + 1) := List.drop_eq_getElem_cons h
  have hg : p.getD j 0 = p[j] := by rw [List.getD_eq_getElem?_getD, List.getElem?_eq_getElem h]; rfl
  have hl : (mrg (p.take j) x y).length = j := by unfold mrg; rw [List.length_map, List.length_take]; omega
  unfold mrgTo
  rw [List.set_append_right _ _ (by rw [hl]; exact Nat.le_refl _), hl, Nat.sub_self, hd, List.set_cons_zero, hg, List.take_add_one, List.getElem?_eq_getElem h]
  unfold mrg
  rw [List.map_append, List.append_assoc]; rfl
theorem nI_set (p : List Nat) (j v : Nat) : nI (p.set j v) = (nI p).set j (v : Int) := by unfold nI; rw [List.map_set]
theorem mrgTo_y {p : List Nat} {x y j : Nat} (h : j < p.length) (e : p.getD j 0 = max x y) : nI (mrgTo p x y (j + 1)) = (nI (mrgTo p x y j)).set j ((min x y : Nat) : Int) := by
  rw [mrgTo_succ h, if_pos e, nI_set]
theorem mrgTo_n {p : List Nat} {x y j : Nat} (h : j < p.length) (e : ¬ p.getD j 0 = max x y) : mrgTo p x y (j + 1) = mrgTo p x y j := by
  rw [mrgTo_succ h, if_neg e]
  apply List.ext_getElem?
  intro l
  rw [List.getElem?_set]
  split
  · rename_i hl
    subst hl
    rw [if_pos (by rw [mrgTo_len]; exact h), mrgTo_at h]
  · rfl
theorem fold_snoc {α β : Type} {f : β → α → β} {b : β} {xs : List α} {k : Nat} {x : α} (h : xs[k]? = some x) : (xs.take (k + 1)).foldl f b = f ((xs.take k).foldl f b) x := by
  rw [take_snoc h, List.foldl_append]; rfl
theorem stepP_len (E : Edges) (p : List Nat) (i : Nat) : (stepP E p i).length = p.length := by unfold stepP mrg; rw [List.length_map]
theorem foldP_len (E : Edges) : ∀ (T : List Nat) (p : List Nat), (T.foldl (stepP E) p).length = p.length
  | [], p => rfl
  | i :: t, p => by rw [List.foldl_cons, foldP_len E t, stepP_len]
theorem stepP_lt {E : Edges} {J : Nat} {p : List Nat} {i : Nat} (hp : ∀ x ∈ p, x < J) (h0 : 0 < J) : ∀ x ∈ stepP E p i, x < J := by
  have hg : ∀ k, p.getD k 0 < J := fun k => by
    rw [List.getD_eq_getElem?_getD]
    cases e : p[k]? with
    | none => exact h0
    | some d => exact hp d (List.mem_of_getElem? e)
  intro x hx
  unfold stepP mrg at hx
  obtain ⟨l, hl, rfl⟩ := List.mem_map.1 hx
  have h1 := hg (eA E i)
  have h2 := hg (eB E i)
  have h3 := hp l hl
  split <;> omega
theorem foldP_lt {E : Edges} {J : Nat} (h0 : 0 < J) : ∀ (T : List Nat) (p : List Nat), (∀ x ∈ p, x < J) → ∀ x ∈ T.foldl (stepP E) p, x < J
  | [], p, h => h
  | i :: t, p, h => by rw [List.foldl_cons]; exact foldP_lt h0 t _ (stepP_lt h h0)
/-- Numbers of a row of the call's own, read. -/
theorem own_at {w : World} {base n c : Nat} {A : Option Addr} {p : List Nat} (h : w.ownsRow base 2 1 (.slice A n c) n (ints (nI p))) {k : Nat} (hk : k < n) :
    ∃ g, A = some ⟨g, 0, none⟩ ∧ base ≤ g ∧ g < w.heap.size ∧ w.cell? ⟨g, k, none⟩ = some (.int .i64 (p.getD k 0 : Nat)) ∧ w.frozen? ⟨g, k, none⟩ = false ∧
      ∀ v : Nat, (w.setCell ⟨g, k, none⟩ (.int .i64 v)).ownsRow base 2 1 (.slice A n c) n (ints ((nI p).set k (v : Int))) := by
  have hl : p.length = n := by have := h.1; simpa [ints, nI] using this
  obtain ⟨g, e1, e2, e3, e4, e5, e6⟩ := own_upd h hk 0
  refine ⟨g, e1, e2, e3, ?_, e5, fun v => ?_⟩
  · rw [e4, getD_at (nI_getD (by omega))]
  · obtain ⟨g', f1, f2, f3, f4, f5, f6⟩ := own_upd h hk (v : Int)
    rw [e1] at f1
    injection f1 with f1
    injection f1 with f1
    subst f1
    exact f6
theorem own_at' {w : World} {base n c g : Nat} {p : List Nat} (h : w.ownsRow base 2 1 (.slice (some ⟨g, 0, none⟩) n c) n (ints (nI p))) {k : Nat} (hk : k < n) :
    base ≤ g ∧ g < w.heap.size ∧ w.cell? ⟨g, k, none⟩ = some (.int .i64 (p.getD k 0 : Nat)) ∧ w.frozen? ⟨g, k, none⟩ = false ∧
      ∀ v : Nat, (w.setCell ⟨g, k, none⟩ (.int .i64 v)).ownsRow base 2 1 (.slice (some ⟨g, 0, none⟩) n c) n (ints ((nI p).set k (v : Int))) := by
  obtain ⟨g', e1, e2, e3, e4, e5, e6⟩ := own_at h hk
  injection e1 with e1
  injection e1 with e1
  subst e1
  exact ⟨e2, e3, e4, e5, e6⟩
set_option maxHeartbeats 6400000 in
set_option maxRecDepth 100000 in
theorem l04Parts_any (J : Int) (M : Option Addr) (m d : Nat) (xs : List Awy) (A : Option Addr) (n c : Nat) (T : List Nat) (p : Addr) (w : World) (hm : Reads w w.heap.size 7 M m (Awy.recs xs)) (hT : Reads w w.heap.size 1 A n (ints (nI T))) (hok : mineOk J xs = true) (hn : n ≤ 1000) (hTl : ∀ i ∈ T, i < xs.length)
    (hp0 : w.cell? p = some (.int .i64 J)) (hp1 : w.cell? ⟨p.block, p.off + 1, none⟩ = some (.slice M m d)) :
    Calls Try.prog 146 #[.pointer (some p), .slice A n c] w fun e w' => ∃ A' c', e = .returned (.slice A' J.toNat c') ∧ w'.ownsRow w.heap.size 2 1 (.slice A' J.toNat c') J.toNat (ints (nI (partsL (edgesOf xs) J.toNat T))) ∧ Below w.heap.size w w' := by
  obtain ⟨i0, hi0, hz0, hz1, hz2⟩ := info_parts info_Int64S
  obtain ⟨⟨j1, j2⟩, hx24, _⟩ := mineOk_t hok
  obtain ⟨jn, rfl⟩ : ∃ jn : Nat, J = jn := ⟨J.toNat, by omega⟩
  rw [Int.toNat_natCast]
  have HLm := Lib.hid (recs_rlen Awy.clen (by omega) hm)
  have HLT : Hid (T.length = n) := show _ = _ by have := ints_len hT; rw [nI_len] at this; exact this
  have HOK := Lib.hid hok
  have HTl := Lib.hid hTl
  have hpl := block_lt_of_cell hp0
  have hpl1 := block_lt_of_cell hp1
  clear hok hTl
  go_enter Try.func146, Try.ntmps146
  go_wp2
  go_loopw [5, 6] (fun o i wr => ∃ (k : Nat) (A' : Option Addr) (c' : Nat), k ≤ jn ∧ o = .slice A' k c' ∧ i = .int .i64 k ∧ wr.ownsRow w.heap.size 2 1 (.slice A' k c') k (ints (nI (List.range k))) ∧ Below w.heap.size w wr) (fun _ i _ => jn - (intOf i).toNat)
  case atStart => exact ⟨0, _, 0, by omega, rfl, rfl, own_empty _ _ _, by (repeat (first | exact Below.refl _ _ | assumption | (refine Below.alloc ?_ (by first | exact Nat.le_refl _ | (simp; done) | (simp; omega)) _) | (refine below_drewN ?_ _) | (refine Below.trans ?_ (Below.mono (by assumption) (by first | exact Nat.le_refl _ | (simp; done) | (simp; omega) | omega)))))⟩
  case round =>
    obtain ⟨k, A', c', hk, rfl, rfl, hown, hbr⟩ := hrel
    obtain ⟨w1, rfl⟩ : ∃ w1 : World, w1 = wr := ⟨_, rfl⟩
    have g0 : w1.cell? p = some (.int .i64 jn) := (hbr.cell hpl).trans hp0
    have g1 : w1.cell? ⟨p.block, p.off + 1, none⟩ = some (.slice M m d) := (hbr.cell (p := ⟨p.block, p.off + 1, none⟩) hpl1).trans hp1
    have hz := hbr.size
    by_cases hlt : k < jn
    · go_wp2_with (at_builtin; (refine wpList_app _ rfl _ _ 25 rfl w.heap.size 2 i0 _ 1 8 Try.underlying25 hi0 hz0 hz1 hz2 rfl (by omega) A' _ c' _ rfl ((hown).alloc _) ⟨_, 0, none⟩ 1 1 [.int .i64 (k : Int)] rfl rfl (cell_one_at (by simp) _ _) (by simp [Value.oneCell']) (by unfold maxLen; omega) (by omega) (by have hz := (hbr).size; simp at hz ⊢; omega) ?_); intro A1 c1 w2 ho2 hb2)
      go_roundw
      case rel => exact ⟨k + 1, A1, c1, by omega, by first | rfl | go_num, by go_num, by rw [List.range_succ, nI_snoc]; simpa [ints] using ho2, (hbr.alloc hbr.size _).trans hb2⟩
      case measure => simp [intOf]; omega
    · have e : k = jn := by omega
      subst e
      have hj0 : 0 < k := by omega
      obtain ⟨g, rfl, hg1, hg2, _, _, _⟩ := own_at hown hj0
      go_wp2
      go_loopw [7] (fun i wq => ∃ q : Nat, q ≤ n ∧ i = .int .i64 q ∧ wq.ownsRow w.heap.size 2 1 (.slice (some ⟨g, 0, none⟩) k c') k (ints (nI ((T.take q).foldl (stepP (edgesOf xs)) (List.range k)))) ∧ Below w.heap.size w wq) (fun i _ => n - (intOf i).toNat)
      case atStart => exact ⟨0, by omega, rfl, hown, hbr⟩
      case round =>
        obtain ⟨q, hq, rfl, hown2, hbq⟩ := hrel
        obtain ⟨wo, rfl⟩ : ∃ wo : World, wo = wr := ⟨_, rfl⟩
        clear hown g0 g1 hbr
        have g0 : wo.cell? p = some (.int .i64 k) := (hbq.cell hpl).trans hp0
        have g1 : wo.cell? ⟨p.block, p.off + 1, none⟩ = some (.slice M m d) := (hbq.cell (p := ⟨p.block, p.off + 1, none⟩) hpl1).trans hp1
        by_cases hqn : q < n
        · obtain ⟨t, htq⟩ : ∃ t, T[q]? = some t := ⟨_, List.getElem?_eq_getElem (by rw [HLT.out]; exact hqn)⟩
          have htl := HTl.out t (List.mem_of_getElem? htq)
          obtain ⟨td, rfl, htd, _, hct⟩ := (hT.below hbq).int_at (nI_at htq)
          obtain ⟨ad, x, rfl, had, hx, hc⟩ := (hm.below hbq).rec_at Awy.clen (by omega) (k := t) (by rw [← HLm.out]; exact htl)
          obtain ⟨ea, eb, ha, hb⟩ := edge_ok HOK.out hx
          obtain ⟨a0, a1, a2, a3, a4, a5, a6⟩ := Awy.open_ hc
          rw [Int.toNat_natCast] at ha hb
          have HF := Lib.hid (fold_snoc (f := stepP (edgesOf xs)) (b := List.range k) htq)
          have HPl := Lib.hid ((foldP_len (edgesOf xs) (T.take q) (List.range k)).trans List.length_range)
          rw [ea] at a1
          rw [eb] at a2
          have htm : t < m := by rw [← HLm.out]; exact htl
          generalize hP : (T.take q).foldl (stepP (edgesOf xs)) (List.range k) = P at *
          generalize hEA : eA (edgesOf xs) t = ua at *
          generalize hEB : eB (edgesOf xs) t = ub at *
          obtain ⟨_, _, ca, _, _⟩ := own_at' hown2 ha
          obtain ⟨_, _, cb, _, _⟩ := own_at' hown2 hb
          have HST : Hid (stepP (edgesOf xs) P t = mrg P (P.getD ua 0) (P.getD ub 0)) := show _ = _ by unfold stepP; rw [hEA, hEB]
          generalize hX : P.getD ua 0 = X at *
          generalize hY : P.getD ub 0 = Y at *
          have HMn : Hid (∀ q nn, Calls Try.prog 129 #[.int .i64 X, .int .i64 Y] (wo.drewN (q + nn)) fun e w'' => e = .returned (.int .i64 (min X Y : Nat)) ∧ ∃ mm, w'' = wo.drewN (q + mm)) := fun q nn => (l00Min_any X Y _).mono fun _ _ ⟨h, hw⟩ => ⟨by rw [h]; exact ret_int (by omega), nn, hw.symm⟩
          have HMx : Hid (∀ q nn, Calls Try.prog 113 #[.int .i64 X, .int .i64 Y] (wo.drewN (q + nn)) fun e w'' => e = .returned (.int .i64 (max X Y : Nat)) ∧ ∃ mm, w'' = wo.drewN (q + mm)) := fun q nn => (l00Max_any X Y _).mono fun _ _ ⟨h, hw⟩ => ⟨by rw [h]; exact ret_int (by omega), nn, hw.symm⟩
          have hqI : (q : Int) < (n : Int) := by omega
          have htI : (t : Int) < (m : Int) := by omega
          have haI : (ua : Int) < (k : Int) := by omega
          have hbI : (ub : Int) < (k : Int) := by omega
          have HO2 := Lib.hid hown2
          clear hx hc htq htl hP hEA hEB hX hY ea eb hown2
          go_wp2
          go_quiet (fail)
          go_wp2
          go_quiet ((go_at_call 129; exact HMn.out _ _))
          go_wp2
          go_quiet ((go_at_call 113; exact HMx.out _ _))
          go_wp2
          have hzq := hbq.size
          generalize hHI : max X Y = hi at *
          generalize hLO : min X Y = lo at *
          have HHL := Lib.hid (And.intro hHI hLO)
          clear hHI hLO HMn HMx
          go_loopw [11] (fun i wq => ∃ j : Nat, j ≤ k ∧ i = .int .i64 j ∧ wq.ownsRow w.heap.size 2 1 (.slice (some ⟨g, 0, none⟩) k c') k (ints (nI (mrgTo P X Y j))) ∧ Below w.heap.size w wq) (fun i _ => k - (intOf i).toNat)
          case atStart => exact ⟨0, by omega, rfl, by rw [mrgTo_zero]; exact HO2.out, below_drewN (below_drewN (below_drewN hbq _) _) _⟩
          case round =>
            obtain ⟨j, hjk, rfl, hown3, hbj⟩ := hrel
            obtain ⟨wi, rfl⟩ : ∃ wi : World, wi = wr := ⟨_, rfl⟩
            by_cases hjl : j < k
            · have hjI : (j : Int) < (k : Int) := by omega
              have hjP : j < P.length := by have := HPl.out; omega
              obtain ⟨h1, h2, cj, fj, hup⟩ := own_at' hown3 hjl
              have hgj : (mrgTo P X Y j).getD j 0 = P.getD j 0 := by rw [List.getD_eq_getElem?_getD, mrgTo_at hjP]; rfl
              rw [hgj] at cj
              generalize hpv : P.getD j 0 = pv at *
              have HPV := Lib.hid hpv
              have HUP := Lib.hid (hup lo)
              have HO3 := Lib.hid hown3
              clear hgj hpv hup hown3
              by_cases he : pv = hi
              · have he1 : ((pv : Int) == (hi : Int)) = true := by rw [he]; exact beq_self_eq_true _
                have he2 : (pv == hi) = true := by rw [he]; exact beq_self_eq_true _
                have HN := Lib.hid (mrgTo_y (x := X) (y := Y) hjP (by rw [HPV.out, HHL.out.1]; exact he))
                have HB3 := Lib.hid (hbj.setCell (p := ⟨g, j, none⟩) h1 (.int .i64 lo))
                clear he
                go_wp2
                go_roundw
                case rel => exact ⟨j + 1, by omega, by go_num, by rw [HN.out, HHL.out.2]; exact HUP.out, HB3.out⟩
                case measure => simp [intOf]; omega
              · have he1 : ((pv : Int) == (hi : Int)) = false := beq_eq_false_iff_ne.2 (by omega)
                have he2 : (pv == hi) = false := beq_eq_false_iff_ne.2 he
                have HN := Lib.hid (mrgTo_n (x := X) (y := Y) hjP (by rw [HPV.out, HHL.out.1]; exact he))
                clear he
                go_wp2
                go_roundw
                case rel => exact ⟨j + 1, by omega, by go_num, by rw [HN.out]; exact HO3.out, hbj⟩
                case measure => simp [intOf]; omega
            · have e : j = k := by omega
              have HFF : Hid ((T.take (q + 1)).foldl (stepP (edgesOf xs)) (List.range k) = mrgTo P X Y j) := show _ = _ by rw [HF.out, HST.out, e]; exact (mrgTo_all HPl.out X Y).symm
              have HO3 := Lib.hid hown3
              clear e hown3
              go_wp2
              go_roundw
              case rel => exact ⟨q + 1, by omega, by go_num, by rw [HFF.out]; exact HO3.out, hbj⟩
              case measure => simp [intOf]; omega
        · have e : q = n := by omega
          have HFF : Hid ((T.take q).foldl (stepP (edgesOf xs)) (List.range k) = partsL (edgesOf xs) k T) := show _ = _ by rw [List.take_of_length_le (by rw [HLT.out]; omega)]; rfl
          rw [HFF.out] at hown2
          clear e
          go_wp2
          go_ret
          exact ⟨_, c', rfl, hown2, hbq⟩
end Go.Proofs.Ytjmhhbjbmgpagaa

/- Contracts of the reference's tree of a mine. -/
namespace Go.Proofs.Ytjmhhbjbmgpagaa
set_option linter.unusedVariables false
set_option linter.unusedSimpArgs false
open Go.RowKit
theorem edge_ltT {J : Int} {xs : List Awy} (hok : mineOk J xs = true) {k : Nat} (hk : k ≤ xs.length) : ∀ i ∈ treeL (edgesOf xs) J.toNat k, i < xs.length := fun i hi => by
  have := treeL_lt (edgesOf xs) J.toNat k i hi; omega
theorem tree_succ_y {E : Edges} {J k : Nat} (h : (partsL E J (treeL E J k)).getD (eA E k) 0 = (partsL E J (treeL E J k)).getD (eB E k) 0) : treeL E J (k + 1) = treeL E J k := by
  simp only [treeL]; rw [if_pos h]
theorem tree_succ_n {E : Edges} {J k : Nat} (h : ¬ (partsL E J (treeL E J k)).getD (eA E k) 0 = (partsL E J (treeL E J k)).getD (eB E k) 0) : treeL E J (k + 1) = treeL E J k ++ [k] := by
  simp only [treeL]; rw [if_neg h]
theorem own_drew {w : World} {base e size n : Nat} {v : Value} {xs : List Value} (h : w.ownsRow base e size v n xs) (k : Nat) : (w.drewN k).ownsRow base e size v n xs := own_below h (below_drewN (Below.refl _ _) k)
set_option maxHeartbeats 3200000 in
set_option maxRecDepth 100000 in
theorem l04Tree_any (J : Int) (M : Option Addr) (m d : Nat) (xs : List Awy) (p : Addr) (w : World) (hm : Reads w w.heap.size 7 M m (Awy.recs xs)) (hok : mineOk J xs = true)
    (hp0 : w.cell? p = some (.int .i64 J)) (hp1 : w.cell? ⟨p.block, p.off + 1, none⟩ = some (.slice M m d)) :
    Calls Try.prog 103 #[.pointer (some p)] w fun e w' => ∃ A' c', e = .returned (.slice A' (treeL (edgesOf xs) J.toNat m).length c') ∧ w'.ownsRow w.heap.size 2 1 (.slice A' (treeL (edgesOf xs) J.toNat m).length c') (treeL (edgesOf xs) J.toNat m).length (ints (nI (treeL (edgesOf xs) J.toNat m))) ∧ Below w.heap.size w w' := by
  obtain ⟨i0, hi0, hz0, hz1, hz2⟩ := info_parts info_Int64S
  obtain ⟨⟨j1, j2⟩, hx24, _⟩ := mineOk_t hok
  obtain ⟨jn, rfl⟩ : ∃ jn : Nat, J = jn := ⟨J.toNat, by omega⟩
  have HLm := Lib.hid (recs_rlen Awy.clen (by omega) hm)
  have HOK := Lib.hid hok
  have hpl := block_lt_of_cell hp0
  have hpl1 := block_lt_of_cell hp1
  have hm24 : m ≤ 24 := by rw [← HLm.out]; exact hx24
  clear hok hx24
  generalize hE : edgesOf xs = E at *
  have HE := Lib.hid hE
  clear hE
  go_enter Try.func103, Try.ntmps103
  go_wp2
  go_loopw [3, 4] (fun o i wr => ∃ (k : Nat) (A' : Option Addr) (n' c' : Nat), k ≤ m ∧ n' = (treeL E jn k).length ∧ o = .slice A' n' c' ∧ i = .int .i64 k ∧ wr.ownsRow w.heap.size 2 1 (.slice A' n' c') n' (ints (nI (treeL E jn k))) ∧ Below w.heap.size w wr) (fun _ i _ => m - (intOf i).toNat)
  case atStart => exact ⟨0, _, 0, 0, by omega, rfl, rfl, rfl, own_empty _ _ _, by (repeat (first | exact Below.refl _ _ | assumption | (refine Below.alloc ?_ (by first | exact Nat.le_refl _ | (simp; done) | (simp; omega)) _) | (refine below_drewN ?_ _) | (refine Below.trans ?_ (Below.mono (by assumption) (by first | exact Nat.le_refl _ | (simp; done) | (simp; omega) | omega)))))⟩
  case round =>
    obtain ⟨k, A', n', c', hk, hn', rfl, rfl, hown, hbr⟩ := hrel
    obtain ⟨wo, rfl⟩ : ∃ wo : World, wo = wr := ⟨_, rfl⟩
    have g0 : wo.cell? p = some (.int .i64 jn) := (hbr.cell hpl).trans hp0
    have g1 : wo.cell? ⟨p.block, p.off + 1, none⟩ = some (.slice M m d) := (hbr.cell (p := ⟨p.block, p.off + 1, none⟩) hpl1).trans hp1
    have hzr := hbr.size
    have hnk : n' ≤ k := by rw [hn']; exact treeL_len E jn k
    have HNL := Lib.hid hn'
    clear hn'
    by_cases hlt : k < m
    · have co := l04Parts_any jn M m d xs A' n' c' (treeL E jn k) p wo ((hm.below hbr).more hzr) (Reads.of_own hown) HOK.out (by omega)
        (by have := edge_ltT HOK.out (k := k) (by rw [HLm.out]; omega); rw [HE.out, Int.toNat_natCast] at this; exact this) g0 g1
      rw [HE.out, Int.toNat_natCast] at co
      obtain ⟨ad, x, rfl, had, hx, hc⟩ := hm.rec_at Awy.clen (by omega) hlt
      obtain ⟨ea, eb, ha, hb⟩ := edge_ok HOK.out hx
      rw [HE.out, Int.toNat_natCast] at ha hb
      rw [HE.out] at ea eb
      have hkI : (k : Int) < (m : Int) := by omega
      clear hx
      go_wp2_with fail; ((with_reducible refine co.mono ?_); rintro e' w1 ⟨PA, pc, rfl, ho1, hb1⟩)
      have g2 : w1.cell? ⟨p.block, p.off + 1, none⟩ = some (.slice (some ad) m d) := (hb1.cell (p := ⟨p.block, p.off + 1, none⟩) (by show p.block < _; omega)).trans g1
      obtain ⟨a0, a1, a2, a3, a4, a5, a6⟩ := Awy.open_ hc
      have b1 := ((hbr.trans (hb1.mono hzr)).cell (block_lt_of_cell a1)).trans a1
      have b2 := ((hbr.trans (hb1.mono hzr)).cell (block_lt_of_cell a2)).trans a2
      rw [ea] at b1
      rw [eb] at b2
      clear a0 a1 a2 a3 a4 a5 a6 hc
      obtain ⟨g, rfl, hg1, hg2, ca, _, _⟩ := own_at ho1 ha
      obtain ⟨_, _, cb, _, _⟩ := own_at' ho1 hb
      have hoT := own_below hown hb1
      have HLA := Lib.hid (fun h => tree_succ_y (E := E) (J := jn) (k := k) h)
      have HLB := Lib.hid (fun h => tree_succ_n (E := E) (J := jn) (k := k) h)
      generalize hua : eA E k = ua at *
      generalize hub : eB E k = ub at *
      generalize hva : (partsL E jn (treeL E jn k)).getD ua 0 = va at *
      generalize hvb : (partsL E jn (treeL E jn k)).getD ub 0 = vb at *
      have HOT := Lib.hid hoT
      have hbB := hbr.trans (hb1.mono hzr)
      have haI : (ua : Int) < (jn : Int) := by omega
      have hbI : (ub : Int) < (jn : Int) := by omega
      clear hua hub hva hvb hown hoT co ea eb ho1
      by_cases he : va = vb
      · have HN := Lib.hid (HLA.out he)
        have he1 : ((va : Int) == (vb : Int)) = true := by rw [he]; exact beq_self_eq_true _
        clear HLA HLB he
        go_wp2
        go_quiet (fail)
        go_wp2
        go_roundw
        case rel => exact ⟨k + 1, A', n', c', by omega, by rw [HN.out]; exact HNL.out, rfl, by go_num, by rw [HN.out]; exact HOT.out, by (repeat (first | exact Below.refl _ _ | assumption | (refine Below.alloc ?_ (by first | exact Nat.le_refl _ | (simp; done) | (simp; omega)) _) | (refine below_drewN ?_ _) | (refine Below.trans ?_ (Below.mono (by assumption) (by first | exact Nat.le_refl _ | (simp; done) | (simp; omega) | omega)))))⟩
        case measure => simp [intOf]; omega
      · have HN := Lib.hid (HLB.out he)
        have he1 : ((va : Int) == (vb : Int)) = false := beq_eq_false_iff_ne.2 (by omega)
        clear HLA HLB he
        go_wp2
        go_quiet (fail)
        go_wp2_with (at_builtin; (refine wpList_app _ rfl _ _ 25 rfl w.heap.size 2 i0 _ 1 8 Try.underlying25 hi0 hz0 hz1 hz2 rfl (by omega) A' _ c' _ rfl (((own_drew HOT.out _)).alloc _) ⟨_, 0, none⟩ 1 1 [.int .i64 (k : Int)] rfl rfl (cell_one_at (by simp) _ _) (by simp [Value.oneCell']) (by unfold maxLen; omega) (by omega) (by have hz := (hbB).size; simp at hz ⊢; omega) ?_); intro A1 c1 w2 ho2 hb2)
        go_roundw
        case rel => exact ⟨k + 1, A1, n' + 1, c1, by omega, by rw [HN.out, List.length_append, ← HNL.out]; rfl, by first | rfl | go_num, by go_num, by rw [HN.out, nI_snoc]; simpa [ints] using ho2, ((below_drewN hbB _).alloc (by have := hbB.size; simp; omega) _).trans hb2⟩
        case measure => simp [intOf]; omega
    · have HKM : Hid (k = m) := show _ = _ by omega
      have HOW := Lib.hid hown
      clear hown
      go_wp2
      go_ret
      have hn' := HNL.out
      have hown := HOW.out
      rw [HKM.out] at hn' hown
      subst hn'
      exact ⟨A', c', by rw [Int.toNat_natCast]; rfl, by rw [Int.toNat_natCast]; exact hown, hbr⟩
end Go.Proofs.Ytjmhhbjbmgpagaa

/- Contract of the reference's shortest walk. -/
namespace Go.Proofs.Ytjmhhbjbmgpagaa
set_option linter.unusedVariables false
set_option linter.unusedSimpArgs false
open Go.RowKit
theorem own_i {w : World} {base n c g : Nat} {f : List Int} (h : w.ownsRow base 2 1 (.slice (some ⟨g, 0, none⟩) n c) n (ints f)) {k : Nat} (hk : k < n) :
    base ≤ g ∧ g < w.heap.size ∧ w.cell? ⟨g, k, none⟩ = some (.int .i64 (f.getD k 0)) ∧ w.frozen? ⟨g, k, none⟩ = false ∧
      ∀ v : Int, (w.setCell ⟨g, k, none⟩ (.int .i64 v)).ownsRow base 2 1 (.slice (some ⟨g, 0, none⟩) n c) n (ints (f.set k v)) := by
  obtain ⟨g', e1, e2, e3, e4, e5, e6⟩ := own_upd h hk 0
  injection e1 with e1
  injection e1 with e1
  subst e1
  refine ⟨e2, e3, e4, e5, fun v => ?_⟩
  obtain ⟨g', f1, f2, f3, f4, f5, f6⟩ := own_upd h hk v
  injection f1 with f1
  injection f1 with f1
  subst f1
  exact f6
theorem relax1_y {f : List Int} {s : Int} {u v : Nat} (h1 : f.getD u 0 = s) (h2 : f.getD v 0 < 0) : relax1 f s u v = f.set v (s + 1) := by unfold relax1; rw [if_pos ⟨h1, h2⟩]
theorem relax1_n {f : List Int} {s : Int} {u v : Nat} (h : ¬ (f.getD u 0 = s ∧ f.getD v 0 < 0)) : relax1 f s u v = f := by unfold relax1; rw [if_neg h]
theorem relax_A {E : Edges} {s : Int} {f : List Int} {i : Nat} (hb : eB E i < f.length) (h1 : f.getD (eA E i) 0 = s) (h2 : f.getD (eB E i) 0 < 0) : relax E s f i = f.set (eB E i) (s + 1) := by
  unfold relax
  rw [relax1_y h1 h2, relax1_n]
  rw [getD_set hb, if_pos rfl]; omega
theorem relax_B {E : Edges} {s : Int} {f : List Int} {i : Nat} (h : ¬ (f.getD (eA E i) 0 = s ∧ f.getD (eB E i) 0 < 0)) (h1 : f.getD (eB E i) 0 = s) (h2 : f.getD (eA E i) 0 < 0) : relax E s f i = f.set (eA E i) (s + 1) := by
  unfold relax
  rw [relax1_n h, relax1_y h1 h2]
theorem relax_C {E : Edges} {s : Int} {f : List Int} {i : Nat} (h : ¬ (f.getD (eA E i) 0 = s ∧ f.getD (eB E i) 0 < 0)) (h1 : ¬ (f.getD (eB E i) 0 = s ∧ f.getD (eA E i) 0 < 0)) : relax E s f i = f := by
  unfold relax
  rw [relax1_n h, relax1_n h1]
def lenV : Value → Nat
  | .slice _ n _ => n
  | _ => 0
theorem walk_step {E : Edges} {T : List Nat} {f : List Int} {to r at_ i : Nat} (hne : at_ ≠ to) (h : T.find? (downB E f at_) = some i) : walkL E T f to (r + 1) at_ = stepN E at_ i :: walkL E T f to r (stepTo E at_ i) := by
  simp only [walkL]
  rw [if_neg hne, h]
theorem find_split {T : List Nat} {p : Nat → Bool} {i : Nat} (h : T.find? p = some i) : ∃ q : Nat, T[q]? = some i ∧ p i = true ∧ ∀ j t, j < q → T[j]? = some t → p t = false := by
  obtain ⟨h1, us, vs, rfl, h2⟩ := List.find?_eq_some_iff_append.1 h
  refine ⟨us.length, by simp, h1, fun j t hj ht => ?_⟩
  rw [List.getElem?_append_left hj] at ht
  simpa using h2 t (List.mem_of_getElem? ht)
theorem find_ex {T : List Nat} {p : Nat → Bool} (h : ∃ i, i ∈ T ∧ p i = true) : ∃ i, T.find? p = some i := by
  cases e : T.find? p with
  | some i => exact ⟨i, rfl⟩
  | none =>
    rw [List.find?_eq_none] at e
    obtain ⟨i, h1, h2⟩ := h
    exact absurd h2 (e i h1)
set_option maxHeartbeats 12800000 in
set_option maxRecDepth 100000 in
theorem l04Walk_any (J : Int) (M : Option Addr) (m d : Nat) (xs : List Awy) (A : Option Addr) (n c : Nat) (T : List Nat) (fr to : Nat) (p : Addr) (w : World) (hm : Reads w w.heap.size 7 M m (Awy.recs xs)) (hT : Reads w w.heap.size 1 A n (ints (nI T))) (hok : mineOk J xs = true) (hn : n ≤ 1000) (hTl : ∀ i ∈ T, i < xs.length)
    (hfr : fr < J.toNat) (hto : to < J.toNat) (hcon : Conn (edgesOf xs) T to fr)
    (hp0 : w.cell? p = some (.int .i64 J)) (hp1 : w.cell? ⟨p.block, p.off + 1, none⟩ = some (.slice M m d)) :
    Calls Try.prog 105 #[.pointer (some p), .slice A n c, .int .i64 fr, .int .i64 to] w fun e w' => ∃ A' n' c', e = .returned (.tuple #[.slice A' n' c', .bool true]) ∧ w'.ownsRow w.heap.size 2 1 (.slice A' n' c') n' (ints (backL (edgesOf xs) J.toNat T fr to)) ∧ n' ≤ 16 ∧ Below w.heap.size w w' := by
  obtain ⟨i0, hi0, hz0, hz1, hz2⟩ := info_parts info_Int64S
  obtain ⟨⟨j1, j2⟩, hx24, _⟩ := mineOk_t hok
  obtain ⟨jn, rfl⟩ : ∃ jn : Nat, J = jn := ⟨J.toNat, by omega⟩
  rw [Int.toNat_natCast] at *
  have HLm := Lib.hid (recs_rlen Awy.clen (by omega) hm)
  have hm24 : m ≤ 24 := by rw [← HLm.out]; exact hx24
  have HLT : Hid (T.length = n) := show _ = _ by have := ints_len hT; rw [nI_len] at this; exact this
  have HOK := Lib.hid hok
  have HTl := Lib.hid hTl
  have HCO := Lib.hid hcon
  have hpl := block_lt_of_cell hp0
  have hpl1 := block_lt_of_cell hp1
  have HR : Hid (∀ i ∈ T, eA (edgesOf xs) i < jn ∧ eB (edgesOf xs) i < jn) := fun i hi => by have := edge_lt hok (hTl i hi); rwa [Int.toNat_natCast] at this
  clear hok hTl hcon
  go_enter Try.func105, Try.ntmps105
  go_wp2
  go_loopw [10, 11] (fun o i wr => ∃ (k : Nat) (A' : Option Addr) (c' : Nat), k ≤ jn ∧ o = .slice A' k c' ∧ i = .int .i64 k ∧ wr.ownsRow w.heap.size 2 1 (.slice A' k c') k (ints (List.replicate k (-1 : Int))) ∧ Below w.heap.size w wr) (fun _ i _ => jn - (intOf i).toNat)
  case atStart => exact ⟨0, _, 0, by omega, rfl, rfl, own_empty _ _ _, by (repeat (first | exact Below.refl _ _ | assumption | (refine Below.alloc ?_ (by first | exact Nat.le_refl _ | (simp; done) | (simp; omega)) _) | (refine below_drewN ?_ _) | (refine Below.trans ?_ (Below.mono (by assumption) (by first | exact Nat.le_refl _ | (simp; done) | (simp; omega) | omega)))))⟩
  case round =>
    obtain ⟨k, A', c', hk, rfl, rfl, hown, hbr⟩ := hrel
    obtain ⟨wo, rfl⟩ : ∃ wo : World, wo = wr := ⟨_, rfl⟩
    have g0 : wo.cell? p = some (.int .i64 jn) := (hbr.cell hpl).trans hp0
    have hz := hbr.size
    by_cases hlt : k < jn
    · go_wp2_with (at_builtin; (refine wpList_app _ rfl _ _ 25 rfl w.heap.size 2 i0 _ 1 8 Try.underlying25 hi0 hz0 hz1 hz2 rfl (by omega) A' _ c' _ rfl ((hown).alloc _) ⟨_, 0, none⟩ 1 1 [.int .i64 (-1 : Int)] rfl rfl (cell_one_at (by simp) _ _) (by simp [Value.oneCell']) (by unfold maxLen; omega) (by omega) (by have hz := (hbr).size; simp at hz ⊢; omega) ?_); intro A1 c1 w2 ho2 hb2)
      go_roundw
      case rel => exact ⟨k + 1, A1, c1, by omega, by first | rfl | go_num, by go_num, by rw [List.replicate_succ']; simpa [ints] using ho2, (hbr.alloc hbr.size _).trans hb2⟩
      case measure => simp [intOf]; omega
    · have e : k = jn := by omega
      subst e
      have hj0 : 0 < k := by omega
      obtain ⟨g, rfl, _⟩ := own_upd hown hj0 0
      obtain ⟨hg1, hg2, gc, gf, hup⟩ := own_i hown hto
      have HUP : Hid ((wo.setCell ⟨g, to, none⟩ (.int .i64 0)).ownsRow w.heap.size 2 1 (.slice (some ⟨g, 0, none⟩) k c') k (ints (farTo (edgesOf xs) k T to 0))) := hup 0
      have HB := Lib.hid (hbr.setCell (p := ⟨g, to, none⟩) hg1 (.int .i64 0))
      have htoI : (to : Int) < (k : Int) := by omega
      clear hown hup
      go_wp2
      go_loopw [12] (fun i wq => ∃ s : Nat, s ≤ k ∧ i = .int .i64 s ∧ wq.ownsRow w.heap.size 2 1 (.slice (some ⟨g, 0, none⟩) k c') k (ints (farTo (edgesOf xs) k T to s)) ∧ Below w.heap.size w wq) (fun i _ => k - (intOf i).toNat)
      case atStart => exact ⟨0, by omega, rfl, HUP.out, HB.out⟩
      case round =>
        obtain ⟨s, hs, rfl, hown2, hbq⟩ := hrel
        clear HUP HB g0 hbr
        obtain ⟨wl, rfl⟩ : ∃ wl : World, wl = wr := ⟨_, rfl⟩
        have g0 : wl.cell? p = some (.int .i64 k) := (hbq.cell hpl).trans hp0
        by_cases hsk : s < k
        · go_wp2
          go_loopw [13] (fun i wq => ∃ q : Nat, q ≤ n ∧ i = .int .i64 q ∧ wq.ownsRow w.heap.size 2 1 (.slice (some ⟨g, 0, none⟩) k c') k (ints ((T.take q).foldl (relax (edgesOf xs) (s : Int)) (farTo (edgesOf xs) k T to s))) ∧ Below w.heap.size w wq) (fun i _ => n - (intOf i).toNat)
          case atStart => exact ⟨0, by omega, rfl, hown2, hbq⟩
          case round =>
            obtain ⟨q, hq, rfl, hown3, hbj⟩ := hrel
            clear hown2 hbq g0
            obtain ⟨wi, rfl⟩ : ∃ wi : World, wi = wr := ⟨_, rfl⟩
            have g1 : wi.cell? ⟨p.block, p.off + 1, none⟩ = some (.slice M m d) := (hbj.cell (p := ⟨p.block, p.off + 1, none⟩) hpl1).trans hp1
            by_cases hqn : q < n
            · obtain ⟨t, htq⟩ : ∃ t, T[q]? = some t := ⟨_, List.getElem?_eq_getElem (by rw [HLT.out]; exact hqn)⟩
              have htl := HTl.out t (List.mem_of_getElem? htq)
              obtain ⟨td, rfl, htd, _, hct⟩ := (hT.below hbj).int_at (nI_at htq)
              obtain ⟨ad, x, rfl, had, hx, hc⟩ := (hm.below hbj).rec_at Awy.clen (by omega) (k := t) (by rw [← HLm.out]; exact htl)
              obtain ⟨ea, eb, ha, hb⟩ := edge_ok HOK.out hx
              obtain ⟨a0, a1, a2, a3, a4, a5, a6⟩ := Awy.open_ hc
              rw [Int.toNat_natCast] at ha hb
              have HF := Lib.hid (fold_snoc (f := relax (edgesOf xs) (s : Int)) (b := farTo (edgesOf xs) k T to s) htq)
              have HPl : Hid (((T.take q).foldl (relax (edgesOf xs) (s : Int)) (farTo (edgesOf xs) k T to s)).length = k) := (level_len (edgesOf xs) (s : Int) (T.take q) _).trans (farTo_len _ _ _ _ _)
              rw [ea] at a1
              rw [eb] at a2
              have htm : t < m := by rw [← HLm.out]; exact htl
              generalize hP : (T.take q).foldl (relax (edgesOf xs) (s : Int)) (farTo (edgesOf xs) k T to s) = P at *
              have RA := Lib.hid (fun h => relax_A (E := edgesOf xs) (s := (s : Int)) (f := P) (i := t) (by rw [HPl.out]; exact hb) h)
              have RB := Lib.hid (relax_B (E := edgesOf xs) (s := (s : Int)) (f := P) (i := t))
              have RC := Lib.hid (relax_C (E := edgesOf xs) (s := (s : Int)) (f := P) (i := t))
              generalize hEA : eA (edgesOf xs) t = ua at *
              generalize hEB : eB (edgesOf xs) t = ub at *
              obtain ⟨_, _, ca, fa, upa⟩ := own_i hown3 ha
              obtain ⟨_, _, cb, fb, upb⟩ := own_i hown3 hb
              generalize hX : P.getD ua 0 = X at *
              generalize hY : P.getD ub 0 = Y at *
              have hqI : (q : Int) < (n : Int) := by omega
              have htI : (t : Int) < (m : Int) := by omega
              have haI : (ua : Int) < (k : Int) := by omega
              have hbI : (ub : Int) < (k : Int) := by omega
              have hws : IntKind.i64.wrap ((s : Int) + 1) = (s : Int) + 1 := IntWalk.i64_in _ (by omega)
              have HO3 := Lib.hid hown3
              clear hx hc htq htl hP hEA hEB hX hY ea eb hown3 a0 a3 a4 a5 a6
              by_cases hXs : X = (s : Int)
              · have hX1 : (X == (s : Int)) = true := by rw [hXs]; exact beq_self_eq_true _
                by_cases hYn : Y < 0
                · have HN := Lib.hid (RA.out hXs hYn)
                  have HUP : Hid (∀ nq : Nat, ((wi.drewN nq).setCell ⟨g, ub, none⟩ (.int .i64 ((s : Int) + 1))).ownsRow w.heap.size 2 1 (.slice (some ⟨g, 0, none⟩) k c') k (ints (P.set ub ((s : Int) + 1)))) := fun nq => (own_i (own_drew HO3.out nq) hb).2.2.2.2 _
                  have HB : Hid (∀ nq : Nat, Below w.heap.size w ((wi.drewN nq).setCell ⟨g, ub, none⟩ (.int .i64 ((s : Int) + 1)))) := fun nq => (below_drewN hbj nq).setCell (p := ⟨g, ub, none⟩) hg1 _
                  have HC : ∀ nq : Nat, ((wi.drewN nq).setCell ⟨g, ub, none⟩ (.int .i64 ((s : Int) + 1))).cell? ⟨g, ub, none⟩ = some (.int .i64 ((s : Int) + 1)) := fun nq => (own_i (HUP.out nq) hb).2.2.1.trans (by rw [getD_set (by rw [HPl.out]; exact hb), if_pos rfl])
                  have HD1 : ∀ nq : Nat, ((wi.drewN nq).setCell ⟨g, ub, none⟩ (.int .i64 ((s : Int) + 1))).cell? ⟨(ad.add (t * 7)).block, (ad.add (t * 7)).off + 1, none⟩ = some (.int .i64 ua) := fun nq => (((Below.refl w.heap.size (wi.drewN nq)).setCell (p := ⟨g, ub, none⟩) hg1 _).cell (by rw [block_of_add]; exact had)).trans a1
                  have HD2 : ∀ nq : Nat, ((wi.drewN nq).setCell ⟨g, ub, none⟩ (.int .i64 ((s : Int) + 1))).cell? ⟨(ad.add (t * 7)).block, (ad.add (t * 7)).off + 2, none⟩ = some (.int .i64 ub) := fun nq => (((Below.refl w.heap.size (wi.drewN nq)).setCell (p := ⟨g, ub, none⟩) hg1 _).cell (by rw [block_of_add]; exact had)).trans a2
                  have hs1 : ((s : Int) + 1 == (s : Int)) = false := beq_eq_false_iff_ne.2 (by omega)
                  clear RA RB RC upa upb hXs
                  go_wp2
                  go_quiet (fail)
                  go_wp2
                  go_roundw
                  case rel => exact ⟨q + 1, by omega, by go_num, by rw [HF.out, HN.out]; exact HUP.out _, HB.out _⟩
                  case measure => simp [intOf]; omega
                · by_cases hYs : Y = (s : Int)
                  · have hY1 : (Y == (s : Int)) = true := by rw [hYs]; exact beq_self_eq_true _
                    have hXn : ¬ X < 0 := by omega
                    have HN := Lib.hid (RC.out (by rintro ⟨h1, h2⟩; omega) (by rintro ⟨h1, h2⟩; omega))
                    clear RA RB RC upa upb hXs hYs
                    go_wp2
                    go_quiet (fail)
                    go_wp2
                    go_roundw
                    case rel => exact ⟨q + 1, by omega, by go_num, by rw [HF.out, HN.out]; exact own_drew HO3.out _, below_drewN hbj _⟩
                    case measure => simp [intOf]; omega
                  · have hY1 : (Y == (s : Int)) = false := beq_eq_false_iff_ne.2 hYs
                    have HN := Lib.hid (RC.out (by rintro ⟨h1, h2⟩; omega) (by rintro ⟨h1, h2⟩; omega))
                    clear RA RB RC upa upb hXs hYs
                    go_wp2
                    go_quiet (fail)
                    go_wp2
                    go_roundw
                    case rel => exact ⟨q + 1, by omega, by go_num, by rw [HF.out, HN.out]; exact own_drew HO3.out _, below_drewN hbj _⟩
                    case measure => simp [intOf]; omega
              · have hX1 : (X == (s : Int)) = false := beq_eq_false_iff_ne.2 hXs
                by_cases hYs : Y = (s : Int)
                · have hY1 : (Y == (s : Int)) = true := by rw [hYs]; exact beq_self_eq_true _
                  by_cases hXn : X < 0
                  · have HN := Lib.hid (RB.out (fun h => hXs h.1) hYs hXn)
                    have HUP : Hid (∀ nq : Nat, ((wi.drewN nq).setCell ⟨g, ua, none⟩ (.int .i64 ((s : Int) + 1))).ownsRow w.heap.size 2 1 (.slice (some ⟨g, 0, none⟩) k c') k (ints (P.set ua ((s : Int) + 1)))) := fun nq => (own_i (own_drew HO3.out nq) ha).2.2.2.2 _
                    have HB : Hid (∀ nq : Nat, Below w.heap.size w ((wi.drewN nq).setCell ⟨g, ua, none⟩ (.int .i64 ((s : Int) + 1)))) := fun nq => (below_drewN hbj nq).setCell (p := ⟨g, ua, none⟩) hg1 _
                    clear RA RB RC upa upb hXs hYs
                    go_wp2
                    go_quiet (fail)
                    go_wp2
                    go_roundw
                    case rel => exact ⟨q + 1, by omega, by go_num, by rw [HF.out, HN.out]; exact HUP.out _, HB.out _⟩
                    case measure => simp [intOf]; omega
                  · have hxx : 0 ≤ X := by omega
                    have HN := Lib.hid (RC.out (by rintro ⟨h1, h2⟩; omega) (by rintro ⟨h1, h2⟩; omega))
                    clear RA RB RC upa upb hXs hYs
                    go_wp2
                    go_quiet (fail)
                    go_wp2
                    go_roundw
                    case rel => exact ⟨q + 1, by omega, by go_num, by rw [HF.out, HN.out]; exact own_drew HO3.out _, below_drewN hbj _⟩
                    case measure => simp [intOf]; omega
                · have hY1 : (Y == (s : Int)) = false := beq_eq_false_iff_ne.2 hYs
                  have HN := Lib.hid (RC.out (by rintro ⟨h1, h2⟩; omega) (by rintro ⟨h1, h2⟩; omega))
                  clear RA RB RC upa upb hXs hYs
                  go_wp2
                  go_quiet (fail)
                  go_wp2
                  go_roundw
                  case rel => exact ⟨q + 1, by omega, by go_num, by rw [HF.out, HN.out]; exact own_drew HO3.out _, below_drewN hbj _⟩
                  case measure => simp [intOf]; omega
            · have HE3 : Hid ((T.take q).foldl (relax (edgesOf xs) (s : Int)) (farTo (edgesOf xs) k T to s) = farTo (edgesOf xs) k T to (s + 1)) := show _ = _ by
                rw [farTo_succ, List.take_of_length_le (by rw [HLT.out]; omega)]; rfl
              have HO3 := Lib.hid hown3
              clear hown3
              go_wp2
              go_roundw
              case rel => exact ⟨s + 1, by omega, by go_num, by rw [← HE3.out]; exact HO3.out, hbj⟩
              case measure => simp [intOf]; omega
        · have hown4 : wl.ownsRow w.heap.size 2 1 (.slice (some ⟨g, 0, none⟩) k c') k (ints (farL (edgesOf xs) k T to)) := by
            have e : s = k := by omega
            rw [e] at hown2; exact hown2
          have HFC : Hid (∀ u, u < k → -1 ≤ (farL (edgesOf xs) k T to).getD u 0 ∧ (farL (edgesOf xs) k T to).getD u 0 ≤ (k : Int) + 1 ∧ ∀ dd : Nat, (farL (edgesOf xs) k T to).getD u 0 = (dd : Int) ↔ isDist (edgesOf xs) T to dd u) := fun u hu => far_char hto HR.out hu
          have HDX : Hid (∀ u dd, u < k → isDist (edgesOf xs) T to (dd + 1) u → ∃ i, T.find? (downB (edgesOf xs) (farL (edgesOf xs) k T to) u) = some i) := fun u dd hu hd => find_ex (down_ex hto HR.out hu hd)
          have HDT : Hid (∀ u dd i, u < k → isDist (edgesOf xs) T to (dd + 1) u → i ∈ T → downB (edgesOf xs) (farL (edgesOf xs) k T to) u i = true → (eA (edgesOf xs) i = u ∨ eB (edgesOf xs) i = u) ∧ stepTo (edgesOf xs) u i < k ∧ isDist (edgesOf xs) T to dd (stepTo (edgesOf xs) u i)) := fun u dd i hu hd hi hb => down_t hto HR.out hu hd hi hb
          obtain ⟨D, hD⟩ : ∃ D, isDist (edgesOf xs) T to D fr := by
            obtain ⟨nn, h1⟩ := wlk_of_conn HCO.out
            obtain ⟨D, _, h2⟩ := dist_exists nn h1
            exact ⟨D, h2⟩
          have hDk : D < k := dist_lt hto HR.out hD
          have hDf := ((HFC.out fr hfr).2.2 D).2 hD
          have HBK : Hid (walkL (edgesOf xs) T (farL (edgesOf xs) k T to) to D fr = backL (edgesOf xs) k T fr to) := show _ = _ by unfold backL; rw [hDf, Int.toNat_natCast]
          have HIS := Lib.hid hD
          obtain ⟨_, _, cfr, _, _⟩ := own_i hown4 hfr
          rw [hDf] at cfr
          have hfrI : (fr : Int) < (k : Int) := by omega
          have hDp : ¬ (D : Int) < 0 := by omega
          generalize hFF : farL (edgesOf xs) k T to = F at *
          have HOF := Lib.hid hown4
          have hzl := hbq.size
          clear hown2 hown4 hD hDf hFF gf
          go_wp2
          go_loopw [15, 16] (fun o i wq => ∃ (A2 : Option Addr) (c2 at_ rem : Nat) (out : List Int), o = .slice A2 out.length c2 ∧ i = .int .i64 at_ ∧ at_ < k ∧ Hid (isDist (edgesOf xs) T to rem at_) ∧ Hid (out ++ walkL (edgesOf xs) T F to rem at_ = backL (edgesOf xs) k T fr to) ∧ Hid (out.length + rem = D) ∧
            wq.ownsRow wl.heap.size 2 1 (.slice A2 out.length c2) out.length (ints out) ∧ Below wl.heap.size wl wq) (fun o i _ => D - lenV o)
          case atStart => exact ⟨_, 0, fr, D, [], rfl, rfl, hfr, HIS, HBK, (show _ = _ by simp), own_empty _ _ _, by (repeat (first | exact Below.refl _ _ | assumption | (refine Below.alloc ?_ (by first | exact Nat.le_refl _ | (simp; done) | (simp; omega)) _) | (refine below_drewN ?_ _) | (refine Below.trans ?_ (Below.mono (by assumption) (by first | exact Nat.le_refl _ | (simp; done) | (simp; omega) | omega)))))⟩
          case round =>
            obtain ⟨A2, c2, at_, rem, out, rfl, rfl, hat, HID, HWK, HLN, ho, hbo⟩ := hrel
            obtain ⟨wk, rfl⟩ : ∃ wk : World, wk = wr := ⟨_, rfl⟩
            clear cfr
            by_cases hne : at_ = to
            · have hne1 : ((at_ : Int) != (to : Int)) = false := by rw [hne]; simp
              have HOO := Lib.hid ho
              have HAT := Lib.hid hne
              clear ho hne
              go_wp2
              go_ret2
              have h0 : walkL (edgesOf xs) T F to rem at_ = [] := by
                cases rem with
                | zero => rfl
                | succ r => simp only [walkL]; rw [if_pos HAT.out]
              have h1 := HWK.out
              rw [h0, List.append_nil] at h1
              rw [← h1]
              exact ⟨A2, _, c2, rfl, own_base HOO.out (by omega), by have := HLN.out; omega, hbq.trans (hbo.mono hzl)⟩
            · have hne1 : ((at_ : Int) != (to : Int)) = true := by
                rw [bne_iff_ne]; omega
              obtain ⟨r, rfl⟩ : ∃ r, rem = r + 1 := by
                cases rem with
                | zero => exact absurd (dist_zero.1 HID.out) hne
                | succ r => exact ⟨r, rfl⟩
              obtain ⟨i, hfi⟩ := HDX.out at_ r hat HID.out
              have HST := Lib.hid (walk_step (r := r) hne hfi)
              obtain ⟨qi, hqi, hdi, hbef⟩ := find_split hfi
              have HQI := Lib.hid hqi
              have HDI := Lib.hid hdi
              have HBEF := Lib.hid hbef
              have hqn : qi < n := by rw [← HLT.out]; exact (List.getElem?_eq_some_iff.1 hqi).1
              have HLO := Lib.hid ho
              clear hfi hqi hdi hbef hne
              go_wp2
              go_loopw [15, 16, 17] (fun o u i wq => ∃ (q nq : Nat), q ≤ qi ∧ o = .slice A2 out.length c2 ∧ u = .int .i64 at_ ∧ i = .int .i64 q ∧ wq = wk.drewN nq) (fun _ _ i _ => qi - (intOf i).toNat)
              case atStart => exact ⟨0, 0, by omega, rfl, rfl, rfl, rfl⟩
              case round =>
                obtain ⟨q, nq, hq, rfl, rfl, rfl, rfl⟩ := hrel
                have hqn2 : q < n := by omega
                have hqI : (q : Int) < (n : Int) := by omega
                have g1 : wk.cell? ⟨p.block, p.off + 1, none⟩ = some (.slice M m d) := (hbo.cell (p := ⟨p.block, p.off + 1, none⟩) (by show p.block < _; omega)).trans ((hbq.cell (p := ⟨p.block, p.off + 1, none⟩) hpl1).trans hp1)
                obtain ⟨t, htq⟩ : ∃ t, T[q]? = some t := ⟨_, List.getElem?_eq_getElem (by rw [HLT.out]; exact hqn2)⟩
                have htT := List.mem_of_getElem? htq
                have htl := HTl.out t htT
                have hbw : Below w.heap.size w wk := hbq.trans (hbo.mono hzl)
                obtain ⟨td, rfl, htd, _, hct⟩ := (hT.below hbw).int_at (nI_at htq)
                obtain ⟨ad, x, rfl, had, hx, hc⟩ := (hm.below hbw).rec_at Awy.clen (by omega) (k := t) (by rw [← HLm.out]; exact htl)
                obtain ⟨ea, eb, ha, hb⟩ := edge_ok HOK.out hx
                obtain ⟨a0, a1, a2, a3, a4, a5, a6⟩ := Awy.open_ hc
                rw [Int.toNat_natCast] at ha hb
                rw [ea] at a1
                rw [eb] at a2
                have htm : t < m := by rw [← HLm.out]; exact htl
                obtain ⟨_, _, ca, _, _⟩ := own_i (own_below HOF.out hbo) ha
                obtain ⟨_, _, cb, _, _⟩ := own_i (own_below HOF.out hbo) hb
                obtain ⟨_, _, cat, _, _⟩ := own_i (own_below HOF.out hbo) hat
                obtain ⟨rf, hrf⟩ : ∃ rf : Int, rf = ((r + 1 : Nat) : Int) := ⟨_, rfl⟩
                have hr16 : r < 16 := by have := HLN.out; omega
                have hol : out.length ≤ 16 := by have := HLN.out; omega
                have fat := ((HFC.out at_ hat).2.2 (r + 1)).2 HID.out
                rw [← hrf] at fat
                have hrf1 : 1 ≤ rf := by omega
                have hrf2 : rf ≤ 16 := by omega
                clear hrf
                rw [fat] at cat
                have fab := (HFC.out _ ha)
                have fbb := (HFC.out _ hb)
                have hDB : Hid (downB (edgesOf xs) F at_ t = ((eA (edgesOf xs) t == at_ && (F.getD (eB (edgesOf xs) t) 0 == rf - 1)) || (eB (edgesOf xs) t == at_ && (F.getD (eA (edgesOf xs) t) 0 == rf - 1)))) := show _ = _ by unfold downB; rw [fat]
                have HSN : Hid (stepN (edgesOf xs) at_ t = if eA (edgesOf xs) t = at_ then (t : Int) + 1 else -(t : Int) - 1) := rfl
                have HSO : Hid (stepTo (edgesOf xs) at_ t = if eA (edgesOf xs) t = at_ then eB (edgesOf xs) t else eA (edgesOf xs) t) := rfl
                have HFA : Hid (eA (edgesOf xs) t = at_ → F.getD (eA (edgesOf xs) t) 0 = rf) := fun h => by rw [h]; exact fat
                have HTQ := Lib.hid htq
                have HTT := Lib.hid htT
                have hwf : IntKind.i64.wrap (rf - 1) = rf - 1 := IntWalk.i64_in _ (by omega)
                have hwt : IntKind.i64.wrap ((t : Int) + 1) = (t : Int) + 1 := IntWalk.i64_in _ (by omega)
                have hwn : IntKind.i64.wrap (-(t : Int)) = -(t : Int) := IntWalk.i64_in _ (by omega)
                have hwm : IntKind.i64.wrap (-(t : Int) - 1) = -(t : Int) - 1 := IntWalk.i64_in _ (by omega)
                have HT2 : Hid (q = qi → isDist (edgesOf xs) T to r (stepTo (edgesOf xs) at_ t) ∧ stepTo (edgesOf xs) at_ t < k) := fun e => by
                  have h1 : t ∈ T := htT
                  have h2 := HQI.out
                  rw [← e, htq] at h2
                  injection h2 with h2
                  have h3 := HDT.out at_ r t hat HID.out htT (by rw [h2]; exact HDI.out)
                  exact ⟨h3.2.2, h3.2.1⟩
                have HNB : Hid (q < qi → downB (edgesOf xs) F at_ t = false) := fun h => HBEF.out q t h htq
                have HYB : Hid (q = qi → downB (edgesOf xs) F at_ t = true) := fun e => by
                  have h2 := HQI.out
                  rw [← e, htq] at h2
                  injection h2 with h2
                  rw [h2]; exact HDI.out
                have HTI : Hid (q = qi → out ++ [stepN (edgesOf xs) at_ t] ++ walkL (edgesOf xs) T F to r (stepTo (edgesOf xs) at_ t) = backL (edgesOf xs) k T fr to) := fun e => by
                  have h2 := HQI.out
                  rw [← e, htq] at h2
                  injection h2 with h2
                  rw [← HWK.out, HST.out, ← h2, List.append_assoc]; rfl
                generalize hSN : stepN (edgesOf xs) at_ t = sn at *
                generalize hSO : stepTo (edgesOf xs) at_ t = so at *
                generalize hEA : eA (edgesOf xs) t = ua at *
                generalize hEB : eB (edgesOf xs) t = ub at *
                generalize hX : F.getD ua 0 = X at *
                generalize hY : F.getD ub 0 = Y at *
                generalize hDD : downB (edgesOf xs) F at_ t = db at *
                have htI : (t : Int) < (m : Int) := by omega
                have haI : (ua : Int) < (k : Int) := by omega
                have hbI : (ub : Int) < (k : Int) := by omega
                have hatI : (at_ : Int) < (k : Int) := by omega
                have HLO2 := Lib.hid (own_drew HLO.out)
                clear hx hc htq htl ea eb a0 a3 a4 a5 a6 hSN hSO hEA hEB hX hY hDD fat fab fbb htT ho
                by_cases hqq : q = qi
                · have hdt := HYB.out hqq
                  have hD2 := hDB.out
                  rw [hdt] at hD2
                  have hRT := HT2.out hqq
                  have hTI := HTI.out hqq
                  by_cases hua : ua = at_
                  · have hAA := HFA.out hua
                    have he1 : ((ua : Int) == (at_ : Int)) = true := by rw [hua]; exact beq_self_eq_true _
                    have he2 : (Y == rf - 1) = true := by
                      have hx : (X == rf - 1) = false := beq_eq_false_iff_ne.2 (by omega)
                      rw [hx, Bool.and_false, Bool.or_false] at hD2
                      simpa using (Bool.and_eq_true_iff.1 hD2.symm).2
                    have hsn := HSN.out; rw [if_pos hua] at hsn
                    have hso := HSO.out; rw [if_pos hua] at hso
                    rw [hso] at hRT hTI; rw [hsn] at hTI
                    have HRT := Lib.hid hRT; have HTX := Lib.hid hTI
                    clear hDB HSN HSO HFA HT2 HNB HYB HTI hRT hTI hso hsn hdt hD2 hqq hAA hua
                    go_wp2
                    go_quiet (fail)
                    go_wp2
                    go_quiet (fail)
                    go_wp2_with (at_builtin; (refine wpList_app _ rfl _ _ 25 rfl wl.heap.size 2 i0 _ 1 8 Try.underlying25 hi0 hz0 hz1 hz2 rfl (by omega) A2 _ c2 _ rfl (((own_drew HLO.out _)).alloc _) ⟨_, 0, none⟩ 1 1 [.int .i64 ((t : Int) + 1)] rfl rfl (cell_one_at (by simp) _ _) (by simp [Value.oneCell']) (by unfold maxLen; omega) (by omega) (by have hz := (hbo).size; simp at hz ⊢; omega) ?_); intro A3 c3 w2 ho2 hb2; have hb6 : Below wl.heap.size wk w2 := ((below_drewN (Below.refl wl.heap.size wk) _).alloc (by have hz := hbo.size; simp; omega) _).trans hb2; have a2w := (hb6.cell (by rw [block_of_add]; omega)).trans a2; have HO2 := Lib.hid ho2; clear ho2)
                    go_wp2
                    go_roundw
                    case rel => exact ⟨A3, c3, ub, r, out ++ [(t : Int) + 1], by rw [List.length_append]; rfl, by go_num, hb, HRT.out.1, HTX.out, (show _ = _ by have := HLN.out; rw [List.length_append, List.length_singleton]; omega), by rw [List.length_append, List.length_singleton]; simpa [ints] using HO2.out, hbo.trans (hb6.mono (Nat.le_refl _))⟩
                    case measure => have := HLN.out; simp [lenV]; omega
                  · have he1 : ((ua : Int) == (at_ : Int)) = false := beq_eq_false_iff_ne.2 (by omega)
                    have hn1 : (ua == at_) = false := beq_eq_false_iff_ne.2 hua
                    rw [hn1, Bool.false_and, Bool.false_or] at hD2
                    have hD3 := Bool.and_eq_true_iff.1 hD2.symm
                    have he2 : ((ub : Int) == (at_ : Int)) = true := by rw [eq_of_beq hD3.1]; exact beq_self_eq_true _
                    have he3 : (X == rf - 1) = true := hD3.2
                    have hsn := HSN.out; rw [if_neg hua] at hsn
                    have hso := HSO.out; rw [if_neg hua] at hso
                    rw [hso] at hRT hTI; rw [hsn] at hTI
                    have HRT := Lib.hid hRT; have HTX := Lib.hid hTI
                    clear hDB HSN HSO HFA HT2 HNB HYB HTI hRT hTI hso hsn hdt hD2 hqq hua hn1 hD3
                    go_wp2
                    go_quiet (fail)
                    go_wp2
                    go_quiet (fail)
                    go_wp2
                    go_quiet (fail)
                    go_wp2_with (at_builtin; (refine wpList_app _ rfl _ _ 25 rfl wl.heap.size 2 i0 _ 1 8 Try.underlying25 hi0 hz0 hz1 hz2 rfl (by omega) A2 _ c2 _ rfl (((own_drew HLO.out _)).alloc _) ⟨_, 0, none⟩ 1 1 [.int .i64 (-(t : Int) - 1)] rfl rfl (cell_one_at (by simp) _ _) (by simp [Value.oneCell']) (by unfold maxLen; omega) (by omega) (by have hz := (hbo).size; simp at hz ⊢; omega) ?_); intro A3 c3 w2 ho2 hb2; have hb6 : Below wl.heap.size wk w2 := ((below_drewN (Below.refl wl.heap.size wk) _).alloc (by have hz := hbo.size; simp; omega) _).trans hb2; have a1w := (hb6.cell (by rw [block_of_add]; omega)).trans a1; have HO2 := Lib.hid ho2; clear ho2)
                    go_wp2
                    go_roundw
                    case rel => exact ⟨A3, c3, ua, r, out ++ [-(t : Int) - 1], by rw [List.length_append]; rfl, by go_num, ha, HRT.out.1, HTX.out, (show _ = _ by have := HLN.out; rw [List.length_append, List.length_singleton]; omega), by rw [List.length_append, List.length_singleton]; simpa [ints] using HO2.out, hbo.trans (hb6.mono (Nat.le_refl _))⟩
                    case measure => have := HLN.out; simp [lenV]; omega
                · have hqlt : q < qi := by omega
                  have hdt := HNB.out hqlt
                  have hD2 := hDB.out
                  rw [hdt] at hD2
                  have hD3 := Bool.or_eq_false_iff.1 hD2.symm
                  have hAA := HFA.out
                  clear hDB HSN HSO HFA HT2 HNB HYB HTI hdt hD2 hqq
                  by_cases hua : ua = at_
                  · have hX := hAA hua
                    have he1 : ((ua : Int) == (at_ : Int)) = true := by rw [hua]; exact beq_self_eq_true _
                    have he2 : (Y == rf - 1) = false := by have h1 := hD3.1; rw [hua, beq_self_eq_true, Bool.true_and] at h1; exact h1
                    have he3 : (X == rf - 1) = false := beq_eq_false_iff_ne.2 (by omega)
                    by_cases hub : ub = at_
                    · have he4 : ((ub : Int) == (at_ : Int)) = true := by rw [hub]; exact beq_self_eq_true _
                      clear hua hub hX
                      clear hAA hD3
                      go_wp2
                      go_quiet (fail)
                      go_wp2
                      go_quiet (fail)
                      go_wp2
                      go_quiet (fail)
                      go_wp2
                      go_roundw
                      case rel => exact ⟨q + 1, _, by omega, rfl, rfl, by go_num, rfl⟩
                      case measure => simp [intOf]; omega
                    · have he4 : ((ub : Int) == (at_ : Int)) = false := beq_eq_false_iff_ne.2 (by omega)
                      clear hua hub hX
                      clear hAA hD3
                      go_wp2
                      go_quiet (fail)
                      go_wp2
                      go_quiet (fail)
                      go_wp2
                      go_quiet (fail)
                      go_wp2
                      go_roundw
                      case rel => exact ⟨q + 1, _, by omega, rfl, rfl, by go_num, rfl⟩
                      case measure => simp [intOf]; omega
                  · have he1 : ((ua : Int) == (at_ : Int)) = false := beq_eq_false_iff_ne.2 (by omega)
                    by_cases hub : ub = at_
                    · have he4 : ((ub : Int) == (at_ : Int)) = true := by rw [hub]; exact beq_self_eq_true _
                      have he3 : (X == rf - 1) = false := by have h1 := hD3.2; rw [hub, beq_self_eq_true, Bool.true_and] at h1; exact h1
                      clear hua hub
                      clear hAA hD3
                      go_wp2
                      go_quiet (fail)
                      go_wp2
                      go_quiet (fail)
                      go_wp2
                      go_quiet (fail)
                      go_wp2
                      go_roundw
                      case rel => exact ⟨q + 1, _, by omega, rfl, rfl, by go_num, rfl⟩
                      case measure => simp [intOf]; omega
                    · have he4 : ((ub : Int) == (at_ : Int)) = false := beq_eq_false_iff_ne.2 (by omega)
                      clear hua hub
                      clear hAA hD3
                      go_wp2
                      go_quiet (fail)
                      go_wp2
                      go_quiet (fail)
                      go_wp2
                      go_quiet (fail)
                      go_wp2
                      go_roundw
                      case rel => exact ⟨q + 1, _, by omega, rfl, rfl, by go_num, rfl⟩
                      case measure => simp [intOf]; omega
end Go.Proofs.Ytjmhhbjbmgpagaa

/- Junctions that are reached, one behind the other; the distances found on the way. Plain laws. -/
namespace Go.Proofs.Ytjmhhbjbmgpagaa
set_option linter.unusedVariables false
set_option linter.unusedSimpArgs false
/-- An airway leads from u to v. -/
def Lead (E : Edges) (i u v : Nat) : Prop := (eA E i = u ∧ eB E i = v) ∨ (eB E i = u ∧ eA E i = v)
/-- Does an airway end at u? -/
def endB (E : Edges) (i u : Nat) : Bool := eA E i == u || eB E i == u
theorem lead_to {E : Edges} {i u : Nat} (h : endB E i u = true) : Lead E i u (stepTo E u i) := by
  unfold endB at h
  simp only [Bool.or_eq_true, beq_iff_eq] at h
  unfold stepTo
  by_cases h1 : eA E i = u
  · rw [if_pos h1]; exact .inl ⟨h1, rfl⟩
  · rw [if_neg h1]
    rcases h with h | h
    · exact absurd h h1
    · exact .inr ⟨h, rfl⟩
theorem lead_end {E : Edges} {i u v : Nat} (h : Lead E i u v) : endB E i u = true := by
  unfold endB
  rcases h with ⟨h, _⟩ | ⟨h, _⟩
  · rw [h]; simp
  · rw [h]; simp
theorem lead_one {E : Edges} {i u v : Nat} (hne : eA E i ≠ eB E i) (h : Lead E i u v) : v = stepTo E u i := by
  unfold stepTo
  rcases h with ⟨h1, h2⟩ | ⟨h1, h2⟩
  · rw [if_pos h1]; exact h2.symm
  · rw [if_neg (by omega)]; exact h2.symm
theorem Lead.conn {E : Edges} {T : List Nat} {i u v x : Nat} (h : Lead E i u v) (hi : i ∈ T) (hc : Conn E T x u) : Conn E T x v := by
  rcases h with ⟨rfl, rfl⟩ | ⟨rfl, rfl⟩
  · exact hc.fwd hi
  · exact hc.bwd hi
theorem Lead.wlk {E : Edges} {T : List Nat} {i u v to n : Nat} (h : Lead E i u v) (hi : i ∈ T) (hc : Wlk E T to n u) : Wlk E T to (n + 1) v := by
  rcases h with ⟨rfl, rfl⟩ | ⟨rfl, rfl⟩
  · exact hc.fwd hi
  · exact hc.bwd hi
theorem Lead.lt {E : Edges} {T : List Nat} {J i u v : Nat} (h : Lead E i u v) (hr : ∀ i ∈ T, eA E i < J ∧ eB E i < J) (hi : i ∈ T) : v < J := by
  rcases h with ⟨rfl, rfl⟩ | ⟨rfl, rfl⟩
  · exact (hr i hi).2
  · exact (hr i hi).1
/-- The airways among R lead from u to junctions of V alone. -/
def Shut (E : Edges) (R : List Nat) (V : List Nat) (u : Nat) : Prop := ∀ i ∈ R, ∀ v, Lead E i u v → v ∈ V
/-- Junctions reached from fr, in order; those before place k are done with, and at place k the first q airways. -/
structure Rch (E : Edges) (J : Nat) (T : List Nat) (fr k q : Nat) (V : List Nat) : Prop where
  nodup : V.Nodup
  first : fr ∈ V
  lt : ∀ v ∈ V, v < J
  conn : ∀ v ∈ V, Conn E T fr v
  shut : ∀ j u, j < k → V[j]? = some u → Shut E T V u
  part : ∀ u, V[k]? = some u → Shut E (T.take q) V u
section
variable {E : Edges} {J : Nat} {T V : List Nat} {fr k q i u v : Nat}
theorem rch_start (h : fr < J) : Rch E J T fr 0 0 [fr] :=
  ⟨by simp, by simp, fun v hv => by rw [List.mem_singleton] at hv; omega, fun v hv => by rw [List.mem_singleton] at hv; subst hv; exact .refl, fun j u hj => absurd hj (Nat.not_lt_zero _), fun u hu i hi => by simp at hi⟩
theorem shut_snoc (h : Shut E T V u) (x : Nat) : Shut E T (V ++ [x]) u := fun i hi v hv => List.mem_append_left _ (h i hi v hv)
theorem take_mem (hi : T[q]? = some i) {j : Nat} (hj : j ∈ T.take (q + 1)) : j ∈ T.take q ∨ j = i := by
  rw [List.take_add_one, hi] at hj
  rcases List.mem_append.1 hj with h | h
  · exact .inl h
  · exact .inr (by simpa using h)
theorem rch_skip (h : Rch E J T fr k q V) (hu : V[k]? = some u) (hi : T[q]? = some i) (hs : ∀ v, Lead E i u v → v ∈ V) : Rch E J T fr k (q + 1) V := by
  refine ⟨h.nodup, h.first, h.lt, h.conn, h.shut, fun u' hu' j hj v hv => ?_⟩
  rw [hu] at hu'
  injection hu' with hu'
  subst hu'
  rcases take_mem hi hj with h1 | rfl
  · exact h.part _ hu j h1 v hv
  · exact hs v hv
theorem rch_add (h : Rch E J T fr k q V) (hu : V[k]? = some u) (hi : T[q]? = some i) (hne : eA E i ≠ eB E i) (hr : ∀ i ∈ T, eA E i < J ∧ eB E i < J) (hl : Lead E i u v) (hv : v ∉ V) : Rch E J T fr k (q + 1) (V ++ [v]) := by
  have hk : k < V.length := (List.getElem?_eq_some_iff.1 hu).1
  have hiT := List.mem_of_getElem? hi
  have hold : ∀ j x, j ≤ k → (V ++ [v])[j]? = some x → V[j]? = some x := fun j x hj hx => by rwa [List.getElem?_append_left (by omega)] at hx
  refine ⟨List.nodup_append.2 ⟨h.nodup, by simp, fun a ha b hb => ?_⟩, List.mem_append_left _ h.first, fun x hx => ?_, fun x hx => ?_, fun j x hj hx => shut_snoc (h.shut j x hj (hold j x (Nat.le_of_lt hj) hx)) v, fun x hx j hj y hy => ?_⟩
  · rw [List.mem_singleton] at hb; subst hb; rintro rfl; exact hv ha
  · rcases List.mem_append.1 hx with h1 | h1
    · exact h.lt x h1
    · rw [List.mem_singleton] at h1; subst h1; exact hl.lt hr hiT
  · rcases List.mem_append.1 hx with h1 | h1
    · exact h.conn x h1
    · rw [List.mem_singleton] at h1; subst h1; exact hl.conn hiT (h.conn u (List.mem_of_getElem? hu))
  · have hx' := hold k x (Nat.le_refl _) hx
    rw [hu] at hx'
    injection hx' with hx'
    subst hx'
    rcases take_mem hi hj with h1 | rfl
    · exact List.mem_append_left _ (h.part _ hu j h1 y hy)
    · rw [lead_one hne hy, ← lead_one hne hl]; exact List.mem_append_right _ (List.mem_singleton.2 rfl)
theorem rch_next (h : Rch E J T fr k q V) (hq : T.length ≤ q) : Rch E J T fr (k + 1) 0 V := by
  refine ⟨h.nodup, h.first, h.lt, h.conn, fun j u hj hu => ?_, fun u hu i hi => by simp at hi⟩
  rcases Nat.lt_or_ge j k with h1 | h1
  · exact h.shut j u h1 hu
  · obtain rfl : j = k := by omega
    have := h.part u hu
    rwa [List.take_of_length_le hq] at this
theorem rch_len (h : Rch E J T fr k q V) : V.length ≤ J := nodup_le J V h.nodup h.lt
theorem rch_end (h : Rch E J T fr k q V) (hk : V.length ≤ k) (v : Nat) : v ∈ V ↔ Conn E T fr v := by
  have step : ∀ u i v, u ∈ V → i ∈ T → Lead E i u v → v ∈ V := fun u i v hu hi hl => by
    obtain ⟨j, hj⟩ := List.getElem?_of_mem hu
    have := (List.getElem?_eq_some_iff.1 hj).1
    exact h.shut j u (by omega) hj i hi v hl
  refine ⟨h.conn v, fun hc => ?_⟩
  induction hc with
  | refl => exact h.first
  | fwd _ hi ih => exact step _ _ _ ih hi (.inl ⟨rfl, rfl⟩)
  | bwd _ hi ih => exact step _ _ _ ih hi (.inr ⟨rfl, rfl⟩)
end
/-- Junctions with their distances, as they were found. -/
structure Bfs (E : Edges) (J : Nat) (T : List Nat) (to k q : Nat) (V : List (Nat × Nat)) : Prop where
  rch : Rch E J T to k q (V.map (·.1))
  dist : ∀ p ∈ V, isDist E T to p.2 p.1
  mono : ∀ (i j : Nat) (p r : Nat × Nat), i ≤ j → V[i]? = some p → V[j]? = some r → p.2 ≤ r.2
  near : ∀ p : Nat × Nat, V[k]? = some p → ∀ r ∈ V, r.2 ≤ p.2 + 1
section
variable {E : Edges} {J : Nat} {T : List Nat} {V : List (Nat × Nat)} {to k q i v d : Nat} {p : Nat × Nat}
theorem map_at (h : V[k]? = some p) : (V.map (·.1))[k]? = some p.1 := by rw [List.getElem?_map, h]; rfl
theorem bfs_start (h : to < J) : Bfs E J T to 0 0 [(to, 0)] := by
  refine ⟨rch_start h, fun p hp => ?_, fun i j p r hij hi hj => ?_, fun p hp r hr => ?_⟩
  · rw [List.mem_singleton] at hp; subst hp; exact dist_zero.2 rfl
  · have h1 := List.mem_of_getElem? hi
    rw [List.mem_singleton] at h1; subst h1; exact Nat.zero_le _
  · rw [List.mem_singleton] at hr; subst hr; exact Nat.zero_le _
theorem bfs_skip (h : Bfs E J T to k q V) (hp : V[k]? = some p) (hi : T[q]? = some i) (hs : ∀ v, Lead E i p.1 v → v ∈ V.map (·.1)) : Bfs E J T to k (q + 1) V :=
  ⟨rch_skip h.rch (map_at hp) hi hs, h.dist, h.mono, h.near⟩
/-- Every junction that is no farther than the one at hand has been found. -/
theorem bfs_known (h : Bfs E J T to k q V) (hp : V[k]? = some p) : ∀ m x, m ≤ p.2 → isDist E T to m x → x ∈ V.map (·.1)
  | 0, x, _, hd => by rw [dist_zero.1 hd]; exact h.rch.first
  | m + 1, x, hm, hd => by
    obtain ⟨i, hi, y, hy, he⟩ := dist_pred hd
    have hyV := bfs_known h hp m y (by omega) hy
    obtain ⟨r, hr, hry⟩ := List.mem_map.1 hyV
    obtain ⟨j, hj⟩ := List.getElem?_of_mem hr
    have hrd := h.dist r hr
    rw [hry] at hrd
    have e := dist_unique hrd hy
    have hjk : j < k := by
      rcases Nat.lt_or_ge j k with h1 | h1
      · exact h1
      · have := h.mono k j p r h1 hp hj; omega
    have := h.rch.shut j r.1 hjk (map_at hj) i hi x
    rw [hry] at this
    refine this ?_
    rcases he with ⟨rfl, rfl⟩ | ⟨rfl, rfl⟩
    · exact .inl ⟨rfl, rfl⟩
    · exact .inr ⟨rfl, rfl⟩
theorem bfs_add (h : Bfs E J T to k q V) (hp : V[k]? = some p) (hi : T[q]? = some i) (hne : eA E i ≠ eB E i) (hr : ∀ i ∈ T, eA E i < J ∧ eB E i < J) (hl : Lead E i p.1 v) (hv : v ∉ V.map (·.1)) : Bfs E J T to k (q + 1) (V ++ [(v, p.2 + 1)]) := by
  have hk : k < V.length := (List.getElem?_eq_some_iff.1 hp).1
  have hiT := List.mem_of_getElem? hi
  have hnear := h.near p hp
  refine ⟨by rw [List.map_append]; exact rch_add h.rch (map_at hp) hi hne hr hl hv, fun r hr => ?_, fun a b r s hab ha hb => ?_, fun r hr s hs => ?_⟩
  · rcases List.mem_append.1 hr with h1 | h1
    · exact h.dist r h1
    · rw [List.mem_singleton] at h1; subst h1
      refine ⟨hl.wlk hiT (h.dist p (List.mem_of_getElem? hp)).1, fun m hm hw => ?_⟩
      obtain ⟨m', hm', hd⟩ := dist_exists _ hw
      exact hv (bfs_known h hp m' v (by simp only at hm; omega) hd)
  · rw [List.getElem?_append] at ha hb
    split at ha
    · split at hb
      · exact h.mono a b r s hab ha hb
      · have h1 := List.mem_of_getElem? hb
        rw [List.mem_singleton] at h1; subst h1
        exact hnear r (List.mem_of_getElem? ha)
    · have h1 := List.mem_of_getElem? ha
      rw [List.mem_singleton] at h1
      rw [if_neg (by omega)] at hb
      have h2 := List.mem_of_getElem? hb
      rw [List.mem_singleton] at h2
      rw [h1, h2]; exact Nat.le_refl _
  · rw [List.getElem?_append_left hk, hp] at hr
    injection hr with hr
    subst hr
    rcases List.mem_append.1 hs with h1 | h1
    · exact hnear s h1
    · rw [List.mem_singleton] at h1; subst h1; exact Nat.le_refl _
theorem bfs_next (h : Bfs E J T to k q V) (hk : k < V.length) (hq : T.length ≤ q) : Bfs E J T to (k + 1) 0 V := by
  refine ⟨rch_next h.rch hq, h.dist, h.mono, fun p hp r hr => ?_⟩
  have h0 := List.getElem?_eq_getElem hk
  have h1 := h.near _ h0 r hr
  have h2 := h.mono k (k + 1) _ p (by omega) h0 hp
  omega
theorem bfs_len (h : Bfs E J T to k q V) : V.length ≤ J := by have := rch_len h.rch; rwa [List.length_map] at this
theorem bfs_end (h : Bfs E J T to k q V) (hk : V.length ≤ k) {v : Nat} (hc : Conn E T to v) : ∃ d, (v, d) ∈ V ∧ isDist E T to d v := by
  have := (rch_end h.rch (by rw [List.length_map]; exact hk) v).2 hc
  obtain ⟨p, hp, rfl⟩ := List.mem_map.1 this
  exact ⟨p.2, hp, h.dist p hp⟩
end
end Go.Proofs.Ytjmhhbjbmgpagaa
