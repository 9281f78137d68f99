/- Slices of records: words and plain lemmas. -/
import Derived.Test.YtnfallanjndbcaaSlc
import Derived.StillTailTactics
import Derived.Deep.RegionHeld3
import Derived.Deep.RegionWith
import Derived.Laws.BytesArg
namespace Go.Proofs.Ytnfallanjndbcaa
set_option linter.unusedVariables false
set_option linter.unusedSimpArgs false
open Go.RowKit
/-- The cells cs lie from p on. -/
def Cells (w : World) (p : Addr) (cs : List Value) : Prop := ∀ j u, cs[j]? = some u → w.cell? (p.add j) = some u
section
variable {w w' : World} {p : Addr} {cs : List Value} {u : Value}
theorem Cells.z (h : Cells w p cs) (e : cs[0]? = some u) : w.cell? p = some u := h 0 u e
theorem Cells.at_ (h : Cells w p cs) (j : Nat) (e : cs[j + 1]? = some u) : w.cell? ⟨p.block, p.off + (j + 1), none⟩ = some u := h (j + 1) u e
theorem Cells.keep (h : Cells w p cs) (hk : ∀ q : Addr, q.block = p.block → w'.cell? q = w.cell? q) : Cells w' p cs := fun j u e => by
  rw [hk _ (block_of_add p j)]; exact h j u e
theorem Cells.below {B : Nat} (h : Cells w p cs) (hb : Below B w w') (hp : p.block < B) : Cells w' p cs := h.keep fun q hq => hb.cell (by omega)
theorem Cells.drewN (h : Cells w p cs) (n : Nat) : Cells (w.drewN n) p cs := h
theorem Cells.new (w : World) (a : Array Value) (t : TypeId) : Cells (w.alloc (.cells a t)) ⟨w.heap.size, 0, none⟩ a.toList := fun j u e => by
  rw [Addr.add]
  split
  · rename_i h
    subst h
    rw [(Blk.new w t a).cell 0]
    rwa [Array.getElem?_toList] at e
  · rw [show ({ (⟨w.heap.size, 0, none⟩ : Addr) with off := 0 + j, spot := none } : Addr) = ⟨w.heap.size, j, none⟩ by simp, (Blk.new w t a).cell j]
    rwa [Array.getElem?_toList] at e
end
section
variable {α : Type}
def recs (f : α → List Value) (xs : List α) : List Value := xs.flatMap f
theorem recs_append (f : α → List Value) (xs ys : List α) : recs f (xs ++ ys) = recs f xs ++ recs f ys := by unfold recs; simp
theorem recs_len {f : α → List Value} {z : Nat} (hz : ∀ x, (f x).length = z) (xs : List α) : (recs f xs).length = xs.length * z := by
  induction xs with
  | nil => simp [recs]
  | cons x t ih =>
    have : recs f (x :: t) = f x ++ recs f t := by simp [recs]
    rw [this, List.length_append, ih, hz, List.length_cons, Nat.add_mul]; omega
theorem recs_at {f : α → List Value} {z : Nat} (hz : ∀ x, (f x).length = z) {xs : List α} {k : Nat} {x : α} (h : xs[k]? = some x) {j : Nat} (hj : j < z) : (recs f xs)[k * z + j]? = (f x)[j]? := by
  have hk : k < xs.length := by
    rcases Nat.lt_or_ge k xs.length with h1 | h1
    · exact h1
    · rw [List.getElem?_eq_none h1] at h; cases h
  have e : xs = xs.take k ++ (x :: xs.drop (k + 1)) := by
    have h1 : xs[k] = x := by rw [List.getElem?_eq_getElem hk] at h; exact Option.some.inj h
    rw [← h1, List.getElem_cons_drop, List.take_append_drop]
  have hl : (recs f (xs.take k)).length = k * z := by rw [recs_len hz, List.length_take, Nat.min_eq_left (by omega)]
  rw [e, recs_append, List.getElem?_append_right (by omega), hl, Nat.add_sub_cancel_left]
  have : recs f (x :: xs.drop (k + 1)) = f x ++ recs f (xs.drop (k + 1)) := by simp [recs]
  rw [this, List.getElem?_append_left (by rw [hz]; exact hj)]
theorem Reads.rec_at {f : α → List Value} {z : Nat} (hz : ∀ x, (f x).length = z) {w : World} {B n : Nat} {A : Option Addr} {xs : List α} (h : Reads w B z A n (recs f xs)) (hzp : 0 < z) {k : Nat} (hk : k < n) :
    ∃ ad x, A = some ad ∧ ad.block < B ∧ xs[k]? = some x ∧ Cells w (ad.add (k * z)) (f x) := by
  obtain ⟨ad, e, hb, hc⟩ := h.2 (by omega)
  have hl : xs.length = n := by
    have h1 := h.1
    rw [recs_len hz] at h1
    exact Nat.eq_of_mul_eq_mul_right hzp h1
  refine ⟨ad, xs[k], e, hb, List.getElem?_eq_getElem (by omega), fun j u hu => ?_⟩
  rw [add_of_add]
  have hj : j < z := by
    rcases Nat.lt_or_ge j z with h1 | h1
    · exact h1
    · rw [List.getElem?_eq_none (by rw [hz]; exact h1)] at hu; cases hu
  exact hc _ u (by rw [recs_at hz (List.getElem?_eq_getElem (by omega)) hj]; exact hu)
theorem recs_rlen {f : α → List Value} {z : Nat} (hz : ∀ x, (f x).length = z) (hzp : 0 < z) {w : World} {B n : Nat} {A : Option Addr} {xs : List α} (h : Reads w B z A n (recs f xs)) : xs.length = n := by
  have h1 := h.1
  rw [recs_len hz] at h1
  exact Nat.eq_of_mul_eq_mul_right hzp h1
theorem recs_one {f : α → List Value} (hf : ∀ x, ∀ u ∈ f x, u.oneCell' = true) (xs : List α) : ∀ u ∈ recs f xs, u.oneCell' = true := by
  intro u hu
  unfold recs at hu
  obtain ⟨x, _, hx⟩ := List.mem_flatMap.1 hu
  exact hf x u hx
/-- Some cells are written from a place on. -/
def setL (cur : Array Value) (o : Nat) : List Value → Array Value
  | [] => cur
  | v :: t => setL (cur.setIfInBounds o v) (o + 1) t
theorem setL_size (vs : List Value) : ∀ (cur : Array Value) (o : Nat), (setL cur o vs).size = cur.size := by
  induction vs with
  | nil => intro cur o; rfl
  | cons v t ih => intro cur o; simp only [setL]; rw [ih]; simp
theorem setL_lo (vs : List Value) : ∀ (cur : Array Value) (o j : Nat), j < o → (setL cur o vs)[j]? = cur[j]? := by
  induction vs with
  | nil => intro cur o j h; rfl
  | cons v t ih =>
    intro cur o j h
    simp only [setL]
    rw [ih _ _ _ (by omega), Array.getElem?_setIfInBounds, if_neg (by omega)]
theorem setL_at (vs : List Value) : ∀ (cur : Array Value) (o j : Nat), j < vs.length → o + j < cur.size → (setL cur o vs)[o + j]? = vs[j]? := by
  induction vs with
  | nil => intro cur o j h; simp at h
  | cons v t ih =>
    intro cur o j h hs
    simp only [setL]
    rcases Nat.eq_zero_or_pos j with h0 | h0
    · subst h0
      rw [setL_lo _ _ _ _ (by omega), Array.getElem?_setIfInBounds, if_pos (by omega), if_pos (by omega)]; rfl
    · obtain ⟨i, rfl⟩ : ∃ i, j = i + 1 := ⟨j - 1, by omega⟩
      have h1 := ih (cur.setIfInBounds o v) (o + 1) i (by simp at h; omega) (by simp; omega)
      rw [show o + (i + 1) = o + 1 + i by omega, h1]; simp
theorem rel_set {f : α → List Value} {z : Nat} (hz : ∀ x, (f x).length = z) {xs : List α} {n k : Nat} {x : α} {cur : Array Value} (hx : xs[k]? = some x) (hk : k < n) (hs : cur.size = n * z) (ho : ∀ j, j < k * z → cur[j]? = (recs f xs)[j]?) :
    (setL cur (k * z) (f x)).size = n * z ∧ ∀ j, j < (k + 1) * z → (setL cur (k * z) (f x))[j]? = (recs f xs)[j]? := by
  refine ⟨by rw [setL_size]; exact hs, fun j hj => ?_⟩
  rw [Nat.add_mul, Nat.one_mul] at hj
  rcases Nat.lt_or_ge j (k * z) with h1 | h1
  · rw [setL_lo _ _ _ _ h1]; exact ho j h1
  · obtain ⟨i, rfl⟩ : ∃ i, j = k * z + i := ⟨j - k * z, by omega⟩
    have hkn : (k + 1) * z ≤ n * z := Nat.mul_le_mul_right z hk
    rw [Nat.add_mul, Nat.one_mul] at hkn
    rw [setL_at _ _ _ _ (by rw [hz]; omega) (by omega), recs_at hz hx (by omega)]
theorem own_of_blkZ {w : World} {g e n z : Nat} {cur : Array Value} {xs : List Value} (h : Blk w g e cur) (hl : xs.length = n * z) (hs : cur.size = n * z) (hm : n ≤ maxLen) (hx : ∀ j, j < n * z → cur[j]? = xs[j]?) :
    w.ownsRow g e z (.slice (some ⟨g, 0, none⟩) n n) n xs := by
  refine ⟨hl, .inr ⟨g, n, cur, rfl, Nat.le_refl _, h, Nat.le_refl _, hm, hs, ?_⟩⟩
  apply List.ext_getElem?
  intro j
  rw [List.getElem?_take]
  by_cases hj : j < n * z
  · rw [if_pos hj, Array.getElem?_toList, hx j hj]
  · rw [if_neg hj, List.getElem?_eq_none (by omega)]
theorem run_make_rowN {P : Program} (t e : TypeId) (i : TypeInfo) (z : Value) (ht : P.underlying t = some (.slice e)) (hi : P.info? e = some i) (hz : i.zero = some z)
    (kl kc : IntKind) (n c : Nat) (hnc : n ≤ c) (hbytes : i.bytes * c ≤ 281474976710656) (h63 : c ≤ 9223372036854775807) (w : World) :
    (Instr.makeSlice t (.int kl (n : Int)) (.int kc (c : Int))).run P w = .ok (.slice (some ⟨w.heap.size, 0, none⟩) n c) (w.alloc (.cells (madeCells z.cells (c * i.size)) e)) := by
  have hb : (i.bytes : Int) * (c : Int) ≤ 281474976710656 := by
    have h : ((i.bytes * c : Nat) : Int) ≤ 281474976710656 := by omega
    rwa [Int.natCast_mul] at h
  have hr := run_make (P := P) w t e i z ht hi hz kl kc n c (by omega) (by omega) hb (by omega)
  simp only [Int.toNat_natCast] at hr
  exact hr
/-- What is left of l behind s, or -1. -/
def szI (l s : Int) : Int := if l < s then -1 else l - s
theorem szI_n {l s : Int} (h : l < s) : szI l s = -1 := by unfold szI; rw [if_pos h]
theorem szI_y {l s : Int} (h : ¬ l < s) : szI l s = l - s := by unfold szI; rw [if_neg h]
def sumN (f : α → Nat) : List α → Int
  | [] => 0
  | x :: t => f x + sumN f t
theorem sumN_nonneg (f : α → Nat) : ∀ xs : List α, 0 ≤ sumN f xs
  | [] => by simp [sumN]
  | x :: t => by
    have := sumN_nonneg f t
    simp only [sumN]; omega
theorem sumN_append (f : α → Nat) (xs ys : List α) : sumN f (xs ++ ys) = sumN f xs + sumN f ys := by
  induction xs with
  | nil => simp [sumN]
  | cons x t ih => simp [sumN, ih]; omega
theorem sumN_snoc {f : α → Nat} {xs : List α} {k : Nat} {x : α} (h : xs[k]? = some x) : sumN f (xs.take (k + 1)) = sumN f (xs.take k) + f x := by
  rw [take_snoc h, sumN_append]; simp [sumN]
theorem sumN_take (f : α → Nat) (xs : List α) (k : Nat) : sumN f (xs.take k) ≤ sumN f xs := by
  have h : sumN f xs = sumN f (xs.take k) + sumN f (xs.drop k) := by rw [← sumN_append, List.take_append_drop]
  have := sumN_nonneg f (xs.drop k)
  omega
theorem sumN_mem {f : α → Nat} {xs : List α} {x : α} (h : x ∈ xs) : (f x : Int) ≤ sumN f xs := by
  induction xs with
  | nil => simp at h
  | cons y t ih =>
    have h0 := sumN_nonneg f t
    rcases List.mem_cons.1 h with rfl | h
    · simp only [sumN]; omega
    · have := ih h; simp only [sumN]; omega
end
theorem grown_below {a w w' : World} {row : Option Nat} (h : a.grownBy w row) (hb : Below w.heap.size w w') : a.grownBy w' row :=
  ⟨hb.os.trans h.os, hb.tape.trans h.tape, hb.output.trans h.output, Nat.le_trans h.size hb.size, fun i hi hn => (hb.block i (Nat.lt_of_lt_of_le hi h.size)).trans (h.block i hi hn)⟩
end Go.Proofs.Ytnfallanjndbcaa
