/- Numbers in order, each once: plain laws. -/
import Derived.Lib.SlicesCompact
namespace Go.Proofs.Ytapophggndlhaaa
set_option linter.unusedVariables false
set_option linter.unusedSimpArgs false
/-- A number put into a list in order, where it is not there yet. -/
def putL : List Int → Int → List Int
  | [], x => [x]
  | y :: r, x => if x ≤ y then (if x < y then x :: y :: r else y :: r) else y :: putL r x
def putAll (ys : List Int) : List Int := ys.foldl putL []
theorem putL_mem : ∀ (xs : List Int) (x z : Int), z ∈ putL xs x ↔ z = x ∨ z ∈ xs
  | [], x, z => by simp [putL]
  | y :: r, x, z => by
    unfold putL
    split
    · split
      · simp
      · have : x = y := by omega
        subst this; simp
    · rw [List.mem_cons, putL_mem r x z, List.mem_cons]
      constructor
      · rintro (h | h | h)
        · exact .inr (.inl h)
        · exact .inl h
        · exact .inr (.inr h)
      · rintro (h | h | h)
        · exact .inr (.inl h)
        · exact .inl h
        · exact .inr (.inr h)
theorem putL_srt : ∀ {xs : List Int} (x : Int), xs.Pairwise (· < ·) → (putL xs x).Pairwise (· < ·)
  | [], x, _ => by simp [putL]
  | y :: r, x, h => by
    have hy := List.pairwise_cons.1 h
    unfold putL
    split
    · split
      · rename_i h1 h2
        exact List.pairwise_cons.2 ⟨fun z hz => by
          rcases List.mem_cons.1 hz with rfl | hz
          · exact h2
          · exact Int.lt_trans h2 (hy.1 z hz), h⟩
      · exact h
    · rename_i h1
      refine List.pairwise_cons.2 ⟨fun z hz => ?_, putL_srt x hy.2⟩
      rcases (putL_mem r x z).1 hz with rfl | hz
      · omega
      · exact hy.1 z hz
theorem putL_len : ∀ (xs : List Int) (x : Int), (putL xs x).length ≤ xs.length + 1
  | [], x => by simp [putL]
  | y :: r, x => by
    unfold putL
    split
    · split
      · simp
      · simp
    · have := putL_len r x
      simp; omega
theorem foldP_srt : ∀ (ys acc : List Int), acc.Pairwise (· < ·) → (ys.foldl putL acc).Pairwise (· < ·) ∧ ∀ z, z ∈ ys.foldl putL acc ↔ z ∈ acc ∨ z ∈ ys
  | [], acc, h => ⟨h, fun z => by simp⟩
  | y :: ys, acc, h => by
    obtain ⟨h1, h2⟩ := foldP_srt ys (putL acc y) (putL_srt y h)
    refine ⟨h1, fun z => ?_⟩
    show z ∈ ys.foldl putL (putL acc y) ↔ _
    rw [h2 z, putL_mem, List.mem_cons]
    constructor
    · rintro ((h | h) | h)
      · exact .inr (.inl h)
      · exact .inl h
      · exact .inr (.inr h)
    · rintro (h | h | h)
      · exact .inl (.inr h)
      · exact .inl (.inl h)
      · exact .inr h
theorem putAll_srt (ys : List Int) : (putAll ys).Pairwise (· < ·) ∧ ∀ z, z ∈ putAll ys ↔ z ∈ ys := by
  obtain ⟨h1, h2⟩ := foldP_srt ys [] List.Pairwise.nil
  exact ⟨h1, fun z => (h2 z).trans (by simp)⟩
theorem putAll_snoc (ys : List Int) (x : Int) : putAll (ys ++ [x]) = putL (putAll ys) x := by unfold putAll; rw [List.foldl_append]; rfl
theorem putAll_len (ys : List Int) : (putAll ys).length ≤ ys.length := by
  have key : ∀ (ys acc : List Int), (ys.foldl putL acc).length ≤ acc.length + ys.length := by
    intro ys
    induction ys with
    | nil => intro acc; simp
    | cons y ys ih =>
      intro acc
      have h1 := ih (putL acc y)
      have h2 := putL_len acc y
      simp only [List.foldl_cons, List.length_cons] at *
      omega
  have := key ys []
  unfold putAll
  simpa using this
theorem srt_unique : ∀ {xs ys : List Int}, xs.Pairwise (· < ·) → ys.Pairwise (· < ·) → (∀ z, z ∈ xs ↔ z ∈ ys) → xs = ys
  | [], [], _, _, _ => rfl
  | [], y :: ys, _, _, h => by have := (h y).2 (List.mem_cons_self ..); cases this
  | x :: xs, [], _, _, h => by have := (h x).1 (List.mem_cons_self ..); cases this
  | x :: xs, y :: ys, hx, hy, h => by
    have px := List.pairwise_cons.1 hx
    have py := List.pairwise_cons.1 hy
    have e : x = y := by
      rcases List.mem_cons.1 ((h x).1 (List.mem_cons_self ..)) with e | h1
      · exact e
      · rcases List.mem_cons.1 ((h y).2 (List.mem_cons_self ..)) with e | h2
        · exact e.symm
        · have := py.1 x h1
          have := px.1 y h2
          omega
    subst e
    congr 1
    refine srt_unique px.2 py.2 fun z => ?_
    constructor
    · intro hz
      have h1 := px.1 z hz
      rcases List.mem_cons.1 ((h z).1 (List.mem_cons_of_mem _ hz)) with e | h2
      · omega
      · exact h2
    · intro hz
      have h1 := py.1 z hz
      rcases List.mem_cons.1 ((h z).2 (List.mem_cons_of_mem _ hz)) with e | h2
      · omega
      · exact h2
theorem comp_inv (d : Array Int) (hs : ∀ i j, i ≤ j → j < d.size → d[i]! ≤ d[j]!) : ∀ m, m ≤ d.size → (Lib.compactUpTo d m).Pairwise (· < ·) ∧ ∀ z, z ∈ Lib.compactUpTo d m ↔ ∃ j, j < m ∧ d[j]! = z
  | 0, _ => by
    refine ⟨by simp [Lib.compactUpTo], fun z => ?_⟩
    simp [Lib.compactUpTo]
  | m + 1, hm => by
    obtain ⟨h1, h2⟩ := comp_inv d hs m (by omega)
    rw [Lib.compactUpTo_succ]
    by_cases hk : Lib.keeps d m = true
    · rw [if_pos hk]
      refine ⟨List.pairwise_append.2 ⟨h1, List.pairwise_singleton _ _, fun z hz y hy => ?_⟩, fun z => ?_⟩
      · rw [List.mem_singleton] at hy
        subst hy
        obtain ⟨j, hj, rfl⟩ := (h2 z).1 hz
        have hne : d[m]! ≠ d[m - 1]! := fun e => by rw [Lib.keeps_neg (by omega) e] at hk; cases hk
        have a1 := hs j (m - 1) (by omega) (by omega)
        have a2 := hs (m - 1) m (by omega) (by omega)
        omega
      · rw [List.mem_append, h2, List.mem_singleton]
        constructor
        · rintro (⟨j, hj, e⟩ | rfl)
          · exact ⟨j, by omega, e⟩
          · exact ⟨m, by omega, rfl⟩
        · rintro ⟨j, hj, e⟩
          rcases Nat.lt_or_ge j m with h | h
          · exact .inl ⟨j, h, e⟩
          · obtain rfl : j = m := by omega
            exact .inr e.symm
    · rw [if_neg hk, List.append_nil]
      refine ⟨h1, fun z => ?_⟩
      rw [h2]
      have he : 0 < m ∧ d[m]! = d[m - 1]! := by
        rcases Nat.eq_zero_or_pos m with h0 | h0
        · subst h0
          exact absurd (Lib.keeps_lt_one d 0 (by omega)) hk
        · refine ⟨h0, ?_⟩
          by_cases e : d[m]! = d[m - 1]!
          · exact e
          · exact absurd (Lib.keeps_pos e) hk
      constructor
      · rintro ⟨j, hj, e⟩
        exact ⟨j, by omega, e⟩
      · rintro ⟨j, hj, e⟩
        rcases Nat.lt_or_ge j m with h | h
        · exact ⟨j, h, e⟩
        · obtain rfl : j = m := by omega
          exact ⟨j - 1, by omega, by rw [← he.2]; exact e⟩
theorem compact_srt {zs : List Int} (h : zs.Pairwise (· ≤ ·)) : (Lib.compact zs).Pairwise (· < ·) ∧ ∀ z, z ∈ Lib.compact zs ↔ z ∈ zs := by
  have hget : ∀ i (hi : i < zs.length), zs.toArray[i]! = zs[i] := fun i hi => by simp [hi]
  have hs : ∀ i j, i ≤ j → j < zs.toArray.size → zs.toArray[i]! ≤ zs.toArray[j]! := fun i j hij hj => by
    have hj' : j < zs.length := by simpa using hj
    rw [hget i (by omega), hget j hj']
    rcases Nat.lt_or_ge i j with h1 | h1
    · exact List.pairwise_iff_getElem.1 h i j (by omega) hj' h1
    · obtain rfl : i = j := by omega
      exact Int.le_refl _
  obtain ⟨h1, h2⟩ := comp_inv zs.toArray hs zs.length (by simp)
  refine ⟨h1, fun z => (h2 z).trans ?_⟩
  constructor
  · rintro ⟨j, hj, rfl⟩
    rw [hget j hj]
    exact List.getElem_mem hj
  · intro hz
    obtain ⟨j, hj, e⟩ := List.getElem_of_mem hz
    exact ⟨j, hj, by rw [hget j hj]; exact e⟩
/-- What the library's sort and compact make of numbers is what putting them in, one by one, makes of them. -/
theorem sorted_once (ys : List Int) : Lib.compact (ys.mergeSort fun x y => decide (x ≤ y)) = putAll ys := by
  have hp : (ys.mergeSort fun x y => decide (x ≤ y)).Pairwise (· ≤ ·) := by
    have h := List.pairwise_mergeSort (le := fun x y : Int => decide (x ≤ y)) (fun a b c => by simp; omega) (fun a b => by simp; omega) ys
    exact h.imp fun h => by simpa using h
  obtain ⟨h1, h2⟩ := compact_srt hp
  obtain ⟨h3, h4⟩ := putAll_srt ys
  exact srt_unique h1 h3 fun z => ((h2 z).trans (List.mergeSort_perm ys _).mem_iff).trans (h4 z).symm
end Go.Proofs.Ytapophggndlhaaa
