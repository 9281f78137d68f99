/- Texts cut at a byte, and joined: plain laws. -/
import Derived.Lib.Split
import Derived.Lib.Join
import Derived.Lib.IndexBytes
namespace Go.Proofs.YtdooajiobpjihaaDoor
set_option linter.unusedVariables false
set_option linter.unusedSimpArgs false
theorem ixb_none {c : UInt8} : ∀ {p : List UInt8}, c ∉ p → Lib.indexByte p c = -1
  | [], _ => rfl
  | b :: p, h => by
    have h1 : ¬ b = c := fun e => h (by rw [e]; exact List.mem_cons_self ..)
    have ih := ixb_none (p := p) (fun e => h (List.mem_cons_of_mem _ e))
    simp [Lib.indexByte, h1, ih]
theorem ixb_at {c : UInt8} : ∀ {p : List UInt8} {r : List UInt8}, c ∉ p → Lib.indexByte (p ++ c :: r) c = p.length
  | [], r, _ => by simp [Lib.indexByte]
  | b :: p, r, h => by
    have h1 : ¬ b = c := fun e => h (by rw [e]; exact List.mem_cons_self ..)
    have ih := ixb_at (p := p) (r := r) (fun e => h (List.mem_cons_of_mem _ e))
    simp [Lib.indexByte, h1, ih]
/-- Pieces with a byte between each two. -/
abbrev jn (c : UInt8) (ps : List (List UInt8)) : List UInt8 := Lib.join ps [c]
theorem jn_cons {c : UInt8} {p q : List UInt8} {ps : List (List UInt8)} : jn c (p :: q :: ps) = p ++ c :: jn c (q :: ps) := by
  simp [jn, Lib.join, List.intercalate]
theorem jn_one {c : UInt8} {p : List UInt8} : jn c [p] = p := by simp [jn, Lib.join, List.intercalate]
theorem splitK_jn {c : UInt8} : ∀ (ps : List (List UInt8)) (k : Nat), ps ≠ [] → (∀ p ∈ ps, c ∉ p) → ps.length ≤ k + 1 → Lib.splitK [c] 0 k (jn c ps) = ps
  | [], _, h, _, _ => absurd rfl h
  | [p], k, _, h, _ => by
    rw [jn_one]
    cases k with
    | zero => rfl
    | succ k =>
      unfold Lib.splitK
      rw [Lib.index_one, ixb_none (h p (List.mem_cons_self ..))]
      rfl
  | p :: q :: ps, 0, _, _, hk => by simp at hk
  | p :: q :: ps, k + 1, _, h, hk => by
    rw [jn_cons]
    have hp := h p (List.mem_cons_self ..)
    unfold Lib.splitK
    rw [Lib.index_one, ixb_at hp, if_neg (by simp)]
    have ih := splitK_jn (q :: ps) k (by simp) (fun x hx => h x (List.mem_cons_of_mem _ hx)) (by simp at hk ⊢; omega)
    simp only [Int.toNat_natCast, Nat.add_zero, List.length_singleton, List.take_left']
    rw [show (p ++ c :: jn c (q :: ps)).drop (p.length + 1) = jn c (q :: ps) by rw [List.drop_append]; simp, ih]
theorem cut_at {c : UInt8} {p r : List UInt8} (h : c ∉ p) : Lib.cut (p ++ c :: r) [c] = (p, r, true) := by
  unfold Lib.cut
  rw [Lib.index_one, ixb_at h, if_pos (by omega)]
  simp only [Int.toNat_natCast, List.length_singleton, List.take_left']
  rw [show (p ++ c :: r).drop (p.length + 1) = r by rw [List.drop_append]; simp]
/-- The pieces between the bytes c, behind a piece begun. -/
def splA (c : UInt8) (cur : List UInt8) : List UInt8 → List (List UInt8)
  | [] => [cur]
  | b :: r => if b = c then cur :: splA c [] r else splA c (cur ++ [b]) r
theorem splA_ne (c : UInt8) : ∀ (l cur : List UInt8), splA c cur l ≠ []
  | [], _ => by simp [splA]
  | b :: r, cur => by
    simp only [splA]; split
    · simp
    · exact splA_ne c r _
theorem splA_no {c : UInt8} : ∀ (l cur : List UInt8), c ∉ cur → ∀ p ∈ splA c cur l, c ∉ p
  | [], cur, h, p, hp => by simp [splA] at hp; rw [hp]; exact h
  | b :: r, cur, h, p, hp => by
    simp only [splA] at hp
    split at hp
    · rcases List.mem_cons.1 hp with rfl | hp
      · exact h
      · exact splA_no r [] (by simp) p hp
    · rename_i hb
      exact splA_no r _ (by simp; exact ⟨h, fun e => hb e.symm⟩) p hp
theorem splA_jn {c : UInt8} : ∀ (l cur : List UInt8), jn c (splA c cur l) = cur ++ l
  | [], cur => by simp [splA, jn_one]
  | b :: r, cur => by
    simp only [splA]
    split
    · rename_i hb
      subst hb
      have ih := splA_jn (c := b) r []
      have hne := splA_ne b r []
      generalize splA b [] r = x at *
      cases x with
      | nil => exact absurd rfl hne
      | cons q ps => rw [jn_cons, ih]; rfl
    · rw [splA_jn r]; simp
theorem splA_pre {c : UInt8} : ∀ (p cur l : List UInt8), c ∉ p → splA c cur (p ++ l) = splA c (cur ++ p) l
  | [], cur, l, _ => by simp
  | b :: p, cur, l, h => by
    have h1 : ¬ b = c := fun e => h (by rw [e]; exact List.mem_cons_self ..)
    show splA c cur (b :: (p ++ l)) = _
    simp only [splA]
    rw [if_neg h1, splA_pre p _ l (fun e => h (List.mem_cons_of_mem _ e))]
    simp
theorem spl_jn {c : UInt8} : ∀ (ps : List (List UInt8)), ps ≠ [] → (∀ p ∈ ps, c ∉ p) → splA c [] (jn c ps) = ps
  | [], h, _ => absurd rfl h
  | [p], _, h => by
    rw [jn_one]
    have := splA_pre p [] [] (h p (List.mem_cons_self ..))
    simpa [splA] using this
  | p :: q :: ps, _, h => by
    rw [jn_cons, splA_pre p [] _ (h p (List.mem_cons_self ..))]
    simp only [splA, List.nil_append, if_true]
    rw [spl_jn (q :: ps) (by simp) (fun x hx => h x (List.mem_cons_of_mem _ hx))]
theorem jn_snoc {c : UInt8} : ∀ (ps : List (List UInt8)) (p : List UInt8), ps ≠ [] → jn c (ps ++ [p]) = jn c ps ++ c :: p
  | [], _, h => absurd rfl h
  | [q], p, _ => by show jn c (q :: p :: []) = _; rw [jn_cons, jn_one, jn_one]
  | q :: x :: ps, p, _ => by
    show jn c (q :: x :: (ps ++ [p])) = _
    rw [jn_cons, jn_cons, show x :: (ps ++ [p]) = (x :: ps) ++ [p] from rfl, jn_snoc (x :: ps) p (by simp)]
    simp
end Go.Proofs.YtdooajiobpjihaaDoor
