/- Contracts of the library's sort, compact, grow and concat at rows of the call's own. -/
import Derived.Test.YtapophggndlhaaaSrp
import Derived.Test.YtapophggndlhaaaShl
import Derived.Test.YtapophggndlhaaaMade
import Derived.Sort.OwnSortedInts
import Derived.Laws.AppendOwn
import Derived.Deep.RegionHeld3
namespace Go.Proofs.Ytapophggndlhaaa
set_option linter.unusedVariables false
set_option linter.unusedSimpArgs false
open Go.RowKit
theorem own_take {w : World} {base g n m c : Nat} {e : TypeId} {xs : List Value} (h : w.ownsRow base e 1 (.slice (some ⟨g, 0, none⟩) n c) n xs) (hm : m ≤ n) : w.ownsRow base e 1 (.slice (some ⟨g, 0, none⟩) m c) m (xs.take m) := by
  have hl : xs.length = n := by have := h.1; simpa using this
  refine ⟨by rw [List.length_take]; omega, ?_⟩
  rcases h.2 with ⟨hv, h0⟩ | ⟨g', cap, cur, hv, hbg, hgb, hnc, hcm, hcs, htake⟩
  · injection hv with hA
    cases hA
  · injection hv with hA _ hc
    injection hA with hA
    injection hA with hA
    subst hA
    subst hc
    refine .inr ⟨g, c, cur, rfl, hbg, hgb, by omega, hcm, hcs, ?_⟩
    rw [← htake, List.take_take]
    congr 1
    omega
theorem Sort_own (base : Nat) (A : Option Addr) (n c : Nat) (zs : List Int) (w : World) (ho : w.ownsRow base 2 1 (.slice A n c) n (ints zs)) (hn1 : 1 ≤ n) (hn2 : n ≤ 1000) (hb : base ≤ w.heap.size) :
    Calls Try.prog 86 #[.slice A n c] w fun e w' => e = .returned (.tuple #[]) ∧ w'.ownsRow base 2 1 (.slice A n c) n (ints (zs.mergeSort fun x y => decide (x ≤ y))) ∧ Below base w w' := by
  have hl : zs.length = n := by have := ho.1; simpa [ints] using this
  rcases ho.2 with ⟨_, h0⟩ | ⟨g, cap, cur, hv, hbg, hgb, hnc, hcm, hcs, htake⟩
  · exfalso; omega
  injection hv with hA _ hc
  subst hA
  subst hc
  have hBlk : Blk w g 2 cur := hgb
  have hH := holds_of_blockI (ss := zs) hgb (by rw [hl]; simpa [ints] using htake)
  have h1 := Try.slices_Sort_int g 0 c zs w hH hBlk.lt (by omega)
  rw [hl] at h1
  refine h1.mono fun e w' ⟨he, k, os, hw⟩ => ⟨he, ?_, ?_⟩
  · have h2 := ownsRow_sortedI (n := k) (os := os) (ss := zs) (ts := zs.mergeSort fun x y => decide (x ≤ y)) (by simp) hbg hgb (by omega) hcm hcs
    rw [hl, ← hw] at h2
    exact h2
  · have h3 := grownBy_sortedI (w := w) (g := g) (n := k) (os := os) (zs.mergeSort fun x y => decide (x ≤ y)).toArray
    rw [← hw] at h3
    exact (Below.refl _ _).grown h3 hb fun q hq => by injection hq with hq; omega
theorem Compact_own (base : Nat) (A : Option Addr) (n c : Nat) (zs : List Int) (w : World) (ho : w.ownsRow base 2 1 (.slice A n c) n (ints zs)) (hn1 : 1 ≤ n) (hn2 : n ≤ 1000) (hb : base ≤ w.heap.size) :
    Calls Try.prog 87 #[.slice A n c] w fun e w' => e = .returned (.slice A (Lib.compact zs).length c) ∧ w'.ownsRow base 2 1 (.slice A (Lib.compact zs).length c) (Lib.compact zs).length (ints (Lib.compact zs)) ∧ Below base w w' := by
  have hl : zs.length = n := by have := ho.1; simpa [ints] using this
  rcases ho.2 with ⟨_, h0⟩ | ⟨g, cap, cur, hv, hbg, hgb, hnc, hcm, hcs, htake⟩
  · exfalso; omega
  injection hv with hA _ hc
  subst hA
  subst hc
  have hH := holds_of_blockI (ss := zs) hgb (by rw [hl]; simpa [ints] using htake)
  have h1 := Try.slices_Compact_int g 0 c zs w hH (by omega) (by omega)
  rw [hl] at h1
  have hcl : (Lib.compact zs).length ≤ n := by
    rw [← hl]
    unfold Lib.compact Lib.compactUpTo
    rw [List.length_map]
    have := List.length_filter_le (Lib.keeps zs.toArray) (List.range zs.length)
    rwa [List.length_range] at this
  refine h1.mono fun e w' ⟨he, k, hw⟩ => ⟨he, ?_, ?_⟩
  · have h2 := ownsRow_sortedI (n := k) (os := #[]) (ss := zs) (ts := Lib.compact zs ++ List.replicate (n - (Lib.compact zs).length) 0) (by rw [List.length_append, List.length_replicate]; omega) hbg hgb (by omega) hcm hcs
    rw [show ∀ W : World, Sort.grow W #[] = W from fun W => by simp [Sort.grow], ← hw, hl] at h2
    have h4 := own_take h2 hcl
    rw [List.map_append, List.take_left' (by simp)] at h4
    exact h4
  · have h3 := grownBy_sortedI (w := w) (g := g) (n := k) (os := #[]) (Lib.compact zs ++ List.replicate (n - (Lib.compact zs).length) 0).toArray
    rw [show ∀ W : World, Sort.grow W #[] = W from fun W => by simp [Sort.grow], ← hw] at h3
    exact (Below.refl _ _).grown h3 hb fun q hq => by injection hq with hq; omega
theorem Grow_any (N : Nat) (w : World) (h1 : 1 ≤ N) (h2 : N ≤ 2000) :
    Calls Try.prog 94 #[.slice none 0 0, .int .i64 N] w fun e w' => ∃ (A : Option Addr) (c : Nat), e = .returned (.slice A 0 c) ∧ w'.ownsRow w.heap.size 53 1 (.slice A 0 c) 0 [] ∧ Below w.heap.size w w' := by
  obtain ⟨i0, hi0, hz0, hz1, hz2⟩ := info_parts info_Int64SS
  have h3 := Any8.slices_Grow_grow Try.lays8n4 i0 (.slice none 0 0) hi0 hz0 (by rw [hz1]; omega) none 0 0 N [] w (Nat.le_refl _) (by omega) (by rw [hz2]; omega) (by omega) (by simp) (fun _ => rfl) (fun a h => by cases h)
  rw [show Try.lays8n4_ren.t 25 = 53 from rfl] at h3
  refine h3.mono fun e w' ⟨he, hw⟩ => ⟨_, _, he, ?_, ?_⟩
  · subst hw
    have hcm : grownCap w (0 + N) 0 53 ≤ maxLen := grownCap_le_maxLen w (0 + N) 0 53 (by unfold maxLen; omega)
    refine ⟨rfl, .inr ⟨w.heap.size, _, _, rfl, Nat.le_refl _, Blk.new w.drew _ _, Nat.zero_le _, hcm, ?_, rfl⟩⟩
    have hle : 0 + N ≤ grownCap w (0 + N) 0 53 := grownCap_ge w (0 + N) 0 53
    generalize grownCap w (0 + N) 0 53 = G at *
    simp [Builtin.zeroCells, Value.cells]
    try omega
  · subst hw
    exact ((Below.refl _ _).drew).alloc (Nat.le_refl _) _
end Go.Proofs.Ytapophggndlhaaa
