/- Contract of the library's walk over a list from its end (slices.Backward at numbers): the iterator, for every loop body that keeps the list's own cells. -/
import Derived.RangeFuncNested
import Derived.RangeFuncBound
import Derived.RangeFuncCalls
import Derived.RangeFuncLeaves
import Derived.RangeFuncBox
import Derived.Shelf.Abstract
import Derived.Shelf.RegionOpen
import Derived.WalkKit
import Derived.OwnWalkIn
import Derived.TacticsInMore
import Derived.LoopNIn
import Derived.LoopIn
import Derived.Test.YtapophggndlhaaaMem
import Derived.Test.YtapophggndlhaaaChecked
import Derived.IntWalk
import Derived.Lib.Hide
namespace Go.Proofs.Ytapophggndlhaaa
set_option linter.unusedVariables false
set_option linter.unusedSimpArgs false
open Go.RowKit Go.Shelf
attribute [local go_sem] Oper.semAt_some
/-- What k rounds from the end have brought: places and numbers. -/
def bwU (zs : List Int) (len k : Nat) : List (Nat × Int) := (List.range k).map fun t => (len - 1 - t, zs[len - 1 - t]?.getD 0)
theorem bwU_succ (zs : List Int) (len k : Nat) : bwU zs len (k + 1) = bwU zs len k ++ [(len - 1 - k, zs[len - 1 - k]?.getD 0)] := by unfold bwU; simp [List.range_succ]
theorem bwU_len (zs : List Int) (len k : Nat) : (bwU zs len k).length = k := by simp [bwU]
theorem bwU_all (zs : List Int) : (bwU zs zs.length zs.length).map Prod.snd = zs.reverse := by
  apply List.ext_getElem
  · simp [bwU]
  · intro i h1 h2
    have hi : i < zs.length := by simpa [bwU] using h1
    simp only [bwU, List.map_map, List.getElem_map, List.getElem_range, Function.comp, List.getElem_reverse]
    rw [List.getElem?_eq_getElem (by omega)]
    rfl
/-- Cells below n₀, but for one block, read as before. -/
def KpB (n₀ gx : Nat) (W W' : World) : Prop := ∀ p : Addr, p.block < n₀ → p.block ≠ gx → W'.cell? p = W.cell? p
theorem KpB.refl (n₀ gx : Nat) (W : World) : KpB n₀ gx W W := fun _ _ _ => rfl
theorem KpB.trans {n₀ gx : Nat} {A B C : World} (h : KpB n₀ gx A B) (k : KpB n₀ gx B C) : KpB n₀ gx A C := fun p h1 h2 => (k p h1 h2).trans (h p h1 h2)
theorem KpB.put {n₀ gx : Nat} {w : World} (hn : n₀ ≤ w.heap.size) (W : World) (l : Nat) (o o' : Obj) (hl : w.heap.size ≤ l) (h : W.heap[l]? = some o) (h1 : o.isCells = false) (h2 : o.isWalk = false) : KpB n₀ gx W (W.putObj l o') :=
  fun p hp _ => (belowK_b hn W l o o' hl h h1 h2).cell hp
theorem KpB.below {n₀ gx : Nat} {A B : World} (h : Below n₀ A B) : KpB n₀ gx A B := fun p hp _ => h.cell hp
set_option maxRecDepth 100000 in
set_option maxHeartbeats 2000000 in
theorem back1_in (F : Fence) (n : Nat) (h88 : F.fn 88) (hro : F.round = none) (hn : 1 ≤ n) (l Bs n₀ gx b off len cap : Nat) (zs : List Int) (hmax : len ≤ 1000) (hb : b < n₀) (hbx : b ≠ gx) (hs : Bs < n₀) (hsx : Bs ≠ gx) (J Jx : List (Nat × Int) → World → Prop)
    (hY : ∀ pre x W, J pre W → pre.length < len → YieldAt F (n - 1) Try.prog l #[.int .i64 (x.1 : Int), .int .i64 x.2] W fun e W' =>
      (e = .returned (.bool true) ∧ J (pre ++ [x]) W' ∧ KpB n₀ gx W W') ∨ (e = .returned (.bool false) ∧ Jx (pre ++ [x]) W'))
    (W : World) (hBs : W.cell? ⟨Bs, 0, none⟩ = some (.slice (some ⟨b, off, none⟩) len cap)) (hc : ∀ j, j < len → W.cell? ⟨b, off + j, none⟩ = some (.int .i64 (zs[j]?.getD 0))) (h0 : J [] W) :
    CallsIn F n Try.prog 88 #[.func (.yield l) #[] #[], .pointer (some ⟨Bs, 0, none⟩)] W fun e W' => (∃ v, e = .returned v) ∧
      ((∃ ys, ys = bwU zs len len ∧ J ys W') ∨ (∃ pre, (∃ k, k ≤ len ∧ pre = bwU zs len k) ∧ Jx pre W')) := by
  refine callsIn_of_wp Try.func88 rfl h88 ?_ hro
  simp only [Try.ntmps88, List.size_toArray, List.length_cons, List.length_nil, Nat.reduceAdd, Nat.reduceSub, Array.replicate_succ, Array.replicate_zero, List.push_toArray, List.append_toArray, List.nil_append, List.cons_append]
  gi_wp2
  gi_loopw [3] (fun i wr => ∃ (j k : Nat) (x : Int), j + k = len ∧ x = (j : Int) - 1 ∧ i = .int .i64 x ∧ J (bwU zs len k) wr ∧ KpB n₀ gx W wr)
    (fun i _ => (intOf i + 1).toNat)
  case atStart => exact ⟨len, 0, (len : Int) - 1, by omega, rfl, rfl, h0, KpB.refl _ _ _⟩
  case round =>
    obtain ⟨j, k, x, hjk, hx, rfl, hJs, hnx⟩ := hrel
    have hBr : wr.cell? ⟨Bs, 0, none⟩ = some (.slice (some ⟨b, off, none⟩) len cap) := (hnx ⟨Bs, 0, none⟩ hs hsx).trans hBs
    by_cases hlt : 0 < j
    · obtain ⟨j, rfl⟩ : ∃ t, j = t + 1 := ⟨j - 1, by omega⟩
      obtain rfl : x = (j : Int) := by omega
      clear hx
      have hcx : wr.cell? ⟨b, off + j, none⟩ = some (.int .i64 (zs[j]?.getD 0)) := (hnx ⟨b, off + j, none⟩ hb hbx).trans (hc j (by omega))
      have hjI : (j : Int) < (len : Int) := by omega
      have hU : bwU zs len (k + 1) = bwU zs len k ++ [(j, zs[j]?.getD 0)] := by rw [bwU_succ, show len - 1 - k = j by omega]
      have HU := Lib.hid hU
      clear hU
      obtain ⟨fn, tmps, assign, body, hy, hR⟩ := hY _ (j, zs[j]?.getD 0) wr hJs (by rw [bwU_len]; omega)
      dsimp only at hy
      gi_wp2
      refine hR.mono ?_
      rintro e W3 (⟨rfl, hJ3, hk3⟩ | ⟨rfl, hJx3⟩)
      · gi_wp2
        go_roundw
        case rel => exact ⟨j, k + 1, (j : Int) - 1, by omega, rfl, rfl, by rw [HU.out]; exact hJ3, hnx.trans hk3⟩
        case measure => simp [intOf] <;> omega
      · gi_wp2
        refine bodyPost_ret (results_none rfl _ _ _) rfl ?_
        exact ⟨⟨_, rfl⟩, .inr ⟨_, ⟨k + 1, by omega, HU.out.symm⟩, hJx3⟩⟩
    · obtain rfl : j = 0 := by omega
      obtain rfl : x = -1 := by omega
      obtain rfl : k = len := by omega
      clear hx
      gi_wp2
      go_end0
      exact ⟨⟨_, rfl⟩, .inl ⟨_, rfl, hJs⟩⟩
set_option maxHeartbeats 1000000 in
theorem back_in (F : Fence) (n : Nat) (h5 : F.fn 65) (hro : F.round = none) (a : Option Addr) (len cap : Nat) (w : World) :
    CallsIn F n Try.prog 65 #[.slice a len cap] w fun e w' => e = .returned (.func (.func 88) #[] #[.pointer (some ⟨w.heap.size, 0, none⟩)]) ∧ w' = w.alloc (.cells #[.slice a len cap] 53) := by
  refine callsIn_of_wp Try.func65 rfl h5 ?_ hro
  simp only [Try.ntmps65, List.size_toArray, List.length_cons, List.length_nil, Nat.reduceAdd, Nat.reduceSub, Array.replicate_succ, Array.replicate_zero, List.push_toArray, List.append_toArray, List.nil_append, List.cons_append]
  gi_wp2
  go_ret
  exact ⟨rfl, rfl⟩
/-- What it hands back brings the whole list from its end, or a part of that, to every body that keeps the list's cells. -/
theorem back_stops (F : Fence) (n : Nat) (h88 : F.fn 88) (hro : F.round = none) (hn : 1 ≤ n) (Bs n₀ gx b off cap : Nat) (zs : List Int) (hmax : zs.length ≤ 1000) (hb : b < n₀) (hbx : b ≠ gx) (hs : Bs < n₀) (hsx : Bs ≠ gx) (w : World) (hn0 : n₀ ≤ w.heap.size)
    (hBs : w.cell? ⟨Bs, 0, none⟩ = some (.slice (some ⟨b, off, none⟩) zs.length cap)) (hc : ∀ j, j < zs.length → w.cell? ⟨b, off + j, none⟩ = some (.int .i64 (zs[j]?.getD 0))) :
    SeqStopsK F n Try.prog 88 #[.pointer (some ⟨Bs, 0, none⟩)] (fun x : Nat × Int => #[Value.int .i64 (x.1 : Int), Value.int .i64 x.2]) (KpB n₀ gx) (fun ys => ys = bwU zs zs.length zs.length)
      (fun pre => ∃ k, k ≤ zs.length ∧ pre = bwU zs zs.length k) zs.length w := fun l J Jx W hW _ _ hY h0 =>
  back1_in F n h88 hro hn l Bs n₀ gx b off zs.length cap zs hmax hb hbx hs hsx J Jx hY W ((hW.cell (by exact Nat.lt_of_lt_of_le hs hn0)).trans hBs) (fun j hj => (hW.cell (p := ⟨b, off + j, none⟩) (Nat.lt_of_lt_of_le hb hn0)).trans (hc j hj)) h0
end Go.Proofs.Ytapophggndlhaaa
