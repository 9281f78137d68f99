/- Contracts of a fan with another speed, and of a fan made of points, both sides. -/
import Derived.Test.YtapophggndlhaaaPrsR
import Derived.Test.YtapophggndlhaaaMkR
import Derived.Test.YtapophggndlhaaaMade
import Derived.Deep.RegionHeld3
import Derived.Deep.AppendLies
namespace Go.Proofs.Ytapophggndlhaaa
set_option linter.unusedVariables false
set_option linter.unusedSimpArgs false
open Go.RowKit
def spTo (cs : List (List Int)) (num den : Int) (k : Nat) : List (List Int) := (List.range k).map fun i => [lockA cs i * num / den, lockB cs i * num * num / (den * den)]
theorem spTo_succ (cs : List (List Int)) (num den : Int) (k : Nat) : spTo cs num den (k + 1) = spTo cs num den k ++ [[lockA cs k * num / den, lockB cs k * num * num / (den * den)]] := by
  unfold spTo; rw [List.range_succ, List.map_append]; rfl
def spC (cs : List (List Int)) (num den : Int) : List (List Int) := spTo cs num den cs.length
def spCode (s : ByteArray) (a : Int) (cs : List (List Int)) (num den : Int) : Int :=
  if fanOk s a cs = true then (if inB num 1 100 = true ∧ inB den 1 100 = true then (if fanOk s a (spC cs num den) = true then 0 else 6) else 2) else 1
theorem sp_nums {x y num den : Int} (hx : 0 ≤ x ∧ x ≤ 100000) (hy : 0 ≤ y ∧ y ≤ 10000) (hn : 1 ≤ num ∧ num ≤ 100) (hd : 1 ≤ den ∧ den ≤ 100) :
    (0 ≤ x * num ∧ x * num ≤ 10000000) ∧ (0 ≤ y * num ∧ y * num ≤ 1000000) ∧ (0 ≤ y * num * num ∧ y * num * num ≤ 100000000) ∧ (1 ≤ den * den ∧ den * den ≤ 10000) := by
  have h1 := mul_pos_bnd (M := 10000000) hx.1 hx.2 (show 0 ≤ num by omega) hn.2 (by omega)
  have h2 := mul_pos_bnd (M := 1000000) hy.1 hy.2 (show 0 ≤ num by omega) hn.2 (by omega)
  have h3 := mul_pos_bnd (M := 100000000) h2.1 h2.2 (show 0 ≤ num by omega) hn.2 (by omega)
  have h4 := mul_pos_bnd (M := 10000) (show 0 ≤ den by omega) hd.2 (show 0 ≤ den by omega) hd.2 (by omega)
  have h5 : 1 * 1 ≤ den * den := Int.mul_le_mul hd.1 hd.1 (by omega) (by omega)
  exact ⟨h1, h2, h3, by omega, h4.2⟩
theorem tdiv_in {a b m : Int} (ha : 0 ≤ a) (hb : 0 < b) (h : a ≤ m) (hm : m ≤ 1000000000) : a.tdiv b = a / b ∧ IntKind.i64.wrap (a / b) = a / b := by
  have h1 := ediv_bounds ha hb h
  exact ⟨Int.tdiv_eq_ediv_of_nonneg ha, IntWalk.i64_in _ (by omega)⟩
theorem cells_new2 (w : World) (o : Obj) (a : Array Value) (t : TypeId) : Cells ((w.alloc o).alloc (.cells a t)).drew ⟨w.heap.size + 1, 0, none⟩ a.toList := by
  have h := Cells.new (w.alloc o) a t
  rw [show (w.alloc o).heap.size = w.heap.size + 1 by simp] at h
  exact h
theorem below_new2 (w : World) (o o' : Obj) : Below w.heap.size w ((w.alloc o).alloc o').drew := below_drew (((Below.refl _ _).alloc (Nat.le_refl _) _).alloc (by simp) _)
theorem l06Done_ok (s : ByteArray) (a : Int) (A : Option Addr) (n c : Nat) (rs : List Row) (p : Addr) (w : World) (hs : s.size ≤ maxLen) (hr : RSS w w.heap.size A n rs) (hn : n ≤ 1048576) (hrn : ∀ r ∈ rs, r.n ≤ 1048576) (h0 : w.cell? p = some (.string s)) (h1 : w.cell? ⟨p.block, p.off + 1, none⟩ = some (.int .i64 a)) (hok : fanOk s a (dat rs) = true) :
    Calls Try.prog 38 #[.pointer (some p), .slice A n c] w fun e w' => e = .returned (.tuple #[.agg #[.string s, .int .i64 a, .slice A n c], .int .i64 0]) ∧ Below w.heap.size w w' := by
  have h8 : n ≤ 8 := by have h := (crvOk_t (fanOk_t hok).2.2).2.1; have h2 := dat_len rs; have h3 := hr.len; omega
  have HC : Hid (∀ (W : World) (q : Addr), Below w.heap.size w W → Cells W q [.string s, .int .i64 a, .slice A n c] → Calls Try.prog 36 #[.pointer (some q)] W fun e w' => e = .returned (.bool true) ∧ Below W.heap.size W w') :=
    fun W q hb hc => hok ▸ l06Ok_any s a A n c rs q W hs ((hr.below hb).more hb.size) hn hrn hc
  clear hok hrn
  go_enter Try.func38, Try.ntmps38
  go_wp2
  go_region_held3 (fun w' => w'.cell? p = some (.string s) ∧ w'.cell? ⟨p.block, p.off + 1, none⟩ = some (.int .i64 a)) (go_keep) (fail)
  go_wp2_with fail; ((with_reducible refine (HC.out _ _ (below_new2 w _ _) (cells_new2 w _ #[.string s, .int .i64 a, .slice A n c] _)).mono ?_); rintro e w1 ⟨rfl, hb1⟩)
  obtain ⟨hc1, hf1⟩ := bcell hb1
  have zz : w.heap.size + 2 ≤ w1.heap.size := by have h := hb1.size; simp at h; omega
  have z0 : w.heap.size < w1.heap.size := by omega
  have z1 : w.heap.size + 1 < w1.heap.size := by omega
  have B1 : Below w.heap.size w w1 := (below_new2 w _ _).trans (hb1.mono (by simp; omega))
  have K1 := ((Blk.new w 26 #[.string ByteArray.empty, .int .i64 0, .slice none 0 0]).alloc (.cells #[.string s, .int .i64 a, .slice A n c] 26)).drew.below hb1 (by simp; omega)
  have e0 := K1.cell 0
  have e1 := K1.cell 1
  have e2 := K1.cell 2
  go_wp2
  refine bodyPost_ret (v := .tuple #[.agg #[.string s, .int .i64 a, .slice A n c], .int .i64 0]) (by simp [results, Try.results38, go_sem, hc1, z0, z1, e0, e1, e2] <;> rfl) rfl ⟨rfl, ?_⟩
  repeat (first | exact B1 | (refine Below.setCell ?_ (by first | (simp; done) | (simp; omega)) _))
theorem l06Done_bad (s : ByteArray) (a : Int) (A : Option Addr) (n c : Nat) (rs : List Row) (p : Addr) (w : World) (hs : s.size ≤ maxLen) (hr : RSS w w.heap.size A n rs) (hn : n ≤ 1048576) (hrn : ∀ r ∈ rs, r.n ≤ 1048576) (h0 : w.cell? p = some (.string s)) (h1 : w.cell? ⟨p.block, p.off + 1, none⟩ = some (.int .i64 a)) (h8 : n ≤ 8) (hok : fanOk s a (dat rs) = false) :
    Calls Try.prog 38 #[.pointer (some p), .slice A n c] w fun e w' => e = .returned (.tuple #[.agg #[.string ByteArray.empty, .int .i64 0, .slice none 0 0], .int .i64 6]) ∧ Below w.heap.size w w' := by
  have HC : Hid (∀ (W : World) (q : Addr), Below w.heap.size w W → Cells W q [.string s, .int .i64 a, .slice A n c] → Calls Try.prog 36 #[.pointer (some q)] W fun e w' => e = .returned (.bool false) ∧ Below W.heap.size W w') :=
    fun W q hb hc => hok ▸ l06Ok_any s a A n c rs q W hs ((hr.below hb).more hb.size) hn hrn hc
  clear hok hrn
  go_enter Try.func38, Try.ntmps38
  go_wp2
  go_region_held3 (fun w' => w'.cell? p = some (.string s) ∧ w'.cell? ⟨p.block, p.off + 1, none⟩ = some (.int .i64 a)) (go_keep) (fail)
  go_wp2_with fail; ((with_reducible refine (HC.out _ _ (below_new2 w _ _) (cells_new2 w _ #[.string s, .int .i64 a, .slice A n c] _)).mono ?_); rintro e w1 ⟨rfl, hb1⟩)
  obtain ⟨hc1, hf1⟩ := bcell hb1
  have zz : w.heap.size + 2 ≤ w1.heap.size := by have h := hb1.size; simp at h; omega
  have z0 : w.heap.size < w1.heap.size := by omega
  have z1 : w.heap.size + 1 < w1.heap.size := by omega
  have B1 : Below w.heap.size w w1 := (below_new2 w _ _).trans (hb1.mono (by simp; omega))
  have K1 := ((Blk.new w 26 #[.string ByteArray.empty, .int .i64 0, .slice none 0 0]).alloc (.cells #[.string s, .int .i64 a, .slice A n c] 26)).drew.below hb1 (by simp; omega)
  have e0 := K1.cell 0
  have e1 := K1.cell 1
  have e2 := K1.cell 2
  go_wp2
  refine bodyPost_ret (v := .tuple #[.agg #[.string ByteArray.empty, .int .i64 0, .slice none 0 0], .int .i64 6]) (by simp [results, Try.results38, go_sem, hc1, z0, z1, e0, e1, e2] <;> rfl) rfl ⟨rfl, ?_⟩
  repeat (first | exact B1 | (refine Below.setCell ?_ (by first | (simp; done) | (simp; omega)) _))
end Go.Proofs.Ytapophggndlhaaa
