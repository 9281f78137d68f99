/- Contracts of a fan with another speed, and of a fan made of points, both sides. -/
import Derived.Test.YtapophggndlhaaaPrsR
import Derived.Test.YtapophggndlhaaaMkR
import Derived.Deep.RegionHeld3
import Derived.Deep.AppendLies
namespace Go.Proofs.Ytapophggndlhaaa
set_option linter.unusedVariables false
set_option linter.unusedSimpArgs false
open Go.RowKit
theorem OSS.nil (w : World) (lo : Nat) : OSS w lo none 0 0 [] := ⟨own_nil w lo _ _, fun r h => by simp at h, List.Pairwise.nil⟩
/-- A row of two numbers behind rows of the call's own. -/
theorem oss_app {w w6 : World} {lo k c c' : Nat} {A A' : Option Addr} {rs : List Row} (x y : Int) (h : OSS w lo A k c rs) (hlo : lo ≤ w.heap.size)
    (ho : w6.ownsRow lo 53 1 (.slice A' (k + 1) c') (k + 1) (rowsV rs ++ [.slice (some ⟨w.heap.size, 0, none⟩) 2 2]))
    (hg : ((w.alloc (.cells #[.int .i64 x, .int .i64 y] 2)).alloc (.cells #[.slice (some ⟨w.heap.size, 0, none⟩) 2 2] 53)).grownBy w6 (Value.ownBlock (.slice A k c))) :
    OSS w6 lo A' (k + 1) c' (rs ++ [⟨some ⟨w.heap.size, 0, none⟩, 2, 2, [x, y]⟩]) := by
  have hb : Below w.heap.size w ((w.alloc (.cells #[.int .i64 x, .int .i64 y] 2)).alloc (.cells #[.slice (some ⟨w.heap.size, 0, none⟩) 2 2] 53)) :=
    ((Below.refl _ _).alloc (Nat.le_refl _) _).alloc (by simp) _
  have hblk : Blk ((w.alloc (.cells #[.int .i64 x, .int .i64 y] 2)).alloc (.cells #[.slice (some ⟨w.heap.size, 0, none⟩) 2 2] 53)) w.heap.size 2 #[.int .i64 x, .int .i64 y] := (Blk.new w _ _).alloc _
  refine ⟨by unfold rowsV at *; rw [List.map_append]; exact ho, fun r hr => ?_, ?_⟩
  · rcases List.mem_append.1 hr with hr | hr
    · exact own_keep (own_below (h.row r hr) hb) hg fun b g1 g2 => own_ne (h.row r hr) h.out (by decide) b g1 g2
    · rw [List.mem_singleton] at hr
      subst hr
      have h1 : ((w.alloc (.cells #[.int .i64 x, .int .i64 y] 2)).alloc (.cells #[.slice (some ⟨w.heap.size, 0, none⟩) 2 2] 53)).ownsRow w.heap.size 2 1 (.slice (some ⟨w.heap.size, 0, none⟩) 2 2) 2 (ints [x, y]) :=
        own_of_blk hblk rfl rfl (by unfold maxLen; omega) (fun j _ => by rw [← Array.getElem?_toList]; rfl)
      refine own_base (own_keep h1 hg fun b g1 g2 => ?_) hlo
      have h2 := (h.out.lt b g2).2
      injection g1 with g1
      subst g1
      exact absurd h2 (Nat.lt_irrefl _)
  · rw [List.pairwise_append]
    refine ⟨h.apart, List.pairwise_singleton _ _, fun q hq s hs j h1 h2 => ?_⟩
    rw [List.mem_singleton] at hs
    subst hs
    have h3 := ((h.row q hq).lt j h1).2
    injection h2 with h2
    subst h2
    exact absurd h3 (Nat.lt_irrefl _)
/-- What a call returns that makes a fan. -/
def fanRet (w : World) (s : ByteArray) (a : Int) (cs : List (List Int)) (code : Int) (e : Ending) (w' : World) : Prop :=
  ∃ A n c rs, e = .returned (.tuple #[.agg #[.string s, .int .i64 a, .slice A n c], .int .i64 code]) ∧ OSS w' w.heap.size A n c rs ∧ dat rs = cs ∧ n ≤ 1048576 ∧ (∀ r ∈ rs, r.n ≤ 1048576) ∧ tot rs ≤ 1048576 ∧ Below w.heap.size w w'
theorem fanRet_no {w w' : World} {code : Int} (h : Below w.heap.size w w') : fanRet w ByteArray.empty 0 [] code (.returned (.tuple #[.agg #[.string ByteArray.empty, .int .i64 0, .slice none 0 0], .int .i64 code])) w' :=
  ⟨none, 0, 0, [], rfl, OSS.nil _ _, rfl, by omega, fun r h => by simp at h, by simp [tot], h⟩
def okS (code : Int) (s : ByteArray) : ByteArray := if code = 0 then s else ByteArray.empty
def okA (code a : Int) : Int := if code = 0 then a else 0
def okC (code : Int) (cs : List (List Int)) : List (List Int) := if code = 0 then cs else []
theorem tot_two : ∀ {rs : List Row}, (∀ r ∈ rs, r.n = 2) → tot rs = 2 * rs.length
  | [], _ => rfl
  | r :: t, h => by
    have h1 := tot_two (rs := t) fun q hq => h q (List.mem_cons_of_mem _ hq)
    have h2 := h r (List.mem_cons_self ..)
    simp only [tot, List.length_cons]
    rw [h1, h2]; omega
/-- Points made so far: their rows, in the call's own memory. -/
structure Made (w : World) (lo : Nat) (A : Option Addr) (k c : Nat) (cs : List (List Int)) (rs : List Row) : Prop where
  oss : OSS w lo A k c rs
  dat : dat rs = cs
  two : ∀ r ∈ rs, r.n = 2
theorem Made.len {w : World} {lo k c : Nat} {A : Option Addr} {cs : List (List Int)} {rs : List Row} (h : Made w lo A k c cs rs) : cs.length = k := by rw [← h.dat, dat_len]; exact h.oss.reads.len
theorem Made.below {w w' : World} {lo k c : Nat} {A : Option Addr} {cs : List (List Int)} {rs : List Row} (h : Made w lo A k c cs rs) (hb : Below w.heap.size w w') : Made w' lo A k c cs rs := ⟨h.oss.below hb, h.dat, h.two⟩
theorem Made.app {w w6 : World} {lo k c c' : Nat} {A A' : Option Addr} {cs : List (List Int)} {rs : List Row} (x y : Int) (h : Made w lo A k c cs rs) (hlo : lo ≤ w.heap.size)
    (ho : w6.ownsRow lo 53 1 (.slice A' (k + 1) c') (k + 1) (rowsV rs ++ [.slice (some ⟨w.heap.size, 0, none⟩) 2 2]))
    (hg : ((w.alloc (.cells #[.int .i64 x, .int .i64 y] 2)).alloc (.cells #[.slice (some ⟨w.heap.size, 0, none⟩) 2 2] 53)).grownBy w6 (Value.ownBlock (.slice A k c))) :
    Made w6 lo A' (k + 1) c' (cs ++ [[x, y]]) (rs ++ [⟨some ⟨w.heap.size, 0, none⟩, 2, 2, [x, y]⟩]) := by
  refine ⟨oss_app x y h.oss hlo ho hg, by rw [← h.dat]; simp [Go.Proofs.Ytapophggndlhaaa.dat], fun r hr => ?_⟩
  rcases List.mem_append.1 hr with hr | hr
  · exact h.two r hr
  · rw [List.mem_singleton] at hr; subst hr; rfl
theorem Made.ret {w w' : World} {A : Option Addr} {k c : Nat} {cs : List (List Int)} {rs : List Row} {s : ByteArray} {a : Int} (h : Made w' w.heap.size A k c cs rs) (hk : k ≤ 1000) (hb : Below w.heap.size w w') :
    fanRet w s a cs 0 (.returned (.tuple #[.agg #[.string s, .int .i64 a, .slice A k c], .int .i64 0])) w' := by
  have hl := h.oss.reads.len
  exact ⟨A, k, c, rs, rfl, h.oss, h.dat, by omega, fun r hr => by rw [h.two r hr]; omega, by rw [tot_two h.two]; omega, hb⟩
def spTo (cs : List (List Int)) (num den : Int) (k : Nat) : List (List Int) := (List.range k).map fun i => [lockA cs i * num / den, lockB cs i * num * num / (den * den)]
theorem spTo_succ (cs : List (List Int)) (num den : Int) (k : Nat) : spTo cs num den (k + 1) = spTo cs num den k ++ [[lockA cs k * num / den, lockB cs k * num * num / (den * den)]] := by
  unfold spTo; rw [List.range_succ, List.map_append]; rfl
def spC (cs : List (List Int)) (num den : Int) : List (List Int) := spTo cs num den cs.length
def spCode (s : ByteArray) (a : Int) (cs : List (List Int)) (num den : Int) : Int :=
  if fanOk s a cs = true then (if inB num 1 100 = true ∧ inB den 1 100 = true then (if fanOk s a (spC cs num den) = true then 0 else 6) else 2) else 1
theorem sp_nums {x y num den : Int} (hx : 0 ≤ x ∧ x ≤ 100000) (hy : 0 ≤ y ∧ y ≤ 10000) (hn : 1 ≤ num ∧ num ≤ 100) (hd : 1 ≤ den ∧ den ≤ 100) :
    (0 ≤ x * num ∧ x * num ≤ 10000000) ∧ (0 ≤ y * num ∧ y * num ≤ 1000000) ∧ (0 ≤ y * num * num ∧ y * num * num ≤ 100000000) ∧ (1 ≤ den * den ∧ den * den ≤ 10000) := by
  have h1 := mul_pos_bnd (M := 10000000) hx.1 hx.2 (show 0 ≤ num by omega) hn.2 (by omega)
  have h2 := mul_pos_bnd (M := 1000000) hy.1 hy.2 (show 0 ≤ num by omega) hn.2 (by omega)
  have h3 := mul_pos_bnd (M := 100000000) h2.1 h2.2 (show 0 ≤ num by omega) hn.2 (by omega)
  have h4 := mul_pos_bnd (M := 10000) (show 0 ≤ den by omega) hd.2 (show 0 ≤ den by omega) hd.2 (by omega)
  have h5 : 1 * 1 ≤ den * den := Int.mul_le_mul hd.1 hd.1 (by omega) (by omega)
  exact ⟨h1, h2, h3, by omega, h4.2⟩
theorem tdiv_in {a b m : Int} (ha : 0 ≤ a) (hb : 0 < b) (h : a ≤ m) (hm : m ≤ 1000000000) : a.tdiv b = a / b ∧ IntKind.i64.wrap (a / b) = a / b := by
  have h1 := ediv_bounds ha hb h
  exact ⟨Int.tdiv_eq_ediv_of_nonneg ha, IntWalk.i64_in _ (by omega)⟩
theorem cells_new2 (w : World) (o : Obj) (a : Array Value) (t : TypeId) : Cells ((w.alloc o).alloc (.cells a t)).drew ⟨w.heap.size + 1, 0, none⟩ a.toList := by
  have h := Cells.new (w.alloc o) a t
  rw [show (w.alloc o).heap.size = w.heap.size + 1 by simp] at h
  exact h
theorem below_new2 (w : World) (o o' : Obj) : Below w.heap.size w ((w.alloc o).alloc o').drew := below_drew (((Below.refl _ _).alloc (Nat.le_refl _) _).alloc (by simp) _)
theorem l06Done_ok (s : ByteArray) (a : Int) (A : Option Addr) (n c : Nat) (rs : List Row) (p : Addr) (w : World) (hs : s.size ≤ maxLen) (hr : RSS w w.heap.size A n rs) (hn : n ≤ 1048576) (hrn : ∀ r ∈ rs, r.n ≤ 1048576) (h0 : w.cell? p = some (.string s)) (h1 : w.cell? ⟨p.block, p.off + 1, none⟩ = some (.int .i64 a)) (hok : fanOk s a (dat rs) = true) :
    Calls Try.prog 38 #[.pointer (some p), .slice A n c] w fun e w' => e = .returned (.tuple #[.agg #[.string s, .int .i64 a, .slice A n c], .int .i64 0]) ∧ Below w.heap.size w w' := by
  have h8 : n ≤ 8 := by have h := (crvOk_t (fanOk_t hok).2.2).2.1; have h2 := dat_len rs; have h3 := hr.len; omega
  have HC : Hid (∀ (W : World) (q : Addr), Below w.heap.size w W → Cells W q [.string s, .int .i64 a, .slice A n c] → Calls Try.prog 36 #[.pointer (some q)] W fun e w' => e = .returned (.bool true) ∧ Below W.heap.size W w') :=
    fun W q hb hc => hok ▸ l06Ok_any s a A n c rs q W hs ((hr.below hb).more hb.size) hn hrn hc
  clear hok hrn
  go_enter Try.func38, Try.ntmps38
  go_wp2
  go_region_held3 (fun w' => w'.cell? p = some (.string s) ∧ w'.cell? ⟨p.block, p.off + 1, none⟩ = some (.int .i64 a)) (go_keep) (fail)
  go_wp2_with fail; ((with_reducible refine (HC.out _ _ (below_new2 w _ _) (cells_new2 w _ #[.string s, .int .i64 a, .slice A n c] _)).mono ?_); rintro e w1 ⟨rfl, hb1⟩)
  obtain ⟨hc1, hf1⟩ := bcell hb1
  have zz : w.heap.size + 2 ≤ w1.heap.size := by have h := hb1.size; simp at h; omega
  have z0 : w.heap.size < w1.heap.size := by omega
  have z1 : w.heap.size + 1 < w1.heap.size := by omega
  have B1 : Below w.heap.size w w1 := (below_new2 w _ _).trans (hb1.mono (by simp; omega))
  have K1 := ((Blk.new w 26 #[.string ByteArray.empty, .int .i64 0, .slice none 0 0]).alloc (.cells #[.string s, .int .i64 a, .slice A n c] 26)).drew.below hb1 (by simp; omega)
  have e0 := K1.cell 0
  have e1 := K1.cell 1
  have e2 := K1.cell 2
  go_wp2
  refine bodyPost_ret (v := .tuple #[.agg #[.string s, .int .i64 a, .slice A n c], .int .i64 0]) (by simp [results, Try.results38, go_sem, hc1, z0, z1, e0, e1, e2] <;> rfl) rfl ⟨rfl, ?_⟩
  repeat (first | exact B1 | (refine Below.setCell ?_ (by first | (simp; done) | (simp; omega)) _))
theorem l06Done_bad (s : ByteArray) (a : Int) (A : Option Addr) (n c : Nat) (rs : List Row) (p : Addr) (w : World) (hs : s.size ≤ maxLen) (hr : RSS w w.heap.size A n rs) (hn : n ≤ 1048576) (hrn : ∀ r ∈ rs, r.n ≤ 1048576) (h0 : w.cell? p = some (.string s)) (h1 : w.cell? ⟨p.block, p.off + 1, none⟩ = some (.int .i64 a)) (h8 : n ≤ 8) (hok : fanOk s a (dat rs) = false) :
    Calls Try.prog 38 #[.pointer (some p), .slice A n c] w fun e w' => e = .returned (.tuple #[.agg #[.string ByteArray.empty, .int .i64 0, .slice none 0 0], .int .i64 6]) ∧ Below w.heap.size w w' := by
  have HC : Hid (∀ (W : World) (q : Addr), Below w.heap.size w W → Cells W q [.string s, .int .i64 a, .slice A n c] → Calls Try.prog 36 #[.pointer (some q)] W fun e w' => e = .returned (.bool false) ∧ Below W.heap.size W w') :=
    fun W q hb hc => hok ▸ l06Ok_any s a A n c rs q W hs ((hr.below hb).more hb.size) hn hrn hc
  clear hok hrn
  go_enter Try.func38, Try.ntmps38
  go_wp2
  go_region_held3 (fun w' => w'.cell? p = some (.string s) ∧ w'.cell? ⟨p.block, p.off + 1, none⟩ = some (.int .i64 a)) (go_keep) (fail)
  go_wp2_with fail; ((with_reducible refine (HC.out _ _ (below_new2 w _ _) (cells_new2 w _ #[.string s, .int .i64 a, .slice A n c] _)).mono ?_); rintro e w1 ⟨rfl, hb1⟩)
  obtain ⟨hc1, hf1⟩ := bcell hb1
  have zz : w.heap.size + 2 ≤ w1.heap.size := by have h := hb1.size; simp at h; omega
  have z0 : w.heap.size < w1.heap.size := by omega
  have z1 : w.heap.size + 1 < w1.heap.size := by omega
  have B1 : Below w.heap.size w w1 := (below_new2 w _ _).trans (hb1.mono (by simp; omega))
  have K1 := ((Blk.new w 26 #[.string ByteArray.empty, .int .i64 0, .slice none 0 0]).alloc (.cells #[.string s, .int .i64 a, .slice A n c] 26)).drew.below hb1 (by simp; omega)
  have e0 := K1.cell 0
  have e1 := K1.cell 1
  have e2 := K1.cell 2
  go_wp2
  refine bodyPost_ret (v := .tuple #[.agg #[.string ByteArray.empty, .int .i64 0, .slice none 0 0], .int .i64 6]) (by simp [results, Try.results38, go_sem, hc1, z0, z1, e0, e1, e2] <;> rfl) rfl ⟨rfl, ?_⟩
  repeat (first | exact B1 | (refine Below.setCell ?_ (by first | (simp; done) | (simp; omega)) _))
end Go.Proofs.Ytapophggndlhaaa
