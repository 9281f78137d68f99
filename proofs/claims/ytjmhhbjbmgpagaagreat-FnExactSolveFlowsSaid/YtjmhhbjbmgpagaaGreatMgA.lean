/- Several texts in one: Pl Mem Num Nb Root Nbt Copy Frame Slc Nest Rec. -/
import Derived.Below
import Derived.Laws.OwnMore
import Derived.Deep.AppendLies
import Derived.Deep.Draws
import Derived.Deep.OwnRows
import Derived.Laws.Rows
import Derived.Maps.AppendAt
import Derived.RegionTactic
import Derived.OwnWalk
import Derived.Test.YtjmhhbjbmgpagaaGreatRows
import Derived.WalkKit
import Derived.WalkSpells
import Derived.WalkLawsBesides
import Derived.Deep.QuietTactic
import Derived.BigQuiet
import Derived.Lib.Hide
import Derived.StillTail
import Derived.Deep.Quiet
import Derived.ProofKit
import Derived.OpenShut
import Derived.Carry
import Derived.Deep.Grids
import Derived.Deep.Fields
import Derived.Lib.SmallJoins
import Derived.Shelf.Abstract
import Derived.StillTailTactics
import Derived.Deep.RegionHeld3
import Derived.Deep.RegionWith
import Derived.Laws.BytesArg
/- Plain lemmas on whole numbers and lists; nothing of the program is named here. -/
namespace Go.Proofs.YtjmhhbjbmgpagaaGreat
set_option linter.unusedVariables false
set_option linter.unusedSimpArgs false
theorem ediv_eq {a b k : Int} (hb : 0 < b) (h1 : b * k ≤ a) (h2 : a < b * k + b) : a / b = k :=
  ((Int.ediv_emod_unique (a := a) (b := b) (q := k) (r := a - b * k) hb).2 ⟨by omega, by omega, by omega⟩).1

def absI (n : Int) : Int := n.natAbs
theorem absI_nonneg (n : Int) : 0 ≤ absI n := by unfold absI; omega
theorem absI_le {n b : Int} (h1 : -b ≤ n) (h2 : n ≤ b) : absI n ≤ b := by unfold absI; omega
def inB (n l h : Int) : Bool := decide (l ≤ n ∧ n ≤ h)
theorem inB_t {n l h : Int} (e : inB n l h = true) : l ≤ n ∧ n ≤ h := of_decide_eq_true e
theorem inB_f {n l h : Int} (e : inB n l h = false) : ¬ (l ≤ n ∧ n ≤ h) := of_decide_eq_false e
/-- The nearest quotient, halves away from 0. -/
def dr (a b : Int) : Int := if a < 0 then -((b - 2 * a) / (2 * b)) else (2 * a + b) / (2 * b)

theorem two_mul_mul (b k : Int) : 2 * b * k = 2 * (b * k) := by rw [Int.mul_assoc]

theorem tmod_nonpos {a b : Int} (ha : a ≤ 0) : a.tmod b ≤ 0 := by
  have h1 := Int.tmod_nonneg b (show 0 ≤ -a by omega)
  rw [Int.neg_tmod] at h1; omega

theorem dr_up {a b : Int} (hb : 0 < b) (ha : 0 ≤ a) (h : b - absI (a.tmod b) ≤ absI (a.tmod b)) : dr a b = a.tdiv b + 1 := by
  have e := Int.mul_tdiv_add_tmod a b
  have r1 := Int.tmod_lt_of_pos a hb
  have r0 := Int.tmod_nonneg b ha
  unfold dr; rw [if_neg (by omega)]
  unfold absI at h
  generalize a.tmod b = r at *
  generalize a.tdiv b = q at *
  apply ediv_eq (by omega)
  · rw [two_mul_mul, Int.mul_add]; omega
  · rw [two_mul_mul, Int.mul_add]; omega
theorem dr_down {a b : Int} (hb : 0 < b) (ha : a < 0) (h : b - absI (a.tmod b) ≤ absI (a.tmod b)) : dr a b = a.tdiv b - 1 := by
  have e := Int.mul_tdiv_add_tmod a b
  have r1 := Int.lt_tmod_of_pos a hb
  have r0 : a.tmod b ≤ 0 := tmod_nonpos (by omega)
  unfold dr; rw [if_pos ha]
  unfold absI at h
  generalize a.tmod b = r at *
  generalize a.tdiv b = q at *
  have : (b - 2 * a) / (2 * b) = -q + 1 := by
    apply ediv_eq (by omega)
    · rw [two_mul_mul, Int.mul_add, Int.mul_neg]; omega
    · rw [two_mul_mul, Int.mul_add, Int.mul_neg]; omega
  omega
theorem dr_near {a b : Int} (hb : 0 < b) (h : absI (a.tmod b) < b - absI (a.tmod b)) : dr a b = a.tdiv b := by
  have e := Int.mul_tdiv_add_tmod a b
  have r1 := Int.lt_tmod_of_pos a hb
  have r2 := Int.tmod_lt_of_pos a hb
  unfold absI at h
  by_cases ha : a < 0
  · unfold dr; rw [if_pos ha]
    have r0 : a.tmod b ≤ 0 := tmod_nonpos (by omega)
    generalize a.tmod b = r at *
    generalize a.tdiv b = q at *
    have : (b - 2 * a) / (2 * b) = -q := by
      apply ediv_eq (by omega)
      · rw [two_mul_mul, Int.mul_neg]; omega
      · rw [two_mul_mul, Int.mul_neg]; omega
    omega
  · unfold dr; rw [if_neg ha]
    have r0 := Int.tmod_nonneg b (show 0 ≤ a by omega)
    generalize a.tmod b = r at *
    generalize a.tdiv b = q at *
    apply ediv_eq (by omega)
    · rw [two_mul_mul]; omega
    · rw [two_mul_mul]; omega
theorem tdiv_bounds {a b m : Int} (hb : 0 < b) (h1 : -m ≤ a) (h2 : a ≤ m) : -m ≤ a.tdiv b ∧ a.tdiv b ≤ m := by
  have h := Int.natAbs_tdiv_le_natAbs a b
  omega
/-- A quotient of a number that is not below 0 is no greater. -/
theorem ediv_bounds {a b m : Int} (ha : 0 ≤ a) (hb : 0 < b) (h : a ≤ m) : 0 ≤ a / b ∧ a / b ≤ m := by
  refine ⟨Int.ediv_nonneg ha (by omega), Int.le_trans (Int.ediv_le_self b ha) h⟩
theorem mul_bnd {x y X Y M : Int} (h1 : -X ≤ x) (h2 : x ≤ X) (h3 : -Y ≤ y) (h4 : y ≤ Y) (hM : X * Y ≤ M) : -M ≤ x * y ∧ x * y ≤ M := by
  have hX : x.natAbs ≤ X.natAbs := by omega
  have hY : y.natAbs ≤ Y.natAbs := by omega
  have hX0 : 0 ≤ X := by omega
  have hY0 : 0 ≤ Y := by omega
  have h := Nat.mul_le_mul hX hY
  rw [← Int.natAbs_mul, ← Int.natAbs_mul] at h
  have hXY : 0 ≤ X * Y := Int.mul_nonneg hX0 hY0
  omega
theorem mul_pos_bnd {x y X Y M : Int} (h1 : 0 ≤ x) (h2 : x ≤ X) (h3 : 0 ≤ y) (h4 : y ≤ Y) (hM : X * Y ≤ M) : 0 ≤ x * y ∧ x * y ≤ M :=
  ⟨Int.mul_nonneg h1 h3, (mul_bnd (by omega) h2 (by omega) h4 hM).2⟩
theorem dr_nonneg {a b : Int} (ha : 0 ≤ a) (hb : 0 < b) : 0 ≤ dr a b := by
  unfold dr; rw [if_neg (by omega)]
  exact Int.ediv_nonneg (by omega) (by omega)
theorem half_le {a b : Int} (ha : 0 ≤ a) (hb : 0 < b) : (2 * a + b) / (2 * b) ≤ a := by
  apply Int.le_of_lt_add_one
  apply Int.ediv_lt_of_lt_mul (by omega)
  have h : a * 1 ≤ a * b := Int.mul_le_mul_of_nonneg_left (by omega) ha
  have e : (a + 1) * (2 * b) = 2 * (a * b) + 2 * b := by
    rw [Int.add_mul, Int.one_mul, Int.mul_left_comm]
  rw [e]; omega
theorem dr_bnd {a b m : Int} (hb : 0 < b) (h1 : -m ≤ a) (h2 : a ≤ m) : -m ≤ dr a b ∧ dr a b ≤ m := by
  by_cases ha : a < 0
  · have h := half_le (a := -a) (by omega) hb
    have h0 := Int.ediv_nonneg (a := 2 * (-a) + b) (b := 2 * b) (by omega) (by omega)
    have e : dr a b = -((2 * (-a) + b) / (2 * b)) := by
      unfold dr; rw [if_pos ha]
      have e2 : b - 2 * a = 2 * (-a) + b := by omega
      rw [e2]
    omega
  · have h := half_le (a := a) (by omega) hb
    have h0 := Int.ediv_nonneg (a := 2 * a + b) (b := 2 * b) (by omega) (by omega)
    have e : dr a b = (2 * a + b) / (2 * b) := by unfold dr; rw [if_neg ha]
    omega
theorem dr_scale {a b m : Int} (hb : 0 < b) (h1 : -(m * b) ≤ a) (h2 : a ≤ m * b) : -m ≤ dr a b ∧ dr a b ≤ m := by
  have key : ∀ x : Int, x ≤ m * b → (2 * x + b) / (2 * b) ≤ m := by
    intro x hx
    apply Int.le_of_lt_add_one
    apply Int.ediv_lt_of_lt_mul (by omega)
    have e : (m + 1) * (2 * b) = 2 * (m * b) + 2 * b := by rw [Int.add_mul, Int.one_mul, Int.mul_left_comm]
    rw [e]; omega
  by_cases ha : a < 0
  · have h := key (-a) (by omega)
    have h0 := Int.ediv_nonneg (a := 2 * (-a) + b) (b := 2 * b) (by omega) (by omega)
    have e : dr a b = -((2 * (-a) + b) / (2 * b)) := by
      unfold dr; rw [if_pos ha]
      have e2 : b - 2 * a = 2 * (-a) + b := by omega
      rw [e2]
    omega
  · have h := key a h2
    have h0 := Int.ediv_nonneg (a := 2 * a + b) (b := 2 * b) (by omega) (by omega)
    have e : dr a b = (2 * a + b) / (2 * b) := by unfold dr; rw [if_neg ha]
    omega
/-- All of the first n places meet p. -/
def allUpto (n : Nat) (p : Nat → Bool) : Bool := (List.range n).all p
theorem allUpto_t {n : Nat} {p : Nat → Bool} (h : ∀ k, k < n → p k = true) : allUpto n p = true := by
  unfold allUpto; rw [List.all_eq_true]; intro k hk; exact h k (List.mem_range.1 hk)
theorem allUpto_f {n k : Nat} {p : Nat → Bool} (hk : k < n) (h : p k = false) : allUpto n p = false := by
  unfold allUpto; rw [List.all_eq_false]; exact ⟨k, List.mem_range.2 hk, by rw [h]; exact Bool.false_ne_true⟩
theorem allUpto_get {n k : Nat} {p : Nat → Bool} (h : allUpto n p = true) (hk : k < n) : p k = true := by
  unfold allUpto at h; rw [List.all_eq_true] at h; exact h k (List.mem_range.2 hk)
def nameB (c : UInt8) : Bool := inB c.toNat 97 122 || inB c.toNat 48 57
def isName (s : ByteArray) : Bool := decide (1 ≤ s.size ∧ s.size ≤ 10) && inB (s[0]!).toNat 97 122 && allUpto s.size fun k => nameB s[k]!
theorem isName_len {s : ByteArray} (h : ¬ (1 ≤ s.size ∧ s.size ≤ 10)) : isName s = false := by
  unfold isName; rw [decide_eq_false h]; rfl
theorem isName_head {s : ByteArray} (h : inB (s[0]!).toNat 97 122 = false) : isName s = false := by
  unfold isName; rw [h]; simp
theorem isName_rest {s : ByteArray} (h : 1 ≤ s.size ∧ s.size ≤ 10) (h1 : inB (s[0]!).toNat 97 122 = true) : isName s = allUpto s.size fun k => nameB s[k]! := by
  unfold isName; rw [h1, decide_eq_true h]; simp
theorem isName_size {s : ByteArray} (h : isName s = true) : 1 ≤ s.size ∧ s.size ≤ 10 := by
  unfold isName at h
  simp only [Bool.and_eq_true, decide_eq_true_eq] at h
  exact h.1.1
theorem byte_at {s : ByteArray} {k : Nat} (h : k < s.size) : s[k]! = s[k] := getElem!_pos s k h
end Go.Proofs.YtjmhhbjbmgpagaaGreat

/- Words for memory: a slice that reads as a list, a block that is known whole, an append onto a row of the call's own (as the guide's page of words lays them). -/
namespace Go.Proofs.YtjmhhbjbmgpagaaGreat
set_option linter.unusedVariables false
set_option linter.unusedSimpArgs false
open Go.RowKit
theorem block_of_add (a : Addr) (n : Nat) : (a.add n).block = a.block := by unfold Addr.add; split <;> rfl
theorem add_of_add (a : Addr) (i j : Nat) : (a.add i).add j = a.add (i + j) := by
  unfold Addr.add
  by_cases hi : i = 0 <;> by_cases hj : j = 0 <;> simp [hi, hj, Nat.add_assoc]

def Reads (w : World) (B size : Nat) (A : Option Addr) (n : Nat) (xs : List Value) : Prop :=
  xs.length = n * size ∧ (0 < n → ∃ ad, A = some ad ∧ ad.block < B ∧ ∀ j u, xs[j]? = some u → w.cell? (ad.add j) = some u)

section
variable {w w' : World} {B B' size n : Nat} {A : Option Addr} {xs : List Value}
theorem Reads.none_ : Reads w B size A 0 [] := ⟨by simp, fun h => absurd h (by omega)⟩
theorem Reads.at_ {k : Nat} (h : Reads w B 1 A n xs) (hk : k < n) : ∃ ad u, A = some ad ∧ ad.block < B ∧ xs[k]? = some u ∧ w.cell? (ad.add k) = some u := by
  obtain ⟨ad, e, hb, hc⟩ := h.2 (by omega)
  have hl : k < xs.length := by have := h.1; omega
  exact ⟨ad, xs[k], e, hb, List.getElem?_eq_getElem hl, hc k _ (List.getElem?_eq_getElem hl)⟩
theorem Reads.keep (h : Reads w B size A n xs) (hk : ∀ p : Addr, p.block < B → w'.cell? p = w.cell? p) : Reads w' B size A n xs :=
  ⟨h.1, fun hn => by
    obtain ⟨ad, e, hb, hc⟩ := h.2 hn
    exact ⟨ad, e, hb, fun j u hu => (hk _ (by rw [block_of_add]; exact hb)).trans (hc j u hu)⟩⟩
theorem Reads.more (h : Reads w B size A n xs) (hB : B ≤ B') : Reads w B' size A n xs :=
  ⟨h.1, fun hn => by
    obtain ⟨ad, e, hb, hc⟩ := h.2 hn
    exact ⟨ad, e, by omega, hc⟩⟩
theorem Reads.below (h : Reads w B size A n xs) (hb : Below B w w') : Reads w' B size A n xs := h.keep fun _ hp => hb.cell hp
theorem Reads.drew (h : Reads w B size A n xs) : Reads w.drew B size A n xs := h
theorem Reads.drewN (h : Reads w B size A n xs) (k : Nat) : Reads (w.drewN k) B size A n xs := h
theorem Reads.alloc (h : Reads w B size A n xs) (hB : B ≤ w.heap.size) (o : Obj) : Reads (w.alloc o) B size A n xs := h.keep fun p hp => World.cell?_alloc_lt w o p (by omega)
theorem Reads.setCell (h : Reads w B size A n xs) {p : Addr} (hB : B ≤ p.block) (u : Value) : Reads (w.setCell p u) B size A n xs :=
  h.keep fun q hq => World.cell?_setCell_other w p q u (fun e => by subst e; omega)
theorem Reads.grown (h : Reads w B size A n xs) {row : Option Nat} (hg : w.grownBy w' row) (hB : B ≤ w.heap.size) (hr : ∀ g, row = some g → B ≤ g) : Reads w' B size A n xs :=
  h.keep fun p hp => World.cell?_of_block (hg.block p.block (by omega) (fun e => by have := hr _ e.symm; omega))
theorem Reads.cut (h : Reads w B size A n xs) {k cap : Nat} (hk : k ≤ n) (hc : n ≤ cap) :
    Reads w B size (if cap = k then A else A.map (·.add (k * size))) (n - k) (xs.drop (k * size)) := by
  refine ⟨by rw [List.length_drop, h.1, Nat.sub_mul], fun hn => ?_⟩
  obtain ⟨ad, rfl, hb, hcell⟩ := h.2 (by omega)
  rw [if_neg (by omega)]
  refine ⟨ad.add (k * size), rfl, by rw [block_of_add]; exact hb, fun j u hu => ?_⟩
  rw [add_of_add]
  exact hcell _ u (by rw [← hu, List.getElem?_drop])
theorem Reads.of_own {base : Nat} {e : TypeId} {c : Nat} (h : w.ownsRow base e size (.slice A n c) n xs) : Reads w w.heap.size size A n xs := by
  refine ⟨h.1, fun hn => ?_⟩
  obtain ⟨g, cap, hv, _, hlt⟩ := h.form hn
  have hA : A = some ⟨g, 0, none⟩ := by injection hv
  subst hA
  exact ⟨_, rfl, hlt, h.cells (g := g) rfl⟩
end
def Blk (w : World) (g : Nat) (t : TypeId) (cs : Array Value) : Prop := w.heap[g]? = some (.cells cs t (0, 0))

section
variable {w w' : World} {g : Nat} {t : TypeId} {cs : Array Value}
theorem Blk.lt (h : Blk w g t cs) : g < w.heap.size := by
  rcases Nat.lt_or_ge g w.heap.size with hlt | hge
  · exact hlt
  · unfold Blk at h; rw [Array.getElem?_eq_none hge] at h; cases h
theorem Blk.cell (h : Blk w g t cs) (i : Nat) : w.cell? ⟨g, i, none⟩ = cs[i]? := cell_of_row w g i cs t (0, 0) h
theorem Blk.frozen (h : Blk w g t cs) (i : Nat) : w.frozen? ⟨g, i, none⟩ = false := by
  unfold Blk at h
  simp [World.frozen?, h]
theorem Blk.new (w : World) (t : TypeId) (cs : Array Value) : Blk (w.alloc (.cells cs t)) w.heap.size t cs := heap_alloc_new w _
theorem Blk.drew (h : Blk w g t cs) : Blk w.drew g t cs := h
theorem Blk.drewN (h : Blk w g t cs) (n : Nat) : Blk (w.drewN n) g t cs := h
theorem Blk.alloc (h : Blk w g t cs) (o : Obj) : Blk (w.alloc o) g t cs := (Below.heap_alloc w o g h.lt).trans h
theorem Blk.set_ (h : Blk w g t cs) (i : Nat) (u : Value) : Blk (w.setCell ⟨g, i, none⟩ u) g t (cs.setIfInBounds i u) := by
  unfold Blk at h ⊢
  simp [World.setCell, Array.getElem?_modify, h]
theorem Blk.far (h : Blk w g t cs) {p : Addr} (hp : g ≠ p.block) (u : Value) : Blk (w.setCell p u) g t cs := (Below.heap_setCell w p u g hp).trans h
theorem Blk.below {B : Nat} (h : Blk w g t cs) (hb : Below B w w') (hg : g < B) : Blk w' g t cs := (hb.block g hg).trans h
theorem Blk.grown {row : Option Nat} (h : Blk w g t cs) (hb : w.grownBy w' row) (hg : some g ≠ row) : Blk w' g t cs := (hb.block g h.lt hg).trans h
theorem Blk.ne_ {g' : Nat} {t' : TypeId} {cs' : Array Value} (h : Blk w g t cs) (h' : Blk w g' t' cs') (hne : t ≠ t') : g ≠ g' := by
  rintro rfl
  unfold Blk at h h'
  rw [h] at h'
  injection h' with h'
  injection h' with _ ht
  exact hne ht
theorem own_blk_ne {base : Nat} {e : TypeId} {size n : Nat} {v : Value} {xs : List Value} (h : w.ownsRow base e size v n xs) (hg : Blk w g t cs) (hne : e ≠ t) : v.ownBlock ≠ some g := by
  rcases h.2 with ⟨rfl, _⟩ | ⟨g', cap, cur, rfl, _, hh, _⟩
  · simp [Value.ownBlock]
  · intro he
    have : g' = g := by simpa [Value.ownBlock] using he
    subst this
    exact Blk.ne_ (t := e) hh hg hne rfl
end
section
variable {P : Program} (w : World)

theorem run_append_of_nil (base : Nat) (t ty e : TypeId) (i : TypeInfo) (size : Nat) (ht : P.underlying t = some (.slice e)) (hi : P.info? e = some i)
    (v : Value) (n : Nat) (xs : List Value) (hown : w.ownsRow base e size v n xs) (c : Nat) : (Builtin.append_ #[t, t] ty #[v, .slice none 0 c]).run P w = .ok v w := by
  rcases hown.2 with ⟨rfl, rfl⟩ | ⟨g, cap, cur, rfl, _, _, hnc, _⟩
  · simp [Builtin.append_, run_underlying ht, sizeOf, typeInfo, hi, Builtin.lenOf, Builtin.firstCells]
  · simp [Builtin.append_, run_underlying ht, sizeOf, typeInfo, hi, Builtin.lenOf, Builtin.firstCells, hnc, storeCells]

theorem run_append_any (base : Nat) (t ty e : TypeId) (i : TypeInfo) (z : Value) (size bytes : Nat) (ht : P.underlying t = some (.slice e)) (hi : P.info? e = some i) (hz : i.zero = some z)
    (hsize : i.size = size) (hby : i.bytes = bytes) (hzs : z.cells.size = size) (hsz : 0 < size)
    (v : Value) (n : Nat) (xs : List Value) (hown : w.ownsRow base e size v n xs)
    (B : Nat) (A : Option Addr) (m c : Nat) (news : List Value) (hr : Reads w B size A m news) (h1 : ∀ u ∈ news, u.oneCell' = true)
    (h63 : n + m ≤ maxLen) (hbytes : (n + m) * bytes ≤ 140737488355328) (hbase : base ≤ w.heap.size) :
    ∃ v' w', (Builtin.append_ #[t, t] ty #[v, .slice A m c]).run P w = .ok v' w' ∧ w'.ownsRow base e size v' (n + m) (xs ++ news) ∧ w.grownBy w' v.ownBlock ∧
      (v'.ownBlock = v.ownBlock ∨ v'.ownBlock = some w.heap.size) := by
  rcases A with _ | ad
  · have hm : m = 0 := by
      rcases Nat.eq_zero_or_pos m with h0 | h0
      · exact h0
      · obtain ⟨ad, h, _⟩ := hr.2 h0
        cases h
    subst hm
    have hn : news = [] := List.eq_nil_of_length_eq_zero (by simpa using hr.1)
    subst hn
    exact ⟨v, w, run_append_of_nil w base t ty e i size ht hi v n xs hown c, by simpa using hown, World.grownBy.refl w _, .inl rfl⟩
  · have hcells : ∀ j u, news[j]? = some u → w.cell? (ad.add j) = some u := by
      intro j u hu
      rcases Nat.eq_zero_or_pos m with h0 | h0
      · subst h0
        have hn : news = [] := List.eq_nil_of_length_eq_zero (by simpa using hr.1)
        subst hn
        simp at hu
      · obtain ⟨ad', h, _, hc⟩ := hr.2 h0
        injection h with h
        subst h
        exact hc j u hu
    obtain ⟨v', w', hrun, h2, h3, _, h5⟩ := run_append_own_at (P := P) w base t ty e i z size bytes ht hi hz hsize hby hzs hsz v n xs hown ad m c news hr.1 hcells h1 h63 hbytes hbase
    exact ⟨v', w', hrun, h2, h3, h5⟩

theorem wp_append_any {o : Oper} {a : Act} {K : Act → World → Prop} {Q : Exit → Act → World → Prop} (s x : Operand) (t : TypeId)
    (ho : o.op = .call { callee := .builtin .append, args := #[s, x], argTypes := #[t, t] })
    (base : Nat) (e : TypeId) (i : TypeInfo) (z : Value) (size bytes : Nat) (ht : P.underlying t = some (.slice e)) (hi : P.info? e = some i) (hz : i.zero = some z)
    (hsize : i.size = size) (hby : i.bytes = bytes) (hzs : z.cells.size = size) (hsz : 0 < size)
    (v : Value) (n : Nat) (xs : List Value) (hs : a.eval s = v) (hown : w.ownsRow base e size v n xs)
    (B : Nat) (A : Option Addr) (m c : Nat) (news : List Value) (hx : a.eval x = .slice A m c) (hr : Reads w B size A m news) (h1 : ∀ u ∈ news, u.oneCell' = true)
    (h63 : n + m ≤ maxLen) (hbytes : (n + m) * bytes ≤ 140737488355328) (hbase : base ≤ w.heap.size)
    (h : ∀ v' w', w'.ownsRow base e size v' (n + m) (xs ++ news) → w.grownBy w' v.ownBlock → (v'.ownBlock = v.ownBlock ∨ v'.ownBlock = some w.heap.size) → K (a.put o.dst v') w') : o.wp P a w K Q := by
  obtain ⟨v', w', hrun, h2, h3, h4⟩ := run_append_any (P := P) w base t o.type e i z size bytes ht hi hz hsize hby hzs hsz v n xs hown B A m c news hr h1 h63 hbytes hbase
  unfold Oper.wp execOp
  simp only [ho, resolve, invoke, builtin, Sem.run_bind, Sem.run_pure, Result.andThen_ok, List.map_toArray, List.map_cons, List.map_nil, hs, hx, hrun]
  exact h v' w' h2 h3 h4

theorem wpList_append_any {ops : Array Oper} {rest : List Oper} {o : Oper} {a : Act} {Q : Exit → Act → World → Prop} (hgd : o.guard = none) (s x : Operand) (t : TypeId)
    (ho : o.op = .call { callee := .builtin .append, args := #[s, x], argTypes := #[t, t] })
    (base : Nat) (e : TypeId) (i : TypeInfo) (z : Value) (size bytes : Nat) (ht : P.underlying t = some (.slice e)) (hi : P.info? e = some i) (hz : i.zero = some z)
    (hsize : i.size = size) (hby : i.bytes = bytes) (hzs : z.cells.size = size) (hsz : 0 < size)
    (v : Value) (n : Nat) (xs : List Value) (hs : a.eval s = v) (hown : w.ownsRow base e size v n xs)
    (B : Nat) (A : Option Addr) (m c : Nat) (news : List Value) (hx : a.eval x = .slice A m c) (hr : Reads w B size A m news) (h1 : ∀ u ∈ news, u.oneCell' = true)
    (h63 : n + m ≤ maxLen) (hbytes : (n + m) * bytes ≤ 140737488355328) (hbase : base ≤ w.heap.size)
    (h : ∀ v' w', w'.ownsRow base e size v' (n + m) (xs ++ news) → w.grownBy w' v.ownBlock → (v'.ownBlock = v.ownBlock ∨ v'.ownBlock = some w.heap.size) → wpList P ops Q rest (a.put o.dst v') w') : wpList P ops Q (o :: rest) a w :=
  wpList_plain hgd fun _ hK => wp_append_any w s x t ho base e i z size bytes ht hi hz hsize hby hzs hsz v n xs hs hown B A m c news hx hr h1 h63 hbytes hbase fun v' w' h2 h3 h4 => hK _ _ (h v' w' h2 h3 h4)

theorem step_append_any {ops : Array Oper} {o : Oper} {a : Act} {K : Act → World → Prop} {Q : Exit → Act → World → Prop} {E : Prop} (hgd : o.guard = none) (s x : Operand) (t : TypeId)
    (ho : o.op = .call { callee := .builtin .append, args := #[s, x], argTypes := #[t, t] })
    (base : Nat) (e : TypeId) (i : TypeInfo) (z : Value) (size bytes : Nat) (ht : P.underlying t = some (.slice e)) (hi : P.info? e = some i) (hz : i.zero = some z)
    (hsize : i.size = size) (hby : i.bytes = bytes) (hzs : z.cells.size = size) (hsz : 0 < size)
    (v : Value) (n : Nat) (xs : List Value) (hs : a.eval s = v) (hown : w.ownsRow base e size v n xs)
    (B : Nat) (A : Option Addr) (m c : Nat) (news : List Value) (hx : a.eval x = .slice A m c) (hr : Reads w B size A m news) (h1 : ∀ u ∈ news, u.oneCell' = true)
    (h63 : n + m ≤ maxLen) (hbytes : (n + m) * bytes ≤ 140737488355328) (hbase : base ≤ w.heap.size)
    (h : ∀ v' w', w'.ownsRow base e size v' (n + m) (xs ++ news) → w.grownBy w' v.ownBlock → (v'.ownBlock = v.ownBlock ∨ v'.ownBlock = some w.heap.size) → K (a.put o.dst v') w') :
    if Region.wanted o (yielded ops a.tmps) = true then Oper.wp P o a w K Q else E := by
  have hw : Region.wanted o (yielded ops a.tmps) = true := by simp [Region.wanted, hgd]
  rw [if_pos hw]
  exact wp_append_any w s x t ho base e i z size bytes ht hi hz hsize hby hzs hsz v n xs hs hown B A m c news hx hr h1 h63 hbytes hbase h
end
theorem below_drewN {B : Nat} {a w : World} (h : Below B a w) (n : Nat) : Below B a (w.drewN n) := ⟨h.os, h.tape, h.output, h.size, h.block⟩
theorem grown_trans {a b c : World} (h : Grown a b) (k : Grown b c) : Grown a c :=
  ⟨World.keptBut_trans h.1 k.1, fun x => (k.2.1 x).trans (h.2.1 x), Nat.le_trans h.2.2 k.2.2⟩

theorem only_drewN {a w : World} {row : Option Nat} (h : a.grownBy w row) (n : Nat) : a.grownBy (w.drewN n) row := ⟨h.os, h.tape, h.output, h.size, h.block⟩
theorem only_drew {a w : World} {row : Option Nat} (h : a.grownBy w row) : a.grownBy w.drew row := ⟨h.os, h.tape, h.output, h.size, h.block⟩
theorem only_alloc {a w : World} {row : Option Nat} (h : a.grownBy w row) (o : Obj) : a.grownBy (w.alloc o) row :=
  ⟨h.os, h.tape, h.output, Nat.le_trans h.size (by simp), fun i hi hne => (Below.heap_alloc w o i (Nat.lt_of_lt_of_le hi h.size)).trans (h.block i hi hne)⟩
theorem only_setCell {a w : World} {g : Nat} (h : a.grownBy w (some g)) {p : Addr} (hp : p.block = g ∨ a.heap.size ≤ p.block) (u : Value) : a.grownBy (w.setCell p u) (some g) :=
  ⟨h.os, h.tape, h.output, by simpa [World.setCell] using h.size, fun i hi hne => (Below.heap_setCell w p u i (by
    rintro rfl
    rcases hp with hp | hp
    · exact hne (by rw [hp])
    · omega)).trans (h.block i hi hne)⟩
theorem only_of_below {a w : World} (h : Below a.heap.size a w) (row : Option Nat) : a.grownBy w row := ⟨h.os, h.tape, h.output, h.size, fun i hi _ => h.block i hi⟩
theorem cell_new1 (W : World) (v : Value) (t : TypeId) : (W.alloc (.cells #[v] t)).cell? ⟨W.heap.size, 0, none⟩ = some v := by
  rw [(Blk.new W t #[v]).cell 0]; rfl
theorem bcell {W w1 : World} (hb : Below W.heap.size W w1) : (∀ b o, b < W.heap.size → w1.cell? ⟨b, o, none⟩ = W.cell? ⟨b, o, none⟩) ∧ (∀ b o, b < W.heap.size → w1.frozen? ⟨b, o, none⟩ = W.frozen? ⟨b, o, none⟩) :=
  ⟨fun b o h => hb.cell (p := ⟨b, o, none⟩) h, fun b o h => hb.frozen (p := ⟨b, o, none⟩) h⟩
end Go.Proofs.YtjmhhbjbmgpagaaGreat

/- Contracts of the small functions on whole numbers: bounds, absolute value, nearest quotient. -/
namespace Go.Proofs.YtjmhhbjbmgpagaaGreat
set_option linter.unusedVariables false
set_option linter.unusedSimpArgs false
open Go.RowKit
theorem ret_int {k : IntKind} {a b : Int} (h : a = b) : Ending.returned (.int k a) = .returned (.int k b) := by rw [h]
theorem ret_bool {a b : Bool} (h : a = b) : Ending.returned (.bool a) = .returned (.bool b) := by rw [h]
theorem ret_int2 {k k' : IntKind} {a b c d : Int} (h : a = b) (h' : c = d) : Ending.returned (.tuple #[.int k a, .int k' c]) = .returned (.tuple #[.int k b, .int k' d]) := by rw [h, h']

/-- A contract that says nothing of the world but some draws, met inside a quiet region. -/
theorem quietD {P : Program} {f : FuncId} {args : Array Value} {w : World} {a n : Nat} {v : Value}
    (h : Calls P f args (w.drewN n) fun e w' => e = .returned v ∧ ∃ m, w' = (w.drewN n).drewN m) : Calls P f args (w.drewN n) fun e w'' => e = .returned v ∧ ∃ m, w'' = w.drewN m :=
  Calls.quiet_of h
theorem quietS {P : Program} {f : FuncId} {args : Array Value} {w : World} {n : Nat} {v : Value}
    (h : Calls P f args (w.drewN n) fun e w' => e = .returned v ∧ w.drewN n = w') : Calls P f args (w.drewN n) fun e w'' => e = .returned v ∧ ∃ m, w'' = w.drewN m :=
  h.mono fun _ _ ⟨he, hm⟩ => ⟨he, n, hm.symm⟩
theorem abs_any (n : Int) (w : World) (h1 : -9223372036854775807 ≤ n) (h2 : n ≤ 9223372036854775807) :
    Calls Tryz.prog 41 #[.int .i64 n] w fun e w' => e = .returned (.int .i64 (absI n)) ∧ w = w' := by
  go_enter Tryz.func41, Tryz.ntmps41
  go_wp2
  all_goals
    go_ret
    exact ⟨ret_int (by unfold absI; omega), rfl⟩
theorem within_any (n l h : Int) (w : World) :
    Calls Tryz.prog 33 #[.int .i64 n, .int .i64 l, .int .i64 h] w fun e w' => e = .returned (.bool (inB n l h)) ∧ w = w' := by
  unfold inB
  go_enter Tryz.func33, Tryz.ntmps33
  go_wp2
  all_goals
    go_ret
    exact ⟨ret_bool (by simp; omega), rfl⟩
theorem l00In_any (n l h : Int) (w : World) :
    Calls Tryz.prog 22 #[.int .i64 n, .int .i64 l, .int .i64 h] w fun e w' => e = .returned (.bool (inB n l h)) ∧ w = w' := by
  unfold inB
  go_enter Tryz.func22, Tryz.ntmps22
  go_wp2
  all_goals
    go_ret
    exact ⟨ret_bool (by simp; omega), rfl⟩
theorem divRound_any (a b : Int) (w : World) (h1 : -9223372036854775000 ≤ a) (h2 : a ≤ 9223372036854775000) (h3 : 0 < b) (h4 : b ≤ 9223372036854775000) :
    Calls Tryz.prog 81 #[.int .i64 a, .int .i64 b] w fun e w' => e = .returned (.int .i64 (dr a b)) ∧ ∃ n, w' = w.drewN n := by
  have hb0 : b ≠ 0 := by omega
  have r1 : -b < a.tmod b := Int.lt_tmod_of_pos a h3
  have r2 : a.tmod b < b := Int.tmod_lt_of_pos a h3
  have s1 : absI (a.tmod b) < b := by unfold absI; omega
  have s2 : 0 ≤ absI (a.tmod b) := by unfold absI; omega
  obtain ⟨q1, q2⟩ := tdiv_bounds h3 h1 h2
  have t1 : absI b ≤ b := by unfold absI; omega
  have t2 : b ≤ absI b := by unfold absI; omega
  go_enter Tryz.func81, Tryz.ntmps81
  go_wp2
  go_quiet ((go_at_call 41; exact quietS (abs_any _ _ (by omega) (by omega))))
  go_wp2_with (go_at_call 41; refine (abs_any _ _ (by omega) (by omega)).mono ?_; rintro e w' ⟨rfl, rfl⟩)
  · have h5 : (decide (a < 0) == decide (b < 0)) = true := by assumption
    have h6 : 0 ≤ a := by simp at h5; omega
    go_ret
    exact ⟨ret_int (dr_up h3 h6 (by omega)).symm, _, rfl⟩
  · have h5 : (decide (a < 0) == decide (b < 0)) = false := by assumption
    have h6 : a < 0 := by simp at h5; omega
    go_ret
    exact ⟨ret_int (dr_down h3 h6 (by omega)).symm, _, rfl⟩
  · go_ret
    exact ⟨ret_int (dr_near h3 (by omega)).symm, _, rfl⟩
theorem l01Div_any (a b : Int) (w : World) (h1 : -2305843009213693952 ≤ a) (h2 : a ≤ 2305843009213693952) (h3 : 0 < b) (h4 : b ≤ 4611686018427387000) :
    Calls Tryz.prog 95 #[.int .i64 a, .int .i64 b] w fun e w' => e = .returned (.int .i64 (dr a b)) ∧ w = w' := by
  have h5 : 2 * b ≠ 0 := by omega
  have h6 : 1 ≤ 2 * b := by omega
  by_cases ha : a < 0
  · have h7 : 0 ≤ b - 2 * a := by omega
    obtain ⟨h8, h9⟩ := ediv_bounds (m := 9223372036854775807) h7 (by omega : 0 < 2 * b) (by omega)
    go_enter Tryz.func95, Tryz.ntmps95
    go_wp2
    go_ret
    exact ⟨ret_int (by unfold dr; rw [if_pos ha]), rfl⟩
  · have h7 : 0 ≤ 2 * a + b := by omega
    obtain ⟨h8, h9⟩ := ediv_bounds (m := 9223372036854775807) h7 (by omega : 0 < 2 * b) (by omega)
    go_enter Tryz.func95, Tryz.ntmps95
    go_wp2
    go_ret
    exact ⟨ret_int (by unfold dr; rw [if_neg (by omega)]), rfl⟩
end Go.Proofs.YtjmhhbjbmgpagaaGreat

/- A region that draws its order, whose operations read and whose calls make new memory only: one walk in the order of the text, in the class of worlds below whose old end nothing has turned. -/
namespace Go.Proofs.YtjmhhbjbmgpagaaGreat
set_option linter.unusedVariables false
set_option linter.unusedSimpArgs false
open Go.RowKit
/-- A world below which nothing of W has turned. -/
structure NB (W : World) where
  w : World
  h : Below W.heap.size W w
instance (W : World) : Nonempty (NB W) := ⟨⟨W, Below.refl _ _⟩⟩
theorem wp_region_nb {P : Program} {id : Nat} {Q : Exit → Act → World → Prop} {a : Act} {W : World} {l : List Oper} (hm : P.follows .mixedOrders = true) (hB : Region.lexB .any l.toArray = true)
    (h : wpQuiet P l.toArray (fun w' => ∃ s : NB W, w' = s.w) (fun a' => ∀ w', (∃ s : NB W, w' = s.w) → Q .normal a' w') l a) : (Code.region id l.toArray true).wp P Q a W := by
  refine wp_region_quiet hm hB (C := fun w' => ∃ s : NB W, w' = s.w) ⟨⟨W.drew, (Below.refl _ _).drew⟩, rfl⟩ ?_
  simpa using h
theorem nb_call {P : Program} {f : FuncId} {args : Array Value} {W : World} {s : NB W} {v : Value} (h : Calls P f args s.w fun e w' => e = .returned v ∧ Below s.w.heap.size s.w w') :
    Calls P f args s.w fun e w'' => e = .returned v ∧ ∃ s' : NB W, w'' = s'.w :=
  h.mono fun _ w' ⟨he, hb⟩ => ⟨he, ⟨w', s.h.trans (hb.mono s.h.size)⟩, rfl⟩
theorem nb_same {P : Program} {f : FuncId} {args : Array Value} {W : World} {s : NB W} {v : Value} (h : Calls P f args s.w fun e w' => e = .returned v ∧ s.w = w') :
    Calls P f args s.w fun e w'' => e = .returned v ∧ ∃ s' : NB W, w'' = s'.w :=
  h.mono fun _ w' ⟨he, hb⟩ => ⟨he, s, hb.symm⟩
theorem nb_cell {W : World} {p : Addr} {v : Value} (h : W.cell? p = some v) (hl : p.block < W.heap.size) : ∀ s : NB W, s.w.cell? p = some v := fun s => (s.h.cell hl).trans h
theorem nb_out {W w : World} (h : ∃ s : NB W, w = s.w) : Below W.heap.size W w := by
  obtain ⟨s, rfl⟩ := h
  exact s.h
end Go.Proofs.YtjmhhbjbmgpagaaGreat

/- The square root, rounded down: plain lemmas. -/
namespace Go.Proofs.YtjmhhbjbmgpagaaGreat
set_option linter.unusedVariables false
set_option linter.unusedSimpArgs false
def rootN : Nat → Nat
  | 0 => 0
  | n + 1 => if (rootN n + 1) * (rootN n + 1) ≤ n + 1 then rootN n + 1 else rootN n
theorem rootN_spec (n : Nat) : rootN n * rootN n ≤ n ∧ n < (rootN n + 1) * (rootN n + 1) := by
  induction n with
  | zero => simp [rootN]
  | succ n ih =>
    unfold rootN
    by_cases h : (rootN n + 1) * (rootN n + 1) ≤ n + 1
    · rw [if_pos h]
      refine ⟨h, ?_⟩
      have e : (rootN n + 1 + 1) * (rootN n + 1 + 1) = (rootN n + 1) * (rootN n + 1) + 2 * (rootN n + 1) + 1 := by
        generalize rootN n + 1 = r
        rw [Nat.add_mul, Nat.mul_add]; omega
      omega
    · rw [if_neg h]; omega
def rootI (n : Int) : Int := (rootN n.toNat : Nat)
theorem rootI_nonneg (n : Int) : 0 ≤ rootI n := by unfold rootI; omega
theorem rootI_le {n m : Int} (hm : 0 ≤ m) : m ≤ rootI n ↔ (m = 0 ∨ m * m ≤ n) := by
  obtain ⟨k, rfl⟩ := Int.eq_ofNat_of_zero_le hm
  obtain ⟨h1, h2⟩ := rootN_spec n.toNat
  unfold rootI
  constructor
  · intro h
    by_cases h0 : k = 0
    · left; omega
    right
    have hk : k ≤ rootN n.toNat := by omega
    have h3 := Nat.mul_le_mul hk hk
    have h4 : k * k ≤ n.toNat := Nat.le_trans h3 h1
    have h5 : 0 < k * k := Nat.mul_pos (by omega) (by omega)
    have e : ((k : Int) * (k : Int)) = ((k * k : Nat) : Int) := by simp
    rw [e]; omega
  · intro h
    rcases h with h | h
    · omega
    have e : ((k : Int) * (k : Int)) = ((k * k : Nat) : Int) := by simp
    rw [e] at h
    have h4 : k * k ≤ n.toNat := by omega
    have h5 : k * k < (rootN n.toNat + 1) * (rootN n.toNat + 1) := by omega
    have h6 : k < rootN n.toNat + 1 := by
      rcases Nat.lt_or_ge k (rootN n.toNat + 1) with h7 | h7
      · exact h7
      · have := Nat.mul_le_mul h7 h7; omega
    omega
theorem rootI_max {n : Int} (h : n ≤ 9223372036854775807) : rootI n ≤ 3037000499 := by
  rcases Int.lt_or_le 3037000499 (rootI n) with h1 | h1
  · have h2 := (rootI_le (n := n) (m := 3037000500) (by omega)).1 (by omega)
    omega
  · exact h1
theorem rootI_bnd {n M m : Int} (hM : 0 ≤ M) (h : n < (M + 1) * (M + 1)) : 0 ≤ rootI n ∧ rootI n ≤ M := by
  refine ⟨rootI_nonneg n, ?_⟩
  rcases Int.lt_or_le M (rootI n) with h1 | h1
  · have h2 := (rootI_le (n := n) (m := M + 1) (by omega)).1 (by omega)
    omega
  · exact h1
theorem rootI_mono {a b : Int} (h : a ≤ b) : rootI a ≤ rootI b := by
  refine (rootI_le (rootI_nonneg a)).2 ?_
  rcases (rootI_le (n := a) (rootI_nonneg a)).1 (Int.le_refl _) with h0 | h0
  · exact .inl h0
  · exact .inr (by omega)
theorem rootI_pos {n : Int} (h : 1 ≤ n) : 1 ≤ rootI n := (rootI_le (by omega)).2 (.inr (by omega))
theorem rootI_neg {n : Int} (h : n < 0) : rootI n = 0 := by
  have h1 := rootI_nonneg n
  rcases (rootI_le (n := n) h1).1 (Int.le_refl _) with h0 | h0
  · exact h0
  · have := Int.mul_nonneg h1 h1; omega
end Go.Proofs.YtjmhhbjbmgpagaaGreat

/- A region that draws its order: operations that read and calls that make new memory, in whatever order, and behind them one row of operations that comes last: one walk in the order of the text. -/
namespace Go.Proofs.YtjmhhbjbmgpagaaGreat
set_option linter.unusedVariables false
set_option linter.unusedSimpArgs false
open Go.RowKit
section
variable {P : Program} {ops : Array Oper} {md : Region.Mode} {C : World → Prop}
/-- Whatever order is picked among the first n, f of them yet to come. -/
def anyHead (P : Program) (md : Region.Mode) (ops : Array Oper) (C : World → Prop) (n : Nat) (L : Array Bool → Act → Prop) : Nat → Array Bool → Act → Prop
  | 0, listed, a => L listed a
  | f + 1, listed, a => Region.ready md ops listed ≠ [] ∧ ∀ i ∈ Region.ready md ops listed, i < n ∧ qOp P ops C i (anyHead P md ops C n L f (listed.setIfInBounds i true)) a
theorem any_of_head {n g : Nat} {L : Array Bool → Act → Prop} {Q' : Exit → Act → World → Prop} (hL : ∀ listed a w, C w → L listed a → wpAny P md ops Q' g listed a w) :
    ∀ (f : Nat) (listed : Array Bool) (a : Act) (w : World), C w → anyHead P md ops C n L f listed a → wpAny P md ops Q' (f + g) listed a w
  | 0, listed, a, w, hw, h => by rw [Nat.zero_add]; exact hL _ _ _ hw h
  | f + 1, listed, a, w, hw, h => by
    rw [show f + 1 + g = (f + g) + 1 by omega]
    exact ⟨fun h0 => absurd h0 h.1, fun i hi => wpOp_of_qOp hw (fun a' w' hw' h' => any_of_head hL f _ a' w' hw' h') (h.2 i hi).2⟩
theorem anyHead_first {n i : Nat} {oi : Oper} {v : Value} {L : Array Bool → Act → Prop} (hi : ops[i]? = some oi) (hsel : ∀ (j : Nat) (o : Oper) cs b, ops[j]? = some o → o.op ≠ .select cs b)
    (hs : Region.sinkB md ops n = true) (hc : Region.chainB md ops n = true) (hn : n < ops.size) (hin : i < n)
    (hdone : ∀ listed a, L listed a → ∀ j ∈ Region.ready md ops listed, n ≤ j) :
    ∀ (f : Nat) (listed : Array Bool) (a : Act), HeadInv md ops n listed →
      (∀ j oj, ops[j]? = some oj → j ≠ i → listed.getD j true = false → (∀ e ∈ oj.after, Region.binds md e = true → e.on ≠ i) → oi.apart ops oj = true) →
      i ∈ Region.ready md ops listed → YieldsIn P ops C oi v a →
      anyHead P md ops C n L f (listed.setIfInBounds i true) (a.put oi.dst v) → anyHead P md ops C n L (f + 1) listed a := by
  intro f
  induction f with
  | zero =>
    intro listed a inv _ hr hy H
    have hun := (mem_ready.1 hr).1
    refine ⟨fun h => (by rw [h] at hr; cases hr), fun j hj => ?_⟩
    have hjn : j < n := by
      rcases Nat.lt_or_ge j n with h | h
      · exact h
      · exact absurd hj (tail_waits hs hc hn inv _ i rfl hin hun j h)
    refine ⟨hjn, ?_⟩
    by_cases hji : j = i
    · subst hji; exact hy.qOp hi H
    · have := hdone _ _ H j (ready_mono hj hji)
      omega
  | succ f ih =>
    intro listed a inv hfree hr hy H
    have hun := (mem_ready.1 hr).1
    refine ⟨fun h => (by rw [h] at hr; cases hr), fun j hj => ?_⟩
    have hjn : j < n := by
      rcases Nat.lt_or_ge j n with h | h
      · exact h
      · exact absurd hj (tail_waits hs hc hn inv _ i rfl hin hun j h)
    refine ⟨hjn, ?_⟩
    by_cases hji : j = i
    · subst hji; exact hy.qOp hi H
    · have h1 := (H.2 j (ready_mono hj hji)).2
      obtain ⟨hjun, oj, hoj, hall⟩ := mem_ready.1 hj
      have hnot : ∀ e ∈ oj.after, Region.binds md e = true → e.on ≠ i := fun e he hb heq => by
        have h1 := hall e he hb
        rw [heq, getD_both hun] at h1
        cases h1
      have h2 := qOp_put hoj (hfree j oj hoj hji hjun hnot) (fun cs b => hsel i oi cs b hi) (fun cs b => hsel j oj cs b hoj) hy h1
      have hfree' : ∀ k ok, ops[k]? = some ok → k ≠ i → (listed.setIfInBounds j true).getD k true = false →
          (∀ e ∈ ok.after, Region.binds md e = true → e.on ≠ i) → oi.apart ops ok = true := fun k ok hk hki hun hno => by
        refine hfree k ok hk hki ?_ hno
        by_cases hjk : j = k
        · subst hjk; exact hjun
        · rw [getD_set_ne true hjk] at hun; exact hun
      refine qOp_mono (fun a' h3 => ih (listed.setIfInBounds j true) a' (inv.set hj hjn) hfree' (ready_mono hr (Ne.symm hji)) h3.1 ?_) h2
      rw [Array.setIfInBounds_comm _ _ hji]
      exact h3.2
theorem anyHead_lex {n g : Nat} {Lq : Act → Prop} (hsel : Region.noSelect ops = true) (hs : Region.sinkB md ops n = true) (hc : Region.chainB md ops n = true) (hn : n < ops.size) :
    ∀ (l : List Oper) (k : Nat) (listed : Array Bool) (a : Act), (∀ j, j < l.length → l[j]? = ops[k + j]?) → k + l.length = n → HeadInv md ops n listed →
    Region.lexHead md ops g l.length k listed = true → wpQuiet P ops C Lq l a →
    anyHead P md ops C n (fun listed' a' => Region.seqB md ops g n listed' = true ∧ Lq a') l.length listed a
  | [], k, listed, a, _, hk, _, hB, h => by
    have : k = n := by simpa using hk
    subst this
    exact ⟨by simpa [Region.lexHead] using hB, h⟩
  | o :: l, k, listed, a, hl, hk, inv, hB, h => by
    have h0 : ops[k]? = some o := by simpa using (hl 0 (by simp)).symm
    simp only [List.length_cons, Region.lexHead, Bool.and_eq_true] at hB
    obtain ⟨⟨hr, hf⟩, hB'⟩ := hB
    have hkn : k < n := by simp only [List.length_cons] at hk; omega
    have hr' : k ∈ Region.ready md ops listed := by simpa using hr
    have hst : qOp P ops C k (wpQuiet P ops C Lq l) a := by unfold qOp; simp only [h0]; exact h
    obtain ⟨v, hy, hK⟩ := yieldsIn_of_qOp h0 hst
    exact anyHead_first h0 (Region.noSelect_spec hsel) hs hc hn hkn (fun listed' a' hL => seqB_ready hL.1) l.length listed a inv (Region.free_spec h0 hf) hr' hy
      (anyHead_lex hsel hs hc hn l (k + 1) _ _ (fun j hj => by have := hl (j + 1) (by simp; omega); simpa [Nat.add_assoc, Nat.add_comm 1 j] using this) (by simp only [List.length_cons] at hk; omega) (inv.set hr' hkn) hB' hK)
theorem wp_region_quiet_tail {id : Nat} {Q : Exit → Act → World → Prop} {a : Act} {w : World} {l : List Oper} (n : Nat) (hm : P.follows .mixedOrders = true) (hB : Region.lexTailB .any l.toArray n = true)
    (hC : C { w with drawn := w.drawn + 1 })
    (h : wpQuiet P l.toArray C (fun a' => ∀ w', C w' → wpList P l.toArray Q (l.drop n) a' w') (l.take n) a) : (Code.region id l.toArray true).wp P Q a w := by
  simp only [Region.lexTailB, Bool.and_eq_true, decide_eq_true_eq] at hB
  obtain ⟨⟨⟨⟨hsel, hn⟩, hs⟩, hc⟩, hlex⟩ := hB
  have hn' : n < l.length := by simpa using hn
  have htl : (l.take n).length = n := by simp; omega
  have hdl : (l.drop n).length = l.toArray.size - n := by simp
  have inv0 : HeadInv .any l.toArray n (Array.replicate l.toArray.size false) :=
    ⟨by simp, fun j oj _ hl => (by rw [getD_replicate_false] at hl; cases hl), fun t _ ht => getD_in (by simpa using ht) (getD_replicate_false _ _)⟩
  have H := anyHead_lex (md := .any) (C := C) (g := l.toArray.size - n) hsel hs hc hn (l.take n) 0 _ a (fun j hj => by
    have hj' : j < n := by rw [htl] at hj; exact hj
    simp [hj']) (by simpa using htl) inv0 (by rw [htl]; exact hlex) h
  refine wp_region_any hm ?_
  have := any_of_head (Q' := Q) (g := l.toArray.size - n) (fun listed a' w' hw' hL => by
    have := wpAny_of_seq (md := .any) (Q' := Q) (l.drop n) n listed a' w' (fun j => by simp [List.getElem?_drop]) (by rw [hdl]; exact hL.1) (hL.2 w' hw')
    rwa [hdl] at this) _ _ _ _ hC H
  rw [htl, show n + (l.toArray.size - n) = l.toArray.size by omega] at this
  exact this
end
/-- Reads and calls that make memory, and a row of operations behind them. -/
theorem wp_region_nbt {P : Program} {id : Nat} {Q : Exit → Act → World → Prop} {a : Act} {W : World} {l : List Oper} (n : Nat) (hm : P.follows .mixedOrders = true) (hB : Region.lexTailB .any l.toArray n = true)
    (h : wpQuiet P l.toArray (fun w' => ∃ s : NB W, w' = s.w) (fun a' => ∀ w', (∃ s : NB W, w' = s.w) → wpList P l.toArray Q (l.drop n) a' w') (l.take n) a) : (Code.region id l.toArray true).wp P Q a W :=
  wp_region_quiet_tail (C := fun w' => ∃ s : NB W, w' = s.w) n hm hB ⟨⟨W.drew, (Below.refl _ _).drew⟩, rfl⟩ h
end Go.Proofs.YtjmhhbjbmgpagaaGreat

/- Contracts of the laws' own helpers on slices of numbers and of bools: copy, compare, mark, held. -/
namespace Go.Proofs.YtjmhhbjbmgpagaaGreat
set_option linter.unusedVariables false
set_option linter.unusedSimpArgs false
open Go.RowKit
/-- A row of the call's own is a slice value of a known length. -/
theorem own_shape {w : World} {base e size n : Nat} {v : Value} {xs : List Value} (h : w.ownsRow base e size v n xs) : ∃ A c, v = .slice A n c := by
  rcases h.2 with ⟨rfl, rfl⟩ | ⟨g, cap, cur, rfl, _⟩
  · exact ⟨none, 0, rfl⟩
  · exact ⟨_, _, rfl⟩
theorem own_nil (w : World) (base e size : Nat) : w.ownsRow base e size (.slice none 0 0) 0 [] := World.ownsRow_nil w base e size
theorem own_empty (w : World) (e size : Nat) : (w.alloc (.cells #[] e)).ownsRow w.heap.size e size (.slice (some ⟨w.heap.size, 0, none⟩) 0 0) 0 [] :=
  World.ownsRow_made w #[] 0 (Nat.le_refl _) (by simp [maxLen]) (by simp)
theorem own_base {w : World} {base base' e size n : Nat} {v : Value} {xs : List Value} (h : w.ownsRow base e size v n xs) (hb : base' ≤ base) : w.ownsRow base' e size v n xs := by
  refine ⟨h.1, ?_⟩
  rcases h.2 with h0 | ⟨g, cap, cur, h1, h2, h3⟩
  · exact .inl h0
  · exact .inr ⟨g, cap, cur, h1, by omega, h3⟩
theorem own_keep {w w' : World} {base e size n : Nat} {v : Value} {xs : List Value} {row : Option Nat} (h : w.ownsRow base e size v n xs) (hg : w.grownBy w' row) (hne : ∀ k, v.ownBlock = some k → row = some k → False) : w'.ownsRow base e size v n xs := by
  refine h.kept hg ?_
  cases hv : v.ownBlock with
  | none => exact .inl rfl
  | some k => exact .inr fun e => hne k hv e.symm
theorem own_drewN {w : World} {base e size n : Nat} {v : Value} {xs : List Value} (h : w.ownsRow base e size v n xs) (m : Nat) : (w.drewN m).ownsRow base e size v n xs := h
theorem grown_drewN {w w' : World} {row : Option Nat} {m : Nat} (h : (w.drewN m).grownBy w' row) : w.grownBy w' row := ⟨h.os, h.tape, h.output, h.size, h.block⟩
/-- A row that lies at or above base stays where only a block below base has turned. -/
theorem own_far {w w' : World} {base e size n : Nat} {v : Value} {xs : List Value} {row : Option Nat} (h : w.ownsRow base e size v n xs) (hg : w.grownBy w' row) (hr : ∀ b, row = some b → b < base) : w'.ownsRow base e size v n xs := by
  refine h.kept hg ?_
  cases hv : v.ownBlock with
  | none => exact .inl rfl
  | some k =>
    refine .inr fun e => ?_
    have h1 := hr k (by rw [← e])
    have h2 := h.lt k hv
    omega
section
variable {P : Program} (w : World)
/-- append onto a row of the call's own: the new value, its row, and that below the row's base nothing has turned. -/
theorem wpList_app {ops : Array Oper} {rest : List Oper} {o : Oper} {a : Act} {Q : Exit → Act → World → Prop} (hgd : o.guard = none) (s x : Operand) (t : TypeId)
    (ho : o.op = .call { callee := .builtin .append, args := #[s, x], argTypes := #[t, t] })
    (base : Nat) (e : TypeId) (i : TypeInfo) (z : Value) (size bytes : Nat) (ht : P.underlying t = some (.slice e)) (hi : P.info? e = some i) (hz : i.zero = some z)
    (hsize : i.size = size) (hby : i.bytes = bytes) (hzs : z.cells.size = size) (hsz : 0 < size)
    (A : Option Addr) (n c : Nat) (xs : List Value) (hs : a.eval s = .slice A n c) (hown : w.ownsRow base e size (.slice A n c) n xs)
    (ad : Addr) (m d : Nat) (news : List Value) (hx : a.eval x = .slice (some ad) m d) (hl : news.length = m * size) (hnews : ∀ j u, news[j]? = some u → w.cell? (ad.add j) = some u) (h1 : ∀ u ∈ news, u.oneCell' = true)
    (h63 : n + m ≤ maxLen) (hbytes : (n + m) * bytes ≤ 140737488355328) (hbase : base ≤ w.heap.size)
    (h : ∀ A' c' w', w'.ownsRow base e size (.slice A' (n + m) c') (n + m) (xs ++ news) → Below base w w' → wpList P ops Q rest (a.put o.dst (.slice A' (n + m) c')) w') : wpList P ops Q (o :: rest) a w := by
  refine wpList_append_own w hgd s x t ho base e i z size bytes ht hi hz hsize hby hzs hsz _ n xs hs hown ad m d news hx hl hnews h1 h63 hbytes hbase fun v' w' h2 h3 _ => ?_
  obtain ⟨A', c', rfl⟩ := own_shape h2
  refine h A' c' w' h2 ((Below.refl _ _).grown h3 hbase fun k hk => ?_)
  exact (hown.lt k hk).1
end
theorem cell_one_at {W : World} {b : Nat} (h : W.heap.size = b) (v : Value) (t : TypeId) : ∀ j u, [v][j]? = some u → (W.alloc (.cells #[v] t)).cell? ((⟨b, 0, none⟩ : Addr).add j) = some u := by
  subst h; exact cell_one_new W v t
theorem take_snoc' {α : Type} {xs : List α} {k : Nat} {x : α} (h : xs[k]? = some x) : xs.take (k + 1) = xs.take k ++ [x] := by
  rw [List.take_add_one, h]; simp
def ints (xs : List Int) : List Value := xs.map (Value.int .i64)
def bools (xs : List Bool) : List Value := xs.map Value.bool
theorem bools_at {xs : List Bool} {k : Nat} {u : Value} (h : (bools xs)[k]? = some u) : ∃ b, xs[k]? = some b ∧ u = .bool b := by
  unfold bools at h
  rw [List.getElem?_map] at h
  cases e : xs[k]? with
  | none => rw [e] at h; simp at h
  | some b => rw [e] at h; simp at h; exact ⟨b, rfl, h.symm⟩
theorem ints_at {xs : List Int} {k : Nat} {u : Value} (h : (ints xs)[k]? = some u) : ∃ b, xs[k]? = some b ∧ u = .int .i64 b := by
  unfold ints at h
  rw [List.getElem?_map] at h
  cases e : xs[k]? with
  | none => rw [e] at h; simp at h
  | some b => rw [e] at h; simp at h; exact ⟨b, rfl, h.symm⟩
theorem bools_len {w : World} {B : Nat} {A : Option Addr} {n : Nat} {xs : List Bool} (h : Reads w B 1 A n (bools xs)) : xs.length = n := by have := h.1; simpa [bools] using this
theorem ints_len {w : World} {B : Nat} {A : Option Addr} {n : Nat} {xs : List Int} (h : Reads w B 1 A n (ints xs)) : xs.length = n := by have := h.1; simpa [ints] using this
theorem own_below {w w' : World} {base e size n : Nat} {v : Value} {xs : List Value} (h : w.ownsRow base e size v n xs) (hb : Below w.heap.size w w') : w'.ownsRow base e size v n xs := by
  refine h.kept (row := none) (only_of_below hb none) ?_
  cases hv : v.ownBlock with
  | none => exact .inl rfl
  | some k => exact .inr (by simp)
/-- A block of n cells that holds the list from its head. -/
theorem own_of_blk {w : World} {g e n : Nat} {cur : Array Value} {xs : List Value} (h : Blk w g e cur) (hl : xs.length = n) (hs : cur.size = n) (hm : n ≤ maxLen) (hx : ∀ j, j < n → cur[j]? = xs[j]?) :
    w.ownsRow g e 1 (.slice (some ⟨g, 0, none⟩) n n) n xs := by
  refine ⟨by omega, .inr ⟨g, n, cur, rfl, Nat.le_refl _, h, Nat.le_refl _, hm, by omega, ?_⟩⟩
  apply List.ext_getElem?
  intro j
  rw [List.getElem?_take]
  by_cases hj : j < n
  · rw [if_pos (by omega), Array.getElem?_toList, hx j hj]
  · rw [if_neg (by omega), List.getElem?_eq_none (by omega)]
theorem Reads.cells {w : World} {B size n : Nat} {ad : Addr} {xs : List Value} (h : Reads w B size (some ad) n xs) : ∀ j u, xs[j]? = some u → w.cell? (ad.add j) = some u := by
  intro j u hu
  rcases Nat.eq_zero_or_pos n with h0 | h0
  · have h1 := h.1
    rw [h0, Nat.zero_mul] at h1
    rw [List.eq_nil_of_length_eq_zero h1] at hu
    simp at hu
  · obtain ⟨ad', e, _, hc⟩ := h.2 h0
    injection e with e
    subst e
    exact hc j u hu
theorem ints_one (xs : List Int) : ∀ u ∈ ints xs, u.oneCell' = true := by
  intro u hu
  unfold ints at hu
  rw [List.mem_map] at hu
  obtain ⟨x, _, rfl⟩ := hu
  rfl
theorem bools_one (xs : List Bool) : ∀ u ∈ bools xs, u.oneCell' = true := by
  intro u hu
  unfold bools at hu
  rw [List.mem_map] at hu
  obtain ⟨x, _, rfl⟩ := hu
  rfl
theorem reads_new (W : World) (cs : Array Value) (t : TypeId) : Reads (W.alloc (.cells cs t)) (W.alloc (.cells cs t)).heap.size 1 (some ⟨W.heap.size, 0, none⟩) cs.size cs.toList := by
  refine ⟨by simp, fun _ => ⟨_, rfl, by simp, fun j u hu => ?_⟩⟩
  rw [Addr.add]
  split
  · rename_i h
    subst h
    rw [(Blk.new W t cs).cell 0]
    rwa [Array.getElem?_toList] at hu
  · rw [show ({ (⟨W.heap.size, 0, none⟩ : Addr) with off := 0 + j, spot := none } : Addr) = ⟨W.heap.size, j, none⟩ by simp, (Blk.new W t cs).cell j]
    rwa [Array.getElem?_toList] at hu
theorem wfmax {n : Nat} (h : n ≤ 1048576) : n ≤ maxLen := by unfold maxLen; omega
theorem info_BoolS : (Tryz.prog.info? 4).map (fun i => (i.zero, i.size, i.bytes)) = some (some (.bool false), 1, 1) := by kernel_rfl
theorem info_Int64S : (Tryz.prog.info? 2).map (fun i => (i.zero, i.size, i.bytes)) = some (some (.int .i64 0), 1, 8) := by kernel_rfl
set_option maxHeartbeats 800000 in
theorem toInt64S_any (A : Option Addr) (n c : Nat) (xs : List Int) (w : World) (hr : Reads w w.heap.size 1 A n (ints xs)) (hn : n ≤ 1048576) :
    Calls Tryz.prog 8 #[.slice A n c] w fun e w' => e = .returned (.slice (some ⟨w.heap.size, 0, none⟩) n n) ∧ w'.ownsRow w.heap.size 2 1 (.slice (some ⟨w.heap.size, 0, none⟩) n n) n (ints xs) ∧ Below w.heap.size w w' := by
  have HL := Lib.hid hr.1
  have hmk := run_make_row' (P := Tryz.prog) 25 2 (.int .i64 0) 8 Tryz.underlying25 info_Int64S rfl .i64 .i64 n (by omega) (by omega)
  go_enter Tryz.func8, Tryz.ntmps8
  go_wp2
  go_loopw [4] (fun i wr => ∃ (k : Nat) (cur : Array Value), k ≤ n ∧ i = .int .i64 k ∧ Blk wr w.heap.size 2 cur ∧ Hid (cur.size = n ∧ ∀ j, j < k → cur[j]? = (ints xs)[j]?) ∧ Below w.heap.size w wr) (fun i _ => n - (intOf i).toNat)
  case atStart => exact ⟨0, _, by omega, rfl, Blk.new _ _ _, ⟨size_madeCells _ _, fun j hj => absurd hj (Nat.not_lt_zero _)⟩, by (repeat (first | exact Below.refl _ _ | assumption | (refine Below.alloc ?_ (by first | exact Nat.le_refl _ | (simp; done) | (simp; omega)) _) | (refine below_drewN ?_ _) | (refine Below.trans ?_ (Below.mono (by assumption) (by first | exact Nat.le_refl _ | (simp; done) | (simp; omega) | omega)))))⟩
  case round =>
    obtain ⟨k, cur, hk, rfl, hbk, HC, hbw⟩ := hrel
    have hz := hbw.size
    by_cases hlt : k < n
    · obtain ⟨ad, u, rfl, had, hx, hc⟩ := (hr.below hbw).at_ hlt
      have hcur : k < cur.size := by rw [HC.out.1]; exact hlt
      have hold : wr.cell? ⟨w.heap.size, k, none⟩ = some cur[k] := by rw [hbk.cell k]; exact Array.getElem?_eq_getElem hcur
      have hfz := hbk.frozen k
      obtain ⟨b, hb, rfl⟩ := ints_at hx
      have HX := Lib.hid hx
      clear hb hx
      go_wp2
      go_roundw
      case rel =>
        refine ⟨k + 1, _, by omega, by go_num, hbk.set_ k _, ⟨by simpa using HC.out.1, fun j hj => ?_⟩, hbw.setCell (by simp) _⟩
        rw [Array.getElem?_setIfInBounds]
        by_cases hjk : k = j
        · subst hjk
          rw [if_pos rfl, if_pos hcur]; exact HX.out.symm
        · rw [if_neg hjk]; exact HC.out.2 j (by omega)
      case measure => simp [intOf]; omega
    · have e : k = n := by omega
      subst e
      go_wp2
      go_ret
      exact ⟨rfl, own_of_blk hbk (by simpa using HL.out) HC.out.1 (wfmax hn) HC.out.2, hbw⟩
set_option maxHeartbeats 800000 in
/-- Two slices that read as one list are equal. -/
theorem eqInt64S_same (A B : Option Addr) (n c d : Nat) (xs : List Int) (w : World) (hr : Reads w w.heap.size 1 A n (ints xs)) (hq : Reads w w.heap.size 1 B n (ints xs)) (hn : n ≤ 1099511627776) :
    Calls Tryz.prog 11 #[.slice A n c, .slice B n d] w fun e w' => e = .returned (.bool true) ∧ ∃ m, w' = w.drewN m := by
  go_enter Tryz.func11, Tryz.ntmps11
  go_wp2
  go_loopw [5] (fun i wr => ∃ (k m : Nat), k ≤ n ∧ i = .int .i64 k ∧ wr = w.drewN m) (fun i _ => n - (intOf i).toNat)
  case atStart => exact ⟨0, 0, by omega, rfl, rfl⟩
  case round =>
    obtain ⟨k, m, hk, rfl, rfl⟩ := hrel
    by_cases hlt : k < n
    · obtain ⟨ad, u, rfl, had, hx, hc⟩ := hr.at_ hlt
      obtain ⟨bd, u', rfl, hbd, hx', hc'⟩ := hq.at_ hlt
      obtain rfl : u = u' := by rw [hx] at hx'; exact Option.some.inj hx'
      obtain ⟨b, hb, rfl⟩ := ints_at hx
      clear hb hx hx'
      have hlt' : (k : Int) < (n : Int) := by omega
      go_wp2_with fail
      go_quiet (fail)
      go_wp2
      go_roundw
      case rel => exact ⟨k + 1, _, by omega, by go_num, rfl⟩
      case measure => simp [intOf]; omega
    · go_wp2
      go_ret
      exact ⟨rfl, _, rfl⟩
theorem eqInt64S_b (A B : Option Addr) (n c d : Nat) (xs : List Int) (w : World) (hr : Reads w w.heap.size 1 A n (ints xs)) (hq : Reads w w.heap.size 1 B n (ints xs)) (hn : n ≤ 1099511627776) :
    Calls Tryz.prog 11 #[.slice A n c, .slice B n d] w fun e w' => e = .returned (.bool true) ∧ Below w.heap.size w w' :=
  (eqInt64S_same A B n c d xs w hr hq hn).mono fun _ _ ⟨he, m, hm⟩ => ⟨he, by rw [hm]; exact below_drewN (Below.refl _ _) m⟩
def marksInt64S (k : Int) (n : Nat) : List Int := (List.range n).map fun (i : Nat) => k + (i : Int)
theorem marksInt64S_at {k : Int} {n j : Nat} (h : j < n) : (ints (marksInt64S k n))[j]? = some (.int .i64 (k + (j : Int))) := by
  unfold marksInt64S ints
  simp [h]
set_option maxHeartbeats 800000 in
theorem markInt64S_any (A : Option Addr) (n c : Nat) (xs : List Value) (k : Int) (base : Nat) (w : World) (hown : w.ownsRow base 2 1 (.slice A n c) n xs) (hn : n ≤ 1099511627776) (hk0 : 0 ≤ k) (hk1 : k ≤ 1099511627776) :
    Calls Tryz.prog 15 #[.slice A n c, .int .i64 k] w fun e w' => e = .returned (.int .i64 (k + n)) ∧ w'.ownsRow base 2 1 (.slice A n c) n (ints (marksInt64S k n)) ∧ w.grownBy w' (Value.ownBlock (.slice A n c)) := by
  rcases Nat.eq_zero_or_pos n with h0 | hpos
  · subst h0
    have hx : xs = [] := List.eq_nil_of_length_eq_zero (by simpa using hown.1)
    subst hx
    go_enter Tryz.func15, Tryz.ntmps15
    go_wp2
    go_loop [1, 5] (fun kk i => kk = .int .i64 k ∧ i = .int .i64 0) (fun _ _ => 0)
    case atStart => exact ⟨rfl, rfl⟩
    case round =>
      obtain ⟨rfl, rfl⟩ := hrel
      go_wp2
      go_ret
      exact ⟨ret_int (by omega), hown, World.grownBy.refl _ _⟩
  · rcases hown.2 with ⟨_, h0⟩ | ⟨g, cap, cur, hv, hbg, hgb, hnc, hcm, hcs, htake⟩
    · omega
    injection hv with hA _ hc
    subst hA
    subst hc
    have hBlk : Blk w g 2 cur := hgb
    have hcs' := Lib.hid hcs
    clear hcs htake
    have hgl := hBlk.lt
    go_enter Tryz.func15, Tryz.ntmps15
    go_wp2
    go_loopw [1, 5] (fun kk i wr => ∃ (j : Nat) (cu : Array Value), j ≤ n ∧ kk = .int .i64 (k + j) ∧ i = .int .i64 j ∧ Blk wr g 2 cu ∧ Hid (cu.size = cur.size ∧ ∀ l, l < j → cu[l]? = (ints (marksInt64S k n))[l]?) ∧ w.grownBy wr (some g)) (fun _ i _ => n - (intOf i).toNat)
    case atStart => exact ⟨0, cur, by omega, by go_num, rfl, hBlk, ⟨rfl, fun j hj => absurd hj (Nat.not_lt_zero _)⟩, World.grownBy.refl _ _⟩
    case round =>
      obtain ⟨j, cu, hj, rfl, rfl, hbk, HC, hgr⟩ := hrel
      by_cases hlt : j < n
      · have hcur : j < cu.size := by rw [HC.out.1, hcs'.out]; omega
        have hold : wr.cell? ⟨g, j, none⟩ = some cu[j] := by rw [hbk.cell j]; exact Array.getElem?_eq_getElem hcur
        have hfz := hbk.frozen j
        go_wp2
        go_roundw
        case rel =>
          refine ⟨j + 1, _, by omega, by go_num, by go_num, hbk.set_ j _, ⟨by simpa using HC.out.1, fun l hl => ?_⟩, only_setCell hgr (.inl rfl) _⟩
          rw [Array.getElem?_setIfInBounds]
          by_cases hjl : j = l
          · subst hjl
            rw [if_pos rfl, if_pos hcur, marksInt64S_at hlt]
          · rw [if_neg hjl]; exact HC.out.2 l (by omega)
        case measure => simp [intOf]; omega
      · have e : j = n := by omega
        subst e
        go_wp2
        go_ret
        refine ⟨rfl, ⟨by simp [marksInt64S, ints], .inr ⟨g, _, cu, rfl, hbg, hbk, hnc, hcm, by rw [HC.out.1]; exact hcs'.out, ?_⟩⟩, hgr⟩
        apply List.ext_getElem?
        intro l
        rw [List.getElem?_take]
        by_cases hl : l < j
        · rw [if_pos (by omega), Array.getElem?_toList, HC.out.2 l hl]
        · rw [if_neg (by omega), List.getElem?_eq_none (by simp [marksInt64S, ints]; omega)]
set_option maxHeartbeats 800000 in
theorem heldInt64S_any (A : Option Addr) (n c : Nat) (k : Int) (w : World) (hr : Reads w w.heap.size 1 A n (ints (marksInt64S k n))) (hn : n ≤ 1099511627776) (hk0 : 0 ≤ k) (hk1 : k ≤ 1099511627776) :
    Calls Tryz.prog 17 #[.slice A n c, .int .i64 k] w fun e w' => e = .returned (.int .i64 (k + n)) ∧ w = w' := by
  go_enter Tryz.func17, Tryz.ntmps17
  go_wp2
  go_loop [1, 5] (fun kk i => ∃ (j : Nat), j ≤ n ∧ kk = .int .i64 (k + j) ∧ i = .int .i64 j) (fun _ i => n - (intOf i).toNat)
  case atStart => exact ⟨0, by omega, by go_num, rfl⟩
  case round =>
    obtain ⟨j, hj, rfl, rfl⟩ := hrel
    by_cases hlt : j < n
    · obtain ⟨ad, u, rfl, had, hx, hc⟩ := hr.at_ hlt
      rw [marksInt64S_at hlt] at hx
      obtain rfl := Option.some.inj hx
      clear hx
      go_wp2
      go_round
      case rel => exact ⟨j + 1, by omega, by go_num, by go_num⟩
      case measure => simp [intOf]; omega
    · have e : j = n := by omega
      subst e
      go_wp2
      go_ret
      exact ⟨rfl, rfl⟩
end Go.Proofs.YtjmhhbjbmgpagaaGreat

/- The last step of a law's proof: the call returned true, and below the old heap's end nothing has turned. -/
namespace Go.Proofs.YtjmhhbjbmgpagaaGreat
set_option linter.unusedVariables false
set_option linter.unusedSimpArgs false
open Go.ChangeShapes Go.WideShapes Go.ChangeAt Go.RowKit Go.Joins Go.Deep
open Go.ChangeMaps (open_string)
def typesRead (P : Program) (ts : List TypeId) : Bool := ts.all fun t => P.readableRec t && decide (t < P.types.size)
section
variable {H : Type} {enc : TypeId × Value → H} {P : Program}
theorem trodAll_below (hl : laidOutB P = true) {W W' : World} (hb : Below W.heap.size W W') :
    ∀ {ts : List TypeId} {vs : List Value} {ds : List (DataW H)} {ps : List MemPlace}, typesRead P ts = true → DataW.TrodAll enc P W 0 (fun _ => true) true ts vs ds ps → (∀ x ∈ ps, x.block < W.heap.size) →
      DataW.TrodAll enc P W' 0 (fun b => decide (b < W.heap.size)) true ts vs ds ps
  | [], [], [], _, _, h, _ => h
  | [], [], _ :: _, _, _, h, _ => h.elim
  | [], _ :: _, _, _, _, h, _ => h.elim
  | _ :: _, [], _, _, _, h, _ => h.elim
  | _ :: _, _ :: _, [], _, _, h, _ => h.elim
  | t :: ts, v :: vs, d :: ds, ps, ht, h, hlt => by
    obtain ⟨p, q, h1, h2, rfl⟩ := h
    simp only [typesRead, List.all_cons, Bool.and_eq_true, decide_eq_true_eq] at ht
    exact ⟨p, q, Below.trod hl ht.1.1 ht.1.2 h1 hb (fun x hx => hlt x (by simp [hx])),
      trodAll_below hl hb (by simpa [typesRead] using ht.2) h2 (fun x hx => hlt x (by simp [hx])), rfl⟩

theorem law_post {f : Func} {s : ChangeSpec} {W W' : World} {args : Array Value} {ds gs : List (DataW H)} {before : List MemPlace} {t : TypeId}
    (hl : laidOutB P = true) (hts : typesRead P f.params.toList = true) (hv : s.vars = []) (hr : f.resultTypes = #[t]) (hb4 : P.underlying t = some .bool)
    (hW : DataW.Whole enc P f.params.toList s.vars false W args.toList ds gs before)
    (hfn : s.fn H (ds ++ gs) = { results := [.lit (.bool true)], args := ds }) (hb : Below W.heap.size W W') :
    s.post enc P f false true false false W args (.bool true) W' := by
  have hW' := hW
  obtain ⟨p, q, hA, hV, e, _, _⟩ := hW
  have hlt : ∀ x ∈ before, x.block < W.heap.size := fun x hx => hW'.lt x hx
  rw [hv] at hV
  have hgs : gs = [] ∧ q = [] := by
    cases gs with
    | nil => exact ⟨rfl, hV⟩
    | cons _ _ => exact hV.elim
  obtain ⟨rfl, rfl⟩ := hgs
  rw [List.append_nil] at e
  subst e
  have e1 : (s.fn H (ds ++ [])).vars = [] := by rw [hfn]
  refine ⟨ds, [], before, [], before, [], hW', ?_, ?_, ?_, hb.frame _, fun h => by cases h⟩
  · rw [hfn, hr]
    exact trodAll_cons_mk (shut_bool hb4 _) trodAll_mk0
  · rw [hfn]
    exact trodAll_below hl hb hts hA hlt
  · rw [e1, hv]
    rfl
end
theorem own_ : ownKnob Tryz.prog.godebug = none := by kernel_rfl
theorem laidOut_ : laidOutB Tryz.prog = true := by kernel_rfl

theorem wf_bounds {a : Int} (h : (Lit.int .i64 a).wf = true) : -9223372036854775808 ≤ a ∧ a ≤ 9223372036854775807 := bounds_i64 h
section
variable {H : Type} {enc : TypeId × Value → H} {P : Program} {W : World} {base : Nat} {t e : TypeId} {v : Value} {d : DataW H} {p : List MemPlace}
theorem op_int (ht : P.underlying t = some (.int .i64)) (hv : Value.okWide P W .any base t v) (h : DataW.Trod enc P W 0 (fun _ => true) true t v d p) :
    ∃ a, v = .int .i64 a ∧ -9223372036854775808 ≤ a ∧ a ≤ 9223372036854775807 := by
  obtain ⟨a, rfl, _, _, w⟩ := open_int ht hv h
  exact ⟨a, rfl, wf_bounds w⟩
theorem op_str (ht : P.underlying t = some .string) (hv : Value.okWide P W .any base t v) (h : DataW.Trod enc P W 0 (fun _ => true) true t v d p) :
    ∃ s, v = .string s ∧ s.size ≤ maxLen := by
  obtain ⟨s, rfl, _, _, w⟩ := open_string ht hv h
  exact ⟨s, rfl, w⟩
theorem cell_lt {w : World} {a : Addr} {u : Value} (h : w.cell? a = some u) : a.block < w.heap.size := by
  unfold World.cell? at h
  rcases Nat.lt_or_ge a.block w.heap.size with hlt | hge
  · exact hlt
  · rw [Array.getElem?_eq_none hge] at h; simp at h
theorem cell_lt_add {w : World} {a : Addr} {u : Value} {i : Nat} (h : w.cell? (a.add i) = some u) : a.block < w.heap.size := by
  have := cell_lt h
  rwa [block_of_add] at this
theorem op_ints (ht : P.underlying t = some (.slice e)) (he : P.underlying e = some (.int .i64)) (hc : P.cellsOf e = 1) (hv : Value.okWide P W .any base t v) (h : DataW.Trod enc P W 0 (fun _ => true) true t v d p) :
    ∃ A n c xs, v = .slice A n c ∧ n ≤ c ∧ c ≤ maxLen ∧ Reads W W.heap.size 1 A n (ints xs) := by
  obtain ⟨a0, n0, c0, rfl⟩ := okWide_slice ht hv
  obtain ⟨fuel, hf⟩ := h
  rcases open_ints ht he hc hf with ⟨hcs, _⟩ | ⟨a, len, cap, zs, hcs, _, hl, hm, hz, _, hcell, _⟩
  · simp only [Value.cells, List.cons.injEq, Value.slice.injEq, and_true] at hcs
    obtain ⟨rfl, rfl, rfl⟩ := hcs
    exact ⟨none, 0, 0, [], rfl, by omega, by simp [maxLen], Reads.none_⟩
  · simp only [Value.cells, List.cons.injEq, Value.slice.injEq, and_true] at hcs
    obtain ⟨rfl, rfl, rfl⟩ := hcs
    simp only [if_true] at hz
    refine ⟨some a, n0, c0, zs.take n0, rfl, hl, hm, ?_, fun hn => ⟨a, rfl, ?_, ?_⟩⟩
    · simp [ints]; omega
    · exact cell_lt_add (hcell 0 (by omega))
    · intro j u hj
      simp only [ints, List.getElem?_map, List.getElem?_take] at hj
      by_cases hjl : j < n0
      · rw [if_pos hjl] at hj
        have hjz : j < zs.length := by omega
        rw [List.getElem?_eq_getElem hjz] at hj
        simp only [Option.map_some, Option.some.injEq] at hj
        rw [hcell j hjz, ← hj, List.getD_eq_getElem?_getD, List.getElem?_eq_getElem hjz]
        rfl
      · rw [if_neg hjl] at hj; simp at hj
theorem op_bools (ht : P.underlying t = some (.slice e)) (he : P.underlying e = some .bool) (hc : P.cellsOf e = 1) (hv : Value.okWide P W .any base t v) (h : DataW.Trod enc P W 0 (fun _ => true) true t v d p) :
    ∃ A n c xs, v = .slice A n c ∧ n ≤ c ∧ c ≤ maxLen ∧ Reads W W.heap.size 1 A n (bools xs) := by
  obtain ⟨a0, n0, c0, rfl⟩ := okWide_slice ht hv
  obtain ⟨fuel, hf⟩ := h
  rcases open_bools ht he hc hf with ⟨hcs, _⟩ | ⟨a, len, cap, B, hcs, _, hl, hm, _, hcell⟩
  · simp only [Value.cells, List.cons.injEq, Value.slice.injEq, and_true] at hcs
    obtain ⟨rfl, rfl, rfl⟩ := hcs
    exact ⟨none, 0, 0, [], rfl, by omega, by simp [maxLen], Reads.none_⟩
  · simp only [Value.cells, List.cons.injEq, Value.slice.injEq, and_true] at hcs
    obtain ⟨rfl, rfl, rfl⟩ := hcs
    refine ⟨some a, n0, c0, (List.range n0).map B, rfl, hl, hm, ?_, fun hn => ⟨a, rfl, ?_, ?_⟩⟩
    · simp [bools]
    · exact cell_lt_add (hcell 0 (by omega))
    · intro j u hj
      simp only [bools, List.map_map, List.getElem?_map, List.getElem?_range] at hj
      by_cases hjl : j < n0
      · simp [hjl] at hj
        rw [hcell j (by omega), ← hj]
      · simp [hjl] at hj
/-- A struct of a string and three numbers. -/
theorem op_door {f0 f1 f2 f3 : Field} (hs : P.underlying t = some (.struct #[f0, f1, f2, f3])) (hone : oneCellFields P #[f0, f1, f2, f3] = true) (hC : P.cellsOf t = 4)
    (h0 : P.underlying f0.type = some .string) (h1 : P.underlying f1.type = some (.int .i64)) (h2 : P.underlying f2.type = some (.int .i64)) (h3 : P.underlying f3.type = some (.int .i64))
    (hv : Value.okWide P W .any base t v) (h : DataW.Trod enc P W 0 (fun _ => true) true t v d p) :
    ∃ s a b c, v = .agg #[.string s, .int .i64 a, .int .i64 b, .int .i64 c] ∧ s.size ≤ maxLen := by
  obtain ⟨c0, c1, c2, c3, y0, y1, y2, y3, m, rfl, _, _, k0, k1, k2, k3⟩ := open_agg4 hs hone hC hv h
  obtain ⟨s, e0, _, w0⟩ := DataW.trod_string h0 k0
  obtain ⟨a, e1, _, w1⟩ := DataW.trod_int h1 k1
  obtain ⟨b, e2, _, w2⟩ := DataW.trod_int h2 k2
  obtain ⟨c, e3, _, w3⟩ := DataW.trod_int h3 k3
  simp only [List.cons.injEq, and_true] at e0 e1 e2 e3
  subst e0 e1 e2 e3
  exact ⟨s, a, b, c, rfl, w0⟩
end
end Go.Proofs.YtjmhhbjbmgpagaaGreat

/- Slices of numbers: plain lemmas and the contracts of slices.IndexFunc, ContainsFunc, Clone, Max, Min, of sums and of bounds. -/
namespace Go.Proofs.YtjmhhbjbmgpagaaGreat
set_option linter.unusedVariables false
set_option linter.unusedSimpArgs false
open Go.RowKit
section
variable {α : Type}
theorem take_snoc {xs : List α} {k : Nat} {x : α} (h : xs[k]? = some x) : xs.take (k + 1) = xs.take k ++ [x] := by
  rw [List.take_add_one, h]; simp
theorem mem_of_at {xs : List α} {k : Nat} {x : α} (h : xs[k]? = some x) : x ∈ xs := List.mem_of_getElem? h
theorem all_take {xs : List α} {p : α → Bool} {k : Nat} {x : α} (h : xs[k]? = some x) (ha : (xs.take k).all p = true) (hx : p x = true) : (xs.take (k + 1)).all p = true := by
  rw [take_snoc h]; simp [ha, hx]
theorem all_false {xs : List α} {p : α → Bool} {k : Nat} {x : α} (h : xs[k]? = some x) (hx : p x = false) : xs.all p = false := by
  rw [List.all_eq_false]; exact ⟨x, mem_of_at h, by rw [hx]; exact Bool.false_ne_true⟩
theorem all_whole {xs : List α} {p : α → Bool} {n : Nat} (hl : xs.length = n) (ha : (xs.take n).all p = true) : xs.all p = true := by
  rwa [List.take_of_length_le (by omega)] at ha
theorem all_mem {xs : List α} {p : α → Bool} (h : xs.all p = true) {x : α} (hx : x ∈ xs) : p x = true := List.all_eq_true.1 h x hx
/-- The first place at which p holds, or -1. -/
def idxI (p : α → Bool) (xs : List α) : Int := match xs.findIdx? p with | some k => (k : Int) | none => -1
theorem idx_at {p : α → Bool} {xs : List α} {k : Nat} {x : α} (h : xs[k]? = some x) (hx : p x = true) (hb : (xs.take k).any p = false) : idxI p xs = k := by
  have hk : k < xs.length := by
    rcases Nat.lt_or_ge k xs.length with h1 | h1
    · exact h1
    · rw [List.getElem?_eq_none h1] at h; cases h
  have e : xs.findIdx? p = some k := by
    rw [List.findIdx?_eq_some_iff_getElem]
    refine ⟨hk, ?_, fun j hj => ?_⟩
    · rw [List.getElem?_eq_getElem hk] at h
      rw [Option.some.inj h]; exact hx
    · rw [List.any_eq_false] at hb
      have hm : xs[j]'(by omega) ∈ xs.take k := by
        rw [List.mem_take_iff_getElem]
        exact ⟨j, by omega, rfl⟩
      exact hb _ hm
  unfold idxI; rw [e]
theorem idx_none {p : α → Bool} {xs : List α} (hb : xs.any p = false) : idxI p xs = -1 := by
  have e : xs.findIdx? p = none := by
    rw [List.findIdx?_eq_none_iff]
    intro x hx
    rw [List.any_eq_false] at hb
    simpa using hb x hx
  unfold idxI; rw [e]
theorem any_take {xs : List α} {p : α → Bool} {k : Nat} {x : α} (h : xs[k]? = some x) (ha : (xs.take k).any p = false) (hx : p x = false) : (xs.take (k + 1)).any p = false := by
  rw [take_snoc h]; simp [ha, hx]
theorem idx_any {p : α → Bool} {xs : List α} : decide (0 ≤ idxI p xs) = xs.any p := by
  unfold idxI
  cases e : xs.findIdx? p with
  | none =>
    rw [List.findIdx?_eq_none_iff] at e
    have : xs.any p = false := by rw [List.any_eq_false]; intro x hx; rw [e x hx]; exact Bool.false_ne_true
    rw [this]; rfl
  | some k =>
    rw [List.findIdx?_eq_some_iff_getElem] at e
    obtain ⟨hk, hp, _⟩ := e
    have : xs.any p = true := List.any_eq_true.2 ⟨_, List.getElem_mem hk, hp⟩
    rw [this]
    show decide (0 ≤ (k : Int)) = true
    exact decide_eq_true (by omega)
theorem idx_bnd (p : α → Bool) (xs : List α) : -1 ≤ idxI p xs ∧ idxI p xs ≤ xs.length := by
  unfold idxI
  cases e : xs.findIdx? p with
  | none => show -1 ≤ (-1 : Int) ∧ (-1 : Int) ≤ _; omega
  | some k =>
    rw [List.findIdx?_eq_some_iff_getElem] at e
    obtain ⟨hk, _⟩ := e
    show -1 ≤ (k : Int) ∧ (k : Int) ≤ _; omega
theorem any_not {xs : List α} {p : α → Bool} : (!xs.any fun x => !p x) = xs.all p := by
  induction xs with
  | nil => rfl
  | cons x t ih => simp [List.any_cons, List.all_cons, ← ih]
end
def sumI : List Int → Int
  | [] => 0
  | x :: t => x + sumI t
theorem sumI_append (a b : List Int) : sumI (a ++ b) = sumI a + sumI b := by
  induction a with
  | nil => simp [sumI]
  | cons x t ih => simp [sumI, ih]; omega
theorem sumI_snoc {xs : List Int} {k : Nat} {x : Int} (h : xs[k]? = some x) : sumI (xs.take (k + 1)) = sumI (xs.take k) + x := by
  rw [take_snoc h, sumI_append]; simp [sumI]
theorem sumI_bnd {M : Int} (hM : 0 ≤ M) : ∀ {xs : List Int}, (∀ x ∈ xs, -M ≤ x ∧ x ≤ M) → -(M * xs.length) ≤ sumI xs ∧ sumI xs ≤ M * xs.length
  | [], _ => by simp [sumI]
  | x :: t, h => by
    have h1 := h x (by simp)
    have h2 := sumI_bnd hM (xs := t) fun y hy => h y (by simp [hy])
    have e : M * ((x :: t).length : Nat) = M * (t.length : Nat) + M := by
      rw [List.length_cons]; rw [Int.natCast_add, Int.mul_add]; simp
    simp only [sumI, e]
    omega
theorem sumI_take_bnd {xs : List Int} {n k : Nat} {M : Int} (hM : 0 ≤ M) (hl : xs.length = n) (h : ∀ x ∈ xs, -M ≤ x ∧ x ≤ M) : -(M * n) ≤ sumI (xs.take k) ∧ sumI (xs.take k) ≤ M * n := by
  have h1 := sumI_bnd hM (xs := xs.take k) fun x hx => h x (List.mem_of_mem_take hx)
  have h2 : (xs.take k).length ≤ n := by simp; omega
  have h3 : M * ((xs.take k).length : Nat) ≤ M * (n : Nat) := Int.mul_le_mul_of_nonneg_left (by omega) hM
  omega
def allIn (l h : Int) (xs : List Int) : Bool := xs.all fun x => inB x l h
theorem allIn_mem {l h : Int} {xs : List Int} (e : allIn l h xs = true) {x : Int} (hx : x ∈ xs) : l ≤ x ∧ x ≤ h := inB_t (all_mem e hx)
set_option maxHeartbeats 800000 in
theorem indexFunc_any (A : Option Addr) (n c : Nat) (xs : List Int) (g : Nat) (cb : Array Value) (p : Int → Bool) (w : World) (eg : ∀ args W, (callFunc g args).run Tryz.prog W = .ok (.enter g args) W)
    (hr : Reads w w.heap.size 1 A n (ints xs)) (hn : n ≤ 1099511627776)
    (hf : ∀ (W : World) (x : Int), Below w.heap.size w W → x ∈ xs → Calls Tryz.prog g (#[.int .i64 x] ++ cb) W fun e w' => e = .returned (.bool (p x)) ∧ Below W.heap.size W w') :
    Calls Tryz.prog 119 #[.slice A n c, .func (.func g) #[] cb] w fun e w' => e = .returned (.int .i64 (idxI p xs)) ∧ Below w.heap.size w w' := by
  have HF := Lib.hid hf
  have HL := Lib.hid (ints_len hr)
  clear hf
  go_enter Tryz.func119, Tryz.ntmps119
  go_wp2
  go_loopw [8] (fun i wr => ∃ k : Nat, k ≤ n ∧ i = .int .i64 k ∧ Hid ((xs.take k).any p = false) ∧ Below w.heap.size w wr) (fun i _ => n - (intOf i).toNat)
  case atStart => exact ⟨0, by omega, rfl, by simp [Hid], Below.refl _ _⟩
  case round =>
    obtain ⟨k, hk, rfl, HK, hbw⟩ := hrel
    by_cases hlt : k < n
    · obtain ⟨ad, u, rfl, had, hx, hc⟩ := (hr.below hbw).at_ hlt
      obtain ⟨b, hb, rfl⟩ := ints_at hx
      have hcall := HF.out wr b hbw (mem_of_at hb)
      have HX := Lib.hid hb
      clear hb hx
      cases hp : p b <;> rw [hp] at hcall
      · have HP := Lib.hid hp
        clear hp
        go_wp2_with (go_at_fn g; refine hcall.mono ?_; rintro e w' ⟨rfl, hb1⟩)
        go_roundw
        case rel => exact ⟨k + 1, by omega, by go_num, any_take HX.out HK.out HP.out, hbw.trans (hb1.mono hbw.size)⟩
        case measure => simp [intOf]; omega
      · have HP := Lib.hid hp
        clear hp
        go_wp2_with (go_at_fn g; refine hcall.mono ?_; rintro e w' ⟨rfl, hb1⟩)
        go_ret
        exact ⟨ret_int (idx_at HX.out HP.out HK.out).symm, hbw.trans (hb1.mono hbw.size)⟩
    · have e : k = n := by omega
      subst e
      go_wp2
      go_ret
      have hall : xs.any p = false := by have := HK.out; rwa [List.take_of_length_le (by rw [HL.out]; omega)] at this
      exact ⟨ret_int (idx_none hall).symm, hbw⟩
theorem containsFunc_any (A : Option Addr) (n c : Nat) (xs : List Int) (g : Nat) (cb : Array Value) (p : Int → Bool) (w : World) (eg : ∀ args W, (callFunc g args).run Tryz.prog W = .ok (.enter g args) W)
    (hr : Reads w w.heap.size 1 A n (ints xs)) (hn : n ≤ 1099511627776)
    (hf : ∀ (W : World) (x : Int), Below w.heap.size w W → x ∈ xs → Calls Tryz.prog g (#[.int .i64 x] ++ cb) W fun e w' => e = .returned (.bool (p x)) ∧ Below W.heap.size W w') :
    Calls Tryz.prog 117 #[.slice A n c, .func (.func g) #[] cb] w fun e w' => e = .returned (.bool (xs.any p)) ∧ Below w.heap.size w w' := by
  have hc := indexFunc_any A n c xs g cb p w eg hr hn hf
  have HD := Lib.hid (idx_any (p := p) (xs := xs))
  clear hf
  go_enter Tryz.func117, Tryz.ntmps117
  go_wp2_with fail; ((with_reducible refine hc.mono ?_); rintro e w1 ⟨rfl, hb1⟩)
  go_wp2
  go_ret
  exact ⟨ret_bool HD.out, hb1⟩
theorem allWithinClosure_any (x l h : Int) (b1 b2 : Nat) (w : World) (h1 : w.cell? ⟨b1, 0, none⟩ = some (.int .i64 l)) (h2 : w.cell? ⟨b2, 0, none⟩ = some (.int .i64 h)) :
    Calls Tryz.prog 118 #[.int .i64 x, .pointer (some ⟨b1, 0, none⟩), .pointer (some ⟨b2, 0, none⟩)] w fun e w' => e = .returned (.bool (!inB x l h)) ∧ w = w' := by
  go_enter Tryz.func118, Tryz.ntmps118
  go_wp2_with fail; ((with_reducible refine (within_any _ _ _ _).mono ?_); rintro e w' ⟨rfl, rfl⟩)
  go_wp2
  go_ret
  exact ⟨rfl, rfl⟩
set_option maxRecDepth 100000 in
theorem allWithin_any (A : Option Addr) (n c : Nat) (xs : List Int) (l h : Int) (w : World) (hr : Reads w w.heap.size 1 A n (ints xs)) (hn : n ≤ 1099511627776) :
    Calls Tryz.prog 101 #[.slice A n c, .int .i64 l, .int .i64 h] w fun e w' => e = .returned (.bool (allIn l h xs)) ∧ Below w.heap.size w w' := by
  have hgen : ∀ (W : World) (b1 b2 : Nat), W.cell? ⟨b1, 0, none⟩ = some (.int .i64 l) → W.cell? ⟨b2, 0, none⟩ = some (.int .i64 h) → b1 < W.heap.size → b2 < W.heap.size → Reads W W.heap.size 1 A n (ints xs) →
      Calls Tryz.prog 117 #[.slice A n c, .func (.func 118) #[] #[.pointer (some ⟨b1, 0, none⟩), .pointer (some ⟨b2, 0, none⟩)]] W fun e w' => e = .returned (.bool (xs.any fun x => !inB x l h)) ∧ Below W.heap.size W w' := by
    intro W b1 b2 h1 h2 l1 l2 hrW
    refine containsFunc_any A n c xs _ _ (fun x => !inB x l h) W (fun _ _ => rfl) hrW hn fun W' x hb _ => ?_
    refine (allWithinClosure_any x l h b1 b2 W' (by rw [hb.cell l1]; exact h1) (by rw [hb.cell l2]; exact h2)).mono ?_
    rintro e w' ⟨rfl, rfl⟩
    exact ⟨rfl, Below.refl _ _⟩
  have HG := Lib.hid hgen
  have HR := ((hr.alloc (Nat.le_refl _) (.cells #[.int .i64 l] 2)).more (B' := w.heap.size + 1) (by omega)).alloc (by simp) (.cells #[.int .i64 h] 2) |>.more (B' := w.heap.size + 2) (by omega)
  clear hgen
  go_enter Tryz.func101, Tryz.ntmps101
  go_wp2_with fail; ((with_reducible refine (HG.out _ _ _ (by go_simp) (by go_simp) (by simp; omega) (by simp) (by simpa using HR)).mono ?_); rintro e w1 ⟨rfl, hb1⟩)
  go_wp2
  go_ret
  refine ⟨ret_bool (by unfold allIn; rw [← any_not]), ?_⟩
  exact (((Below.refl _ _).alloc (Nat.le_refl _) _).alloc (by simp) _).trans (hb1.mono (by simp; omega))
set_option maxHeartbeats 400000 in
theorem clone_any (A : Option Addr) (n c : Nat) (xs : List Int) (w : World) (hr : Reads w w.heap.size 1 A n (ints xs)) (hn : n ≤ 1048576) :
    Calls Tryz.prog 37 #[.slice A n c] w fun e w' => ∃ A' c', e = .returned (.slice A' n c') ∧ w'.ownsRow w.heap.size 2 1 (.slice A' n c') n (ints xs) ∧ Below w.heap.size w w' := by
  obtain ⟨i0, hi0, hz0, hz1, hz2⟩ := info_parts info_Int64S
  cases A with
  | none =>
    have h0 : n = 0 := by
      rcases Nat.eq_zero_or_pos n with h0 | h0
      · exact h0
      · obtain ⟨ad, h, _⟩ := hr.2 h0; cases h
    subst h0
    have hx : xs = [] := List.eq_nil_of_length_eq_zero (ints_len hr)
    subst hx
    have hnil := fun (W : World) => Lib.run_eql_slice_nil (P := Tryz.prog) W 25 2 none 0 c 0 0 Tryz.underlying25
    go_enter Tryz.func37, Tryz.ntmps37
    go_wp2
    go_ret
    exact ⟨none, 0, rfl, own_nil _ _ _ _, Below.refl _ _⟩
  | some ad =>
    have hnil := fun (W : World) => Lib.run_eql_slice_nil (P := Tryz.prog) W 25 2 (some ad) n c 0 0 Tryz.underlying25
    have hrc := fun (o : Obj) => (hr.alloc (Nat.le_refl _) o).cells
    have HL := Lib.hid (ints_len hr)
    go_enter Tryz.func37, Tryz.ntmps37
    go_wp2_with (at_builtin; refine wpList_app _ rfl _ _ 25 rfl w.heap.size 2 i0 _ 1 8 Tryz.underlying25 hi0 hz0 hz1 hz2 rfl (by omega) _ 0 0 [] rfl (own_empty _ _ _) ad n c (ints xs) rfl (by simp [ints]; exact HL.out) (hrc _) (ints_one xs) (by unfold maxLen; omega) (by omega) (by simp) ?_; intro A' c' w1 ho1 hb1)
    go_ret
    simp only [Nat.zero_add, List.nil_append] at ho1
    exact ⟨A', c', by simp, ho1, ((Below.refl _ _).alloc (Nat.le_refl _) _).trans hb1⟩
def maxL : List Int → Int
  | [] => 0
  | x :: t => t.foldl max x
def minL : List Int → Int
  | [] => 0
  | x :: t => t.foldl min x
theorem maxL_one {xs : List Int} {x : Int} (h : xs[0]? = some x) : maxL (xs.take 1) = x := by
  cases xs with
  | nil => simp at h
  | cons y t => simp at h; subst h; simp [maxL]
theorem minL_one {xs : List Int} {x : Int} (h : xs[0]? = some x) : minL (xs.take 1) = x := by
  cases xs with
  | nil => simp at h
  | cons y t => simp at h; subst h; simp [minL]
theorem maxL_snoc {xs : List Int} {k : Nat} {x : Int} (hk : 1 ≤ k) (h : xs[k]? = some x) : maxL (xs.take (k + 1)) = max (maxL (xs.take k)) x := by
  rw [take_snoc h]
  obtain ⟨j, rfl⟩ : ∃ j, k = j + 1 := ⟨k - 1, by omega⟩
  cases xs with
  | nil => simp at h
  | cons y t => simp [maxL]
theorem minL_snoc {xs : List Int} {k : Nat} {x : Int} (hk : 1 ≤ k) (h : xs[k]? = some x) : minL (xs.take (k + 1)) = min (minL (xs.take k)) x := by
  rw [take_snoc h]
  obtain ⟨j, rfl⟩ : ∃ j, k = j + 1 := ⟨k - 1, by omega⟩
  cases xs with
  | nil => simp at h
  | cons y t => simp [minL]
theorem foldmax_mem : ∀ (t : List Int) (x : Int), t.foldl max x = x ∨ t.foldl max x ∈ t
  | [], x => .inl rfl
  | y :: t, x => by
    simp only [List.foldl_cons]
    rcases foldmax_mem t (max x y) with h | h
    · rw [h]
      rcases Int.le_total x y with g | g
      · right; simp; omega
      · left; omega
    · right; simp [h]
theorem foldmin_mem : ∀ (t : List Int) (x : Int), t.foldl min x = x ∨ t.foldl min x ∈ t
  | [], x => .inl rfl
  | y :: t, x => by
    simp only [List.foldl_cons]
    rcases foldmin_mem t (min x y) with h | h
    · rw [h]
      rcases Int.le_total x y with g | g
      · left; omega
      · right; simp; omega
    · right; simp [h]
theorem maxL_mem {xs : List Int} (h : 1 ≤ xs.length) : maxL xs ∈ xs := by
  cases xs with
  | nil => simp at h
  | cons x t =>
    rcases foldmax_mem t x with g | g
    · simp only [maxL, g]; simp
    · simp only [maxL]; simp [g]
theorem minL_mem {xs : List Int} (h : 1 ≤ xs.length) : minL xs ∈ xs := by
  cases xs with
  | nil => simp at h
  | cons x t =>
    rcases foldmin_mem t x with g | g
    · simp only [minL, g]; simp
    · simp only [minL]; simp [g]
end Go.Proofs.YtjmhhbjbmgpagaaGreat

/- Slices of slices of numbers: reading, owning, and the laws' own helpers on them. -/
namespace Go.Proofs.YtjmhhbjbmgpagaaGreat
set_option linter.unusedVariables false
set_option linter.unusedSimpArgs false
open Go.RowKit
structure Row where
  A : Option Addr
  n : Nat
  c : Nat
  xs : List Int
def Row.val (r : Row) : Value := .slice r.A r.n r.c
def rowsV (rs : List Row) : List Value := rs.map Row.val
def dat (rs : List Row) : List (List Int) := rs.map Row.xs
/-- A slice of slices of numbers that reads. -/
structure RSS (w : World) (B : Nat) (A : Option Addr) (n : Nat) (rs : List Row) : Prop where
  out : Reads w B 1 A n (rowsV rs)
  row : ∀ r ∈ rs, Reads w B 1 r.A r.n (ints r.xs)
theorem RSS.below {w w' : World} {B n : Nat} {A : Option Addr} {rs : List Row} (h : RSS w B A n rs) (hb : Below B w w') : RSS w' B A n rs :=
  ⟨h.out.below hb, fun r hr => (h.row r hr).below hb⟩
theorem RSS.more {w : World} {B B' n : Nat} {A : Option Addr} {rs : List Row} (h : RSS w B A n rs) (hB : B ≤ B') : RSS w B' A n rs :=
  ⟨h.out.more hB, fun r hr => (h.row r hr).more hB⟩
theorem RSS.len {w : World} {B n : Nat} {A : Option Addr} {rs : List Row} (h : RSS w B A n rs) : rs.length = n := by
  have := h.out.1; simpa [rowsV] using this
theorem rowsV_at {rs : List Row} {k : Nat} {u : Value} (h : (rowsV rs)[k]? = some u) : ∃ r, rs[k]? = some r ∧ u = r.val := by
  unfold rowsV at h
  rw [List.getElem?_map] at h
  cases e : rs[k]? with
  | none => rw [e] at h; simp at h
  | some b => rw [e] at h; simp at h; exact ⟨b, rfl, h.symm⟩
theorem RSS.at_ {w : World} {B n k : Nat} {A : Option Addr} {rs : List Row} (h : RSS w B A n rs) (hk : k < n) :
    ∃ ad r, A = some ad ∧ rs[k]? = some r ∧ w.cell? (ad.add k) = some (.slice r.A r.n r.c) ∧ Reads w B 1 r.A r.n (ints r.xs) := by
  obtain ⟨ad, u, h1, _, h2, h3⟩ := h.out.at_ hk
  obtain ⟨r, h4, rfl⟩ := rowsV_at h2
  exact ⟨ad, r, h1, h4, h3, h.row r (List.mem_of_getElem? h4)⟩
theorem dat_at {rs : List Row} {k : Nat} {r : Row} (h : rs[k]? = some r) : (dat rs)[k]? = some r.xs := by
  unfold dat; rw [List.getElem?_map, h]; rfl
theorem dat_len (rs : List Row) : (dat rs).length = rs.length := by simp [dat]
def tot : List Row → Int
  | [] => 0
  | r :: t => r.n + tot t
theorem tot_nonneg : ∀ rs : List Row, 0 ≤ tot rs
  | [] => by simp [tot]
  | r :: t => by have := tot_nonneg t; simp only [tot]; omega
theorem tot_append (a b : List Row) : tot (a ++ b) = tot a + tot b := by
  induction a with
  | nil => simp [tot]
  | cons r t ih => simp only [List.cons_append, tot, ih]; omega
theorem tot_snoc {rs : List Row} {k : Nat} {r : Row} (h : rs[k]? = some r) : tot (rs.take (k + 1)) = tot (rs.take k) + r.n := by
  rw [List.take_add_one, h, tot_append]; simp [tot]
theorem tot_take (rs : List Row) (k : Nat) : tot (rs.take k) ≤ tot rs := by
  have e := tot_append (rs.take k) (rs.drop k)
  rw [List.take_append_drop] at e
  have := tot_nonneg (rs.drop k)
  omega
theorem tot_mem {rs : List Row} {r : Row} (h : r ∈ rs) : (r.n : Int) ≤ tot rs := by
  induction rs with
  | nil => simp at h
  | cons x t ih =>
    have h0 := tot_nonneg t
    rcases List.mem_cons.1 h with rfl | h
    · simp only [tot]; omega
    · have := ih h; simp only [tot]; omega
/-- What is left of l behind n places and all their numbers, or -1. -/
def szV (l : Int) (n : Nat) (rs : List Row) : Int := if l < n + tot rs then -1 else l - (n + tot rs)
theorem szV_y {l : Int} {n : Nat} {rs : List Row} (h : ¬ l < n + tot rs) : szV l n rs = l - (n + tot rs) := by unfold szV; rw [if_neg h]
theorem szV_n {l : Int} {n : Nat} {rs : List Row} (h : l < n + tot rs) : szV l n rs = -1 := by unfold szV; rw [if_pos h]
theorem szV_ok {l : Int} {n : Nat} {rs : List Row} (h : ¬ szV l n rs < 0) (hl : 0 ≤ l) : n + tot rs ≤ l := by
  unfold szV at h
  by_cases hc : l < n + tot rs
  · rw [if_pos hc] at h; omega
  · omega
theorem szV_bnd {l : Int} {n : Nat} {rs : List Row} (hl : 0 ≤ l) : -1 ≤ szV l n rs ∧ szV l n rs ≤ l := by
  have := tot_nonneg rs
  unfold szV
  split <;> omega
theorem szInt64S_any (A : Option Addr) (n c : Nat) (l : Int) (w : World) (h1 : 0 ≤ l) (h2 : l ≤ 1048576) (hn : n ≤ maxLen) :
    Calls Tryz.prog 85 #[.slice A n c, .int .i64 l] w fun e w' => e = .returned (.int .i64 (if l < n then -1 else l - n)) ∧ w = w' := by
  unfold maxLen at hn
  by_cases h : l < n
  all_goals
    go_enter Tryz.func85, Tryz.ntmps85
    go_wp2
    go_ret
    exact ⟨ret_int (by simp [h]), rfl⟩
set_option maxHeartbeats 400000 in
theorem szInt64SS_any (A : Option Addr) (n c : Nat) (rs : List Row) (l : Int) (w : World) (hr : RSS w w.heap.size A n rs) (h1 : 0 ≤ l) (h2 : l ≤ 1048576) (hn : n ≤ maxLen) (hrn : ∀ r ∈ rs, r.n ≤ maxLen) :
    Calls Tryz.prog 51 #[.slice A n c, .int .i64 l] w fun e w' => e = .returned (.int .i64 (szV l n rs)) ∧ w = w' := by
  unfold maxLen at hn
  have HL := Lib.hid hr.len
  have HM := Lib.hid hrn
  have t0 := tot_nonneg rs
  clear hrn
  by_cases hb : l < n
  · have HS := Lib.hid (szV_n (l := l) (n := n) (rs := rs) (by omega))
    go_enter Tryz.func51, Tryz.ntmps51
    go_wp2
    go_ret
    exact ⟨ret_int HS.out.symm, rfl⟩
  · go_enter Tryz.func51, Tryz.ntmps51
    go_wp2
    go_loop [1, 5] (fun s i => ∃ k : Nat, k ≤ n ∧ i = .int .i64 k ∧ s = .int .i64 (l - n - tot (rs.take k)) ∧ n + tot (rs.take k) ≤ l) (fun _ i => n - (intOf i).toNat)
    case atStart => exact ⟨0, by omega, rfl, by simp [tot], by simp [tot]; omega⟩
    case round =>
      obtain ⟨k, hk, rfl, rfl, hok⟩ := hrel
      have p0 := tot_nonneg (rs.take k)
      by_cases hlt : k < n
      · obtain ⟨ad, r, rfl, hx, hc, hrr⟩ := hr.at_ hlt
        have HX := Lib.hid (tot_snoc hx)
        have HT := Lib.hid (tot_take rs (k + 1))
        have hm := HM.out r (List.mem_of_getElem? hx)
        clear hx
        by_cases hs : l - n - tot (rs.take k) < r.n
        · have HS := Lib.hid (szV_n (l := l) (n := n) (rs := rs) (by have := HX.out; have := HT.out; omega))
          go_wp2_with (go_at_call 85; refine (szInt64S_any _ _ _ _ _ (by omega) (by omega) hm).mono ?_; rintro e w' ⟨rfl, rfl⟩; rw [if_pos hs])
          go_ret
          exact ⟨ret_int HS.out.symm, rfl⟩
        · go_wp2_with (go_at_call 85; refine (szInt64S_any _ _ _ _ _ (by omega) (by omega) hm).mono ?_; rintro e w' ⟨rfl, rfl⟩; rw [if_neg hs])
          go_round
          case rel => exact ⟨k + 1, by omega, by go_num, by rw [HX.out]; exact congrArg (Value.int .i64) (by omega), by rw [HX.out]; omega⟩
          case measure => simp [intOf]; omega
      · have e : k = n := by omega
        have HT : Hid (rs.take k = rs) := List.take_of_length_le (by rw [HL.out]; omega)
        have H3 : Hid (tot (rs.take n) = tot rs) := show tot (rs.take n) = tot rs by rw [List.take_of_length_le (by rw [HL.out]; omega)]
        rw [HT.out] at hok
        have HS := Lib.hid (szV_y (l := l) (n := n) (rs := rs) (by omega))
        go_wp2
        go_ret
        exact ⟨ret_int (by rw [HS.out, H3.out]; omega), rfl⟩
/-- A slice of slices of numbers that the call itself made, from block lo on: no two rows share a block. -/
structure OSS (w : World) (lo : Nat) (A : Option Addr) (n c : Nat) (rs : List Row) : Prop where
  out : w.ownsRow lo 25 1 (.slice A n c) n (rowsV rs)
  row : ∀ r ∈ rs, w.ownsRow lo 2 1 r.val r.n (ints r.xs)
  apart : rs.Pairwise fun r s => ∀ k, r.val.ownBlock = some k → s.val.ownBlock = some k → False
theorem OSS.below {w w' : World} {lo n c : Nat} {A : Option Addr} {rs : List Row} (h : OSS w lo A n c rs) (hb : Below w.heap.size w w') : OSS w' lo A n c rs :=
  ⟨own_below h.out hb, fun r hr => own_below (h.row r hr) hb, h.apart⟩
theorem OSS.reads {w : World} {lo n c : Nat} {A : Option Addr} {rs : List Row} (h : OSS w lo A n c rs) : RSS w w.heap.size A n rs :=
  ⟨Reads.of_own h.out, fun r hr => Reads.of_own (c := r.c) (h.row r hr)⟩
theorem OSS.base {w : World} {lo lo' n c : Nat} {A : Option Addr} {rs : List Row} (h : OSS w lo A n c rs) (hl : lo' ≤ lo) : OSS w lo' A n c rs :=
  ⟨own_base h.out hl, fun r hr => own_base (h.row r hr) hl, h.apart⟩
theorem info_Int64SS : (Tryz.prog.info? 25).map (fun i => (i.zero, i.size, i.bytes)) = some (some (.slice none 0 0), 1, 24) := by kernel_rfl
set_option maxHeartbeats 1600000 in
theorem toInt64SS_any (A : Option Addr) (n c : Nat) (rs : List Row) (w : World) (hr : RSS w w.heap.size A n rs) (hn : n ≤ 1048576) (hrn : ∀ r ∈ rs, r.n ≤ 1048576) :
    Calls Tryz.prog 66 #[.slice A n c] w fun e w' => ∃ rs', e = .returned (.slice (some ⟨w.heap.size, 0, none⟩) n n) ∧ OSS w' w.heap.size (some ⟨w.heap.size, 0, none⟩) n n rs' ∧ dat rs' = dat rs ∧ Below w.heap.size w w' := by
  have HL := Lib.hid hr.len
  have HM := Lib.hid hrn
  clear hrn
  have hmk := run_make_row' (P := Tryz.prog) 47 25 (.slice none 0 0) 24 Tryz.underlying47 info_Int64SS rfl .i64 .i64 n (by omega) (by omega)
  go_enter Tryz.func66, Tryz.ntmps66
  go_wp2
  go_loopw [4] (fun i wr => ∃ (k : Nat) (cur : Array Value) (rs' : List Row), k ≤ n ∧ i = .int .i64 k ∧ Blk wr w.heap.size 25 cur ∧
    Hid (cur.size = n ∧ rs'.length = k ∧ dat rs' = (dat rs).take k ∧ (∀ j, j < k → cur[j]? = (rowsV rs')[j]?) ∧ (∀ r ∈ rs', wr.ownsRow (w.heap.size + 1) 2 1 r.val r.n (ints r.xs)) ∧
      rs'.Pairwise fun r s => ∀ k, r.val.ownBlock = some k → s.val.ownBlock = some k → False) ∧ Below w.heap.size w wr) (fun i _ => n - (intOf i).toNat)
  case atStart => exact ⟨0, _, [], by omega, rfl, Blk.new _ _ _, ⟨size_madeCells _ _, rfl, by simp [dat], fun j hj => absurd hj (Nat.not_lt_zero _), fun r h => by simp at h, List.Pairwise.nil⟩, by (repeat (first | exact Below.refl _ _ | assumption | (refine Below.alloc ?_ (by first | exact Nat.le_refl _ | (simp; done) | (simp; omega)) _) | (refine below_drewN ?_ _) | (refine Below.trans ?_ (Below.mono (by assumption) (by first | exact Nat.le_refl _ | (simp; done) | (simp; omega) | omega)))))⟩
  case round =>
    obtain ⟨k, cur, rs', hk, rfl, hbk, HC, hbw⟩ := hrel
    have hz := hbw.size
    have hgl := hbk.lt
    by_cases hlt : k < n
    · obtain ⟨ad, r, rfl, hx, hc, hrr⟩ := (hr.below hbw).at_ hlt
      have hm := HM.out r (List.mem_of_getElem? hx)
      have HX := Lib.hid (dat_at hx)
      clear hx
      go_wp2_with fail; ((with_reducible refine (toInt64S_any r.A r.n r.c r.xs _ (hrr.more hz) hm).mono ?_); rintro e w1 ⟨rfl, ho1, hb1⟩)
      have hbk1 := hbk.below hb1 hgl
      have hcur : k < cur.size := by rw [HC.out.1]; exact hlt
      have hold : w1.cell? ⟨w.heap.size, k, none⟩ = some cur[k] := by rw [hbk1.cell k]; exact Array.getElem?_eq_getElem hcur
      have hfz := hbk1.frozen k
      go_wp2
      go_roundw
      case rel =>
        obtain ⟨c1, c2, c3, c4, c5, c6⟩ := HC.out
        have hown : ∀ q ∈ rs', w1.ownsRow (w.heap.size + 1) 2 1 q.val q.n (ints q.xs) := fun q hq => own_below (c5 q hq) hb1
        refine ⟨k + 1, _, rs' ++ [⟨some ⟨wr.heap.size, 0, none⟩, r.n, r.n, r.xs⟩], by omega, by go_num, hbk1.set_ k _, ⟨by simpa using c1, by simp [c2], ?_, fun j hj => ?_, ?_, ?_⟩, (hbw.trans (hb1.mono hz)).setCell (by simp) _⟩
        · rw [take_snoc' HX.out]
          unfold dat at *
          rw [List.map_append, c3]; rfl
        · rw [Array.getElem?_setIfInBounds]
          unfold rowsV
          rw [List.map_append]
          by_cases hjk : k = j
          · subst hjk
            rw [if_pos rfl, if_pos hcur, List.getElem?_append_right (by simp [c2])]
            simp [c2, Row.val]
          · rw [if_neg hjk, c4 j (by omega), List.getElem?_append_left (by simp [c2]; omega)]
            rfl
        · intro q hq
          rw [List.mem_append, List.mem_singleton] at hq
          rcases hq with hq | rfl
          · exact ownsRow_setCell_below (hown q hq) (by simp) _
          · exact ownsRow_setCell_below (own_base ho1 (by omega)) (by simp) _
        · rw [List.pairwise_append]
          refine ⟨c6, List.pairwise_singleton _ _, fun q hq s hs j h1 h2 => ?_⟩
          rw [List.mem_singleton] at hs
          subst hs
          have h3 := ((c5 q hq).lt j h1).2
          injection h2 with h2
          subst h2
          exact absurd h3 (Nat.lt_irrefl _)
      case measure => simp [intOf]; omega
    · have e : k = n := by omega
      subst e
      go_wp2
      go_ret
      obtain ⟨c1, c2, c3, c4, c5, c6⟩ := HC.out
      refine ⟨rs', rfl, ⟨own_of_blk hbk (by simpa [rowsV] using c2) c1 (wfmax hn) c4, fun r hr => own_base (c5 r hr) (by omega), c6⟩, ?_, hbw⟩
      rw [c3, List.take_of_length_le (by rw [dat_len, HL.out]; omega)]
set_option maxHeartbeats 1600000 in
theorem eqInt64SS_b (A B : Option Addr) (n c d : Nat) (rs qs : List Row) (w : World) (hr : RSS w w.heap.size A n rs) (hq : RSS w w.heap.size B n qs) (hd : dat rs = dat qs) (hn : n ≤ 1099511627776) (hrn : ∀ r ∈ rs, r.n ≤ 1099511627776) :
    Calls Tryz.prog 84 #[.slice A n c, .slice B n d] w fun e w' => e = .returned (.bool true) ∧ Below w.heap.size w w' := by
  have HM := Lib.hid hrn
  have HD := Lib.hid hd
  clear hrn hd
  go_enter Tryz.func84, Tryz.ntmps84
  go_wp2
  go_loopw [5] (fun i wr => ∃ (k : Nat), k ≤ n ∧ i = .int .i64 k ∧ Below w.heap.size w wr) (fun i _ => n - (intOf i).toNat)
  case atStart => exact ⟨0, by omega, rfl, Below.refl _ _⟩
  case round =>
    obtain ⟨k, hk, rfl, hbw⟩ := hrel
    have hz := hbw.size
    by_cases hlt : k < n
    · obtain ⟨ad, r, rfl, hx, hc, hrr⟩ := (hr.below hbw).at_ hlt
      obtain ⟨bd, q, rfl, hx', hc', hqq⟩ := (hq.below hbw).at_ hlt
      have hm := HM.out r (List.mem_of_getElem? hx)
      have hxs : r.xs = q.xs := by
        have h1 := dat_at hx
        rw [HD.out, dat_at hx'] at h1
        exact (Option.some.inj h1).symm
      have hrn : r.n = q.n := by
        have h1 := ints_len hrr
        have h2 := ints_len hqq
        rw [hxs] at h1
        omega
      have hlt' : (k : Int) < (n : Int) := by omega
      rw [hxs] at hrr
      obtain ⟨rA, rn, rc, rxs⟩ := r
      obtain ⟨qA, qn, qc, qxs⟩ := q
      simp only at hrn hrr hqq hc hc' hm
      subst hrn
      clear hx hx' hxs
      have hcall : ∀ m : Nat, Calls Tryz.prog 11 #[.slice rA rn rc, .slice qA rn qc] (wr.drewN m) fun e w' => e = .returned (.bool true) ∧ ∃ j, w' = (wr.drewN m).drewN j :=
        fun m => eqInt64S_same rA qA rn rc qc qxs _ ((hrr.more hz).drewN m) ((hqq.more hz).drewN m) hm
      have HK := Lib.hid hcall
      clear hcall
      go_wp2_with fail
      go_quiet ((go_at_call 11; exact Calls.quiet_of (HK.out _)))
      go_wp2
      go_roundw
      case rel => exact ⟨k + 1, by omega, by go_num, below_drewN hbw _⟩
      case measure => simp [intOf]; omega
    · go_wp2
      go_ret
      exact ⟨rfl, hbw⟩
end Go.Proofs.YtjmhhbjbmgpagaaGreat

/- Slices of records: words and plain lemmas. -/
namespace Go.Proofs.YtjmhhbjbmgpagaaGreat
set_option linter.unusedVariables false
set_option linter.unusedSimpArgs false
open Go.RowKit
/-- The cells cs lie from p on. -/
def Cells (w : World) (p : Addr) (cs : List Value) : Prop := ∀ j u, cs[j]? = some u → w.cell? (p.add j) = some u
section
variable {w w' : World} {p : Addr} {cs : List Value} {u : Value}
theorem Cells.z (h : Cells w p cs) (e : cs[0]? = some u) : w.cell? p = some u := h 0 u e
theorem Cells.at_ (h : Cells w p cs) (j : Nat) (e : cs[j + 1]? = some u) : w.cell? ⟨p.block, p.off + (j + 1), none⟩ = some u := h (j + 1) u e
theorem Cells.keep (h : Cells w p cs) (hk : ∀ q : Addr, q.block = p.block → w'.cell? q = w.cell? q) : Cells w' p cs := fun j u e => by
  rw [hk _ (block_of_add p j)]; exact h j u e
theorem Cells.below {B : Nat} (h : Cells w p cs) (hb : Below B w w') (hp : p.block < B) : Cells w' p cs := h.keep fun q hq => hb.cell (by omega)
theorem Cells.drewN (h : Cells w p cs) (n : Nat) : Cells (w.drewN n) p cs := h
theorem Cells.new (w : World) (a : Array Value) (t : TypeId) : Cells (w.alloc (.cells a t)) ⟨w.heap.size, 0, none⟩ a.toList := fun j u e => by
  rw [Addr.add]
  split
  · rename_i h
    subst h
    rw [(Blk.new w t a).cell 0]
    rwa [Array.getElem?_toList] at e
  · rw [show ({ (⟨w.heap.size, 0, none⟩ : Addr) with off := 0 + j, spot := none } : Addr) = ⟨w.heap.size, j, none⟩ by simp, (Blk.new w t a).cell j]
    rwa [Array.getElem?_toList] at e
end
section
variable {α : Type}
def recs (f : α → List Value) (xs : List α) : List Value := xs.flatMap f
theorem recs_append (f : α → List Value) (xs ys : List α) : recs f (xs ++ ys) = recs f xs ++ recs f ys := by unfold recs; simp
theorem recs_len {f : α → List Value} {z : Nat} (hz : ∀ x, (f x).length = z) (xs : List α) : (recs f xs).length = xs.length * z := by
  induction xs with
  | nil => simp [recs]
  | cons x t ih =>
    have : recs f (x :: t) = f x ++ recs f t := by simp [recs]
    rw [this, List.length_append, ih, hz, List.length_cons, Nat.add_mul]; omega
theorem recs_at {f : α → List Value} {z : Nat} (hz : ∀ x, (f x).length = z) {xs : List α} {k : Nat} {x : α} (h : xs[k]? = some x) {j : Nat} (hj : j < z) : (recs f xs)[k * z + j]? = (f x)[j]? := by
  have hk : k < xs.length := by
    rcases Nat.lt_or_ge k xs.length with h1 | h1
    · exact h1
    · rw [List.getElem?_eq_none h1] at h; cases h
  have e : xs = xs.take k ++ (x :: xs.drop (k + 1)) := by
    have h1 : xs[k] = x := by rw [List.getElem?_eq_getElem hk] at h; exact Option.some.inj h
    rw [← h1, List.getElem_cons_drop, List.take_append_drop]
  have hl : (recs f (xs.take k)).length = k * z := by rw [recs_len hz, List.length_take, Nat.min_eq_left (by omega)]
  rw [e, recs_append, List.getElem?_append_right (by omega), hl, Nat.add_sub_cancel_left]
  have : recs f (x :: xs.drop (k + 1)) = f x ++ recs f (xs.drop (k + 1)) := by simp [recs]
  rw [this, List.getElem?_append_left (by rw [hz]; exact hj)]
theorem Reads.rec_at {f : α → List Value} {z : Nat} (hz : ∀ x, (f x).length = z) {w : World} {B n : Nat} {A : Option Addr} {xs : List α} (h : Reads w B z A n (recs f xs)) (hzp : 0 < z) {k : Nat} (hk : k < n) :
    ∃ ad x, A = some ad ∧ ad.block < B ∧ xs[k]? = some x ∧ Cells w (ad.add (k * z)) (f x) := by
  obtain ⟨ad, e, hb, hc⟩ := h.2 (by omega)
  have hl : xs.length = n := by
    have h1 := h.1
    rw [recs_len hz] at h1
    exact Nat.eq_of_mul_eq_mul_right hzp h1
  refine ⟨ad, xs[k], e, hb, List.getElem?_eq_getElem (by omega), fun j u hu => ?_⟩
  rw [add_of_add]
  have hj : j < z := by
    rcases Nat.lt_or_ge j z with h1 | h1
    · exact h1
    · rw [List.getElem?_eq_none (by rw [hz]; exact h1)] at hu; cases hu
  exact hc _ u (by rw [recs_at hz (List.getElem?_eq_getElem (by omega)) hj]; exact hu)
theorem recs_rlen {f : α → List Value} {z : Nat} (hz : ∀ x, (f x).length = z) (hzp : 0 < z) {w : World} {B n : Nat} {A : Option Addr} {xs : List α} (h : Reads w B z A n (recs f xs)) : xs.length = n := by
  have h1 := h.1
  rw [recs_len hz] at h1
  exact Nat.eq_of_mul_eq_mul_right hzp h1
theorem recs_one {f : α → List Value} (hf : ∀ x, ∀ u ∈ f x, u.oneCell' = true) (xs : List α) : ∀ u ∈ recs f xs, u.oneCell' = true := by
  intro u hu
  unfold recs at hu
  obtain ⟨x, _, hx⟩ := List.mem_flatMap.1 hu
  exact hf x u hx
/-- Some cells are written from a place on. -/
def setL (cur : Array Value) (o : Nat) : List Value → Array Value
  | [] => cur
  | v :: t => setL (cur.setIfInBounds o v) (o + 1) t
theorem setL_size (vs : List Value) : ∀ (cur : Array Value) (o : Nat), (setL cur o vs).size = cur.size := by
  induction vs with
  | nil => intro cur o; rfl
  | cons v t ih => intro cur o; simp only [setL]; rw [ih]; simp
theorem setL_lo (vs : List Value) : ∀ (cur : Array Value) (o j : Nat), j < o → (setL cur o vs)[j]? = cur[j]? := by
  induction vs with
  | nil => intro cur o j h; rfl
  | cons v t ih =>
    intro cur o j h
    simp only [setL]
    rw [ih _ _ _ (by omega), Array.getElem?_setIfInBounds, if_neg (by omega)]
theorem setL_at (vs : List Value) : ∀ (cur : Array Value) (o j : Nat), j < vs.length → o + j < cur.size → (setL cur o vs)[o + j]? = vs[j]? := by
  induction vs with
  | nil => intro cur o j h; simp at h
  | cons v t ih =>
    intro cur o j h hs
    simp only [setL]
    rcases Nat.eq_zero_or_pos j with h0 | h0
    · subst h0
      rw [setL_lo _ _ _ _ (by omega), Array.getElem?_setIfInBounds, if_pos (by omega), if_pos (by omega)]; rfl
    · obtain ⟨i, rfl⟩ : ∃ i, j = i + 1 := ⟨j - 1, by omega⟩
      have h1 := ih (cur.setIfInBounds o v) (o + 1) i (by simp at h; omega) (by simp; omega)
      rw [show o + (i + 1) = o + 1 + i by omega, h1]; simp
theorem rel_set {f : α → List Value} {z : Nat} (hz : ∀ x, (f x).length = z) {xs : List α} {n k : Nat} {x : α} {cur : Array Value} (hx : xs[k]? = some x) (hk : k < n) (hs : cur.size = n * z) (ho : ∀ j, j < k * z → cur[j]? = (recs f xs)[j]?) :
    (setL cur (k * z) (f x)).size = n * z ∧ ∀ j, j < (k + 1) * z → (setL cur (k * z) (f x))[j]? = (recs f xs)[j]? := by
  refine ⟨by rw [setL_size]; exact hs, fun j hj => ?_⟩
  rw [Nat.add_mul, Nat.one_mul] at hj
  rcases Nat.lt_or_ge j (k * z) with h1 | h1
  · rw [setL_lo _ _ _ _ h1]; exact ho j h1
  · obtain ⟨i, rfl⟩ : ∃ i, j = k * z + i := ⟨j - k * z, by omega⟩
    have hkn : (k + 1) * z ≤ n * z := Nat.mul_le_mul_right z hk
    rw [Nat.add_mul, Nat.one_mul] at hkn
    rw [setL_at _ _ _ _ (by rw [hz]; omega) (by omega), recs_at hz hx (by omega)]
theorem own_of_blkZ {w : World} {g e n z : Nat} {cur : Array Value} {xs : List Value} (h : Blk w g e cur) (hl : xs.length = n * z) (hs : cur.size = n * z) (hm : n ≤ maxLen) (hx : ∀ j, j < n * z → cur[j]? = xs[j]?) :
    w.ownsRow g e z (.slice (some ⟨g, 0, none⟩) n n) n xs := by
  refine ⟨hl, .inr ⟨g, n, cur, rfl, Nat.le_refl _, h, Nat.le_refl _, hm, hs, ?_⟩⟩
  apply List.ext_getElem?
  intro j
  rw [List.getElem?_take]
  by_cases hj : j < n * z
  · rw [if_pos hj, Array.getElem?_toList, hx j hj]
  · rw [if_neg hj, List.getElem?_eq_none (by omega)]
theorem run_make_rowN {P : Program} (t e : TypeId) (i : TypeInfo) (z : Value) (ht : P.underlying t = some (.slice e)) (hi : P.info? e = some i) (hz : i.zero = some z)
    (kl kc : IntKind) (n c : Nat) (hnc : n ≤ c) (hbytes : i.bytes * c ≤ 281474976710656) (h63 : c ≤ 9223372036854775807) (w : World) :
    (Instr.makeSlice t (.int kl (n : Int)) (.int kc (c : Int))).run P w = .ok (.slice (some ⟨w.heap.size, 0, none⟩) n c) (w.alloc (.cells (madeCells z.cells (c * i.size)) e)) := by
  have hb : (i.bytes : Int) * (c : Int) ≤ 281474976710656 := by
    have h : ((i.bytes * c : Nat) : Int) ≤ 281474976710656 := by omega
    rwa [Int.natCast_mul] at h
  have hr := run_make (P := P) w t e i z ht hi hz kl kc n c (by omega) (by omega) hb (by omega)
  simp only [Int.toNat_natCast] at hr
  exact hr
/-- What is left of l behind s, or -1. -/
def szI (l s : Int) : Int := if l < s then -1 else l - s
theorem szI_n {l s : Int} (h : l < s) : szI l s = -1 := by unfold szI; rw [if_pos h]
theorem szI_y {l s : Int} (h : ¬ l < s) : szI l s = l - s := by unfold szI; rw [if_neg h]
def sumN (f : α → Nat) : List α → Int
  | [] => 0
  | x :: t => f x + sumN f t
theorem sumN_nonneg (f : α → Nat) : ∀ xs : List α, 0 ≤ sumN f xs
  | [] => by simp [sumN]
  | x :: t => by
    have := sumN_nonneg f t
    simp only [sumN]; omega
theorem sumN_append (f : α → Nat) (xs ys : List α) : sumN f (xs ++ ys) = sumN f xs + sumN f ys := by
  induction xs with
  | nil => simp [sumN]
  | cons x t ih => simp [sumN, ih]; omega
theorem sumN_snoc {f : α → Nat} {xs : List α} {k : Nat} {x : α} (h : xs[k]? = some x) : sumN f (xs.take (k + 1)) = sumN f (xs.take k) + f x := by
  rw [take_snoc h, sumN_append]; simp [sumN]
theorem sumN_take (f : α → Nat) (xs : List α) (k : Nat) : sumN f (xs.take k) ≤ sumN f xs := by
  have h : sumN f xs = sumN f (xs.take k) + sumN f (xs.drop k) := by rw [← sumN_append, List.take_append_drop]
  have := sumN_nonneg f (xs.drop k)
  omega
theorem sumN_mem {f : α → Nat} {xs : List α} {x : α} (h : x ∈ xs) : (f x : Int) ≤ sumN f xs := by
  induction xs with
  | nil => simp at h
  | cons y t ih =>
    have h0 := sumN_nonneg f t
    rcases List.mem_cons.1 h with rfl | h
    · simp only [sumN]; omega
    · have := ih h; simp only [sumN]; omega
end
theorem grown_below {a w w' : World} {row : Option Nat} (h : a.grownBy w row) (hb : Below w.heap.size w w') : a.grownBy w' row :=
  ⟨hb.os.trans h.os, hb.tape.trans h.tape, hb.output.trans h.output, Nat.le_trans h.size hb.size, fun i hi hn => (hb.block i (Nat.lt_of_lt_of_le hi h.size)).trans (h.block i hi hn)⟩
/-- What is left to write has few digits. -/
def Few (s : ByteArray) (k : Nat) : Prop := s.size ≤ 100 ∧ k < 2 ^ (100 - s.size)
theorem few_start {k : Nat} (h : k ≤ 1099511627776) : Few ByteArray.empty k := ⟨by show 0 ≤ 100; omega, Nat.lt_of_le_of_lt h (by show _ < 2 ^ 100; decide)⟩
theorem few_next {s t : ByteArray} {k : Nat} (h : Few s k) (h0 : 0 < k) (ht : t.size = 1) : Few (t ++ s) (k / 10) := by
  obtain ⟨h1, h2⟩ := h
  have e : (t ++ s).size = 1 + s.size := by rw [ByteArray.size_append, ht]
  rcases Nat.lt_or_ge s.size 100 with h3 | h3
  · refine ⟨by omega, ?_⟩
    rw [e]
    have h4 : 2 ^ (100 - s.size) = 2 * 2 ^ (100 - (1 + s.size)) := by
      rw [show 100 - s.size = (100 - (1 + s.size)) + 1 by omega, Nat.pow_succ]; omega
    omega
  · rw [show 100 - s.size = 0 by omega] at h2
    simp at h2; omega
set_option maxHeartbeats 800000 in
set_option maxRecDepth 20000 in
theorem markText_any (k : Int) (w : World) (h0 : 0 ≤ k) (h1 : k ≤ 1099511627776) :
    Calls Tryz.prog 48 #[.int .i64 k] w fun e w' => ∃ s, e = .returned (.string s) ∧ Below w.heap.size w w' := by
  by_cases hk : k ≤ 0
  · go_enter Tryz.func48, Tryz.ntmps48
    go_wp2
    go_ret
    exact ⟨_, rfl, Below.refl _ _⟩
  · have hconv : ∀ (W : World) (n : Int), (convert 104 9 (.slice (some ⟨W.heap.size, 0, none⟩) 1 1)).run Tryz.prog (W.alloc (.cells #[.int .u8 n] 5)) = .ok (.string (strOfNums [n])) (W.alloc (.cells #[.int .u8 n] 5)) := fun W n =>
      run_convert_bytes_arg _ 104 5 Tryz.underlying104 Tryz.underlying5 _ 0 1 1 [n] rfl (fun i hi => by
        obtain rfl : i = 0 := by omega
        exact cell_new1 W _ _) 9 Tryz.underlying9
    have hone : ∀ n : Int, (strOfNums [n]).size = 1 := fun n => rfl
    go_enter Tryz.func48, Tryz.ntmps48
    go_wp2
    go_loopw [0, 3] (fun a o wr => ∃ (k : Nat) (s : ByteArray), a = .int .i64 k ∧ o = .string s ∧ k ≤ 1099511627776 ∧ Hid (Few s k) ∧ Below w.heap.size w wr) (fun a _ _ => (intOf a).toNat)
    case atStart => exact ⟨k.toNat, ByteArray.empty, by go_num, rfl, by omega, few_start (by omega), Below.refl _ _⟩
    case round =>
      obtain ⟨k, s, rfl, rfl, hk1, HS, hbr⟩ := hrel
      have hs : s.size ≤ 100 := HS.out.1
      by_cases hlt : 0 < k
      · go_wp2
        go_roundw
        case rel => exact ⟨k / 10, _, by go_num, rfl, by omega, few_next HS.out hlt (hone _), hbr.alloc hbr.size _⟩
        case measure => simp [intOf]; omega
      · go_wp2
        go_ret
        exact ⟨_, rfl, hbr⟩
end Go.Proofs.YtjmhhbjbmgpagaaGreat
