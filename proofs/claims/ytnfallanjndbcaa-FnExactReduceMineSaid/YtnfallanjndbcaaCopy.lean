/- Contracts of the laws' own helpers on slices of numbers and of bools: copy, compare, mark, held. -/
import Derived.Test.YtnfallanjndbcaaNum
import Derived.Test.YtnfallanjndbcaaMem
namespace Go.Proofs.Ytnfallanjndbcaa
set_option linter.unusedVariables false
set_option linter.unusedSimpArgs false
open Go.RowKit
/-- A row of the call's own is a slice value of a known length. -/
theorem own_shape {w : World} {base e size n : Nat} {v : Value} {xs : List Value} (h : w.ownsRow base e size v n xs) : ∃ A c, v = .slice A n c := by
  rcases h.2 with ⟨rfl, rfl⟩ | ⟨g, cap, cur, rfl, _⟩
  · exact ⟨none, 0, rfl⟩
  · exact ⟨_, _, rfl⟩
theorem own_nil (w : World) (base e size : Nat) : w.ownsRow base e size (.slice none 0 0) 0 [] := World.ownsRow_nil w base e size
theorem own_empty (w : World) (e size : Nat) : (w.alloc (.cells #[] e)).ownsRow w.heap.size e size (.slice (some ⟨w.heap.size, 0, none⟩) 0 0) 0 [] :=
  World.ownsRow_made w #[] 0 (Nat.le_refl _) (by simp [maxLen]) (by simp)
theorem own_base {w : World} {base base' e size n : Nat} {v : Value} {xs : List Value} (h : w.ownsRow base e size v n xs) (hb : base' ≤ base) : w.ownsRow base' e size v n xs := by
  refine ⟨h.1, ?_⟩
  rcases h.2 with h0 | ⟨g, cap, cur, h1, h2, h3⟩
  · exact .inl h0
  · exact .inr ⟨g, cap, cur, h1, by omega, h3⟩
theorem own_keep {w w' : World} {base e size n : Nat} {v : Value} {xs : List Value} {row : Option Nat} (h : w.ownsRow base e size v n xs) (hg : w.grownBy w' row) (hne : ∀ k, v.ownBlock = some k → row = some k → False) : w'.ownsRow base e size v n xs := by
  refine h.kept hg ?_
  cases hv : v.ownBlock with
  | none => exact .inl rfl
  | some k => exact .inr fun e => hne k hv e.symm
theorem own_drewN {w : World} {base e size n : Nat} {v : Value} {xs : List Value} (h : w.ownsRow base e size v n xs) (m : Nat) : (w.drewN m).ownsRow base e size v n xs := h
theorem grown_drewN {w w' : World} {row : Option Nat} {m : Nat} (h : (w.drewN m).grownBy w' row) : w.grownBy w' row := ⟨h.os, h.tape, h.output, h.size, h.block⟩
/-- A row that lies at or above base stays where only a block below base has turned. -/
theorem own_far {w w' : World} {base e size n : Nat} {v : Value} {xs : List Value} {row : Option Nat} (h : w.ownsRow base e size v n xs) (hg : w.grownBy w' row) (hr : ∀ b, row = some b → b < base) : w'.ownsRow base e size v n xs := by
  refine h.kept hg ?_
  cases hv : v.ownBlock with
  | none => exact .inl rfl
  | some k =>
    refine .inr fun e => ?_
    have h1 := hr k (by rw [← e])
    have h2 := h.lt k hv
    omega
section
variable {P : Program} (w : World)
/-- append onto a row of the call's own: the new value, its row, and that below the row's base nothing has turned. -/
theorem wpList_app {ops : Array Oper} {rest : List Oper} {o : Oper} {a : Act} {Q : Exit → Act → World → Prop} (hgd : o.guard = none) (s x : Operand) (t : TypeId)
    (ho : o.op = .call { callee := .builtin .append, args := #[s, x], argTypes := #[t, t] })
    (base : Nat) (e : TypeId) (i : TypeInfo) (z : Value) (size bytes : Nat) (ht : P.underlying t = some (.slice e)) (hi : P.info? e = some i) (hz : i.zero = some z)
    (hsize : i.size = size) (hby : i.bytes = bytes) (hzs : z.cells.size = size) (hsz : 0 < size)
    (A : Option Addr) (n c : Nat) (xs : List Value) (hs : a.eval s = .slice A n c) (hown : w.ownsRow base e size (.slice A n c) n xs)
    (ad : Addr) (m d : Nat) (news : List Value) (hx : a.eval x = .slice (some ad) m d) (hl : news.length = m * size) (hnews : ∀ j u, news[j]? = some u → w.cell? (ad.add j) = some u) (h1 : ∀ u ∈ news, u.oneCell' = true)
    (h63 : n + m ≤ maxLen) (hbytes : (n + m) * bytes ≤ 140737488355328) (hbase : base ≤ w.heap.size)
    (h : ∀ A' c' w', w'.ownsRow base e size (.slice A' (n + m) c') (n + m) (xs ++ news) → Below base w w' → wpList P ops Q rest (a.put o.dst (.slice A' (n + m) c')) w') : wpList P ops Q (o :: rest) a w := by
  refine wpList_append_own w hgd s x t ho base e i z size bytes ht hi hz hsize hby hzs hsz _ n xs hs hown ad m d news hx hl hnews h1 h63 hbytes hbase fun v' w' h2 h3 _ => ?_
  obtain ⟨A', c', rfl⟩ := own_shape h2
  refine h A' c' w' h2 ((Below.refl _ _).grown h3 hbase fun k hk => ?_)
  exact (hown.lt k hk).1
end
theorem cell_one_at {W : World} {b : Nat} (h : W.heap.size = b) (v : Value) (t : TypeId) : ∀ j u, [v][j]? = some u → (W.alloc (.cells #[v] t)).cell? ((⟨b, 0, none⟩ : Addr).add j) = some u := by
  subst h; exact cell_one_new W v t
theorem take_snoc' {α : Type} {xs : List α} {k : Nat} {x : α} (h : xs[k]? = some x) : xs.take (k + 1) = xs.take k ++ [x] := by
  rw [List.take_add_one, h]; simp
def ints (xs : List Int) : List Value := xs.map (Value.int .i64)
def bools (xs : List Bool) : List Value := xs.map Value.bool
theorem bools_at {xs : List Bool} {k : Nat} {u : Value} (h : (bools xs)[k]? = some u) : ∃ b, xs[k]? = some b ∧ u = .bool b := by
  unfold bools at h
  rw [List.getElem?_map] at h
  cases e : xs[k]? with
  | none => rw [e] at h; simp at h
  | some b => rw [e] at h; simp at h; exact ⟨b, rfl, h.symm⟩
theorem ints_at {xs : List Int} {k : Nat} {u : Value} (h : (ints xs)[k]? = some u) : ∃ b, xs[k]? = some b ∧ u = .int .i64 b := by
  unfold ints at h
  rw [List.getElem?_map] at h
  cases e : xs[k]? with
  | none => rw [e] at h; simp at h
  | some b => rw [e] at h; simp at h; exact ⟨b, rfl, h.symm⟩
theorem bools_len {w : World} {B : Nat} {A : Option Addr} {n : Nat} {xs : List Bool} (h : Reads w B 1 A n (bools xs)) : xs.length = n := by have := h.1; simpa [bools] using this
theorem ints_len {w : World} {B : Nat} {A : Option Addr} {n : Nat} {xs : List Int} (h : Reads w B 1 A n (ints xs)) : xs.length = n := by have := h.1; simpa [ints] using this
theorem own_below {w w' : World} {base e size n : Nat} {v : Value} {xs : List Value} (h : w.ownsRow base e size v n xs) (hb : Below w.heap.size w w') : w'.ownsRow base e size v n xs := by
  refine h.kept (row := none) (only_of_below hb none) ?_
  cases hv : v.ownBlock with
  | none => exact .inl rfl
  | some k => exact .inr (by simp)
/-- A block of n cells that holds the list from its head. -/
theorem own_of_blk {w : World} {g e n : Nat} {cur : Array Value} {xs : List Value} (h : Blk w g e cur) (hl : xs.length = n) (hs : cur.size = n) (hm : n ≤ maxLen) (hx : ∀ j, j < n → cur[j]? = xs[j]?) :
    w.ownsRow g e 1 (.slice (some ⟨g, 0, none⟩) n n) n xs := by
  refine ⟨by omega, .inr ⟨g, n, cur, rfl, Nat.le_refl _, h, Nat.le_refl _, hm, by omega, ?_⟩⟩
  apply List.ext_getElem?
  intro j
  rw [List.getElem?_take]
  by_cases hj : j < n
  · rw [if_pos (by omega), Array.getElem?_toList, hx j hj]
  · rw [if_neg (by omega), List.getElem?_eq_none (by omega)]
theorem Reads.cells {w : World} {B size n : Nat} {ad : Addr} {xs : List Value} (h : Reads w B size (some ad) n xs) : ∀ j u, xs[j]? = some u → w.cell? (ad.add j) = some u := by
  intro j u hu
  rcases Nat.eq_zero_or_pos n with h0 | h0
  · have h1 := h.1
    rw [h0, Nat.zero_mul] at h1
    rw [List.eq_nil_of_length_eq_zero h1] at hu
    simp at hu
  · obtain ⟨ad', e, _, hc⟩ := h.2 h0
    injection e with e
    subst e
    exact hc j u hu
theorem ints_one (xs : List Int) : ∀ u ∈ ints xs, u.oneCell' = true := by
  intro u hu
  unfold ints at hu
  rw [List.mem_map] at hu
  obtain ⟨x, _, rfl⟩ := hu
  rfl
theorem bools_one (xs : List Bool) : ∀ u ∈ bools xs, u.oneCell' = true := by
  intro u hu
  unfold bools at hu
  rw [List.mem_map] at hu
  obtain ⟨x, _, rfl⟩ := hu
  rfl
theorem reads_new (W : World) (cs : Array Value) (t : TypeId) : Reads (W.alloc (.cells cs t)) (W.alloc (.cells cs t)).heap.size 1 (some ⟨W.heap.size, 0, none⟩) cs.size cs.toList := by
  refine ⟨by simp, fun _ => ⟨_, rfl, by simp, fun j u hu => ?_⟩⟩
  rw [Addr.add]
  split
  · rename_i h
    subst h
    rw [(Blk.new W t cs).cell 0]
    rwa [Array.getElem?_toList] at hu
  · rw [show ({ (⟨W.heap.size, 0, none⟩ : Addr) with off := 0 + j, spot := none } : Addr) = ⟨W.heap.size, j, none⟩ by simp, (Blk.new W t cs).cell j]
    rwa [Array.getElem?_toList] at hu
theorem wfmax {n : Nat} (h : n ≤ 1048576) : n ≤ maxLen := by unfold maxLen; omega
theorem info_BoolS : (Try.prog.info? 4).map (fun i => (i.zero, i.size, i.bytes)) = some (some (.bool false), 1, 1) := by kernel_rfl
theorem info_Int64S : (Try.prog.info? 2).map (fun i => (i.zero, i.size, i.bytes)) = some (some (.int .i64 0), 1, 8) := by kernel_rfl
set_option maxHeartbeats 800000 in
theorem toInt64S_any (A : Option Addr) (n c : Nat) (xs : List Int) (w : World) (hr : Reads w w.heap.size 1 A n (ints xs)) (hn : n ≤ 1048576) :
    Calls Try.prog 7 #[.slice A n c] w fun e w' => e = .returned (.slice (some ⟨w.heap.size, 0, none⟩) n n) ∧ w'.ownsRow w.heap.size 2 1 (.slice (some ⟨w.heap.size, 0, none⟩) n n) n (ints xs) ∧ Below w.heap.size w w' := by
  have HL := Lib.hid hr.1
  have hmk := run_make_row' (P := Try.prog) 25 2 (.int .i64 0) 8 Try.underlying25 info_Int64S rfl .i64 .i64 n (by omega) (by omega)
  go_enter Try.func7, Try.ntmps7
  go_wp2
  go_loopw [4] (fun i wr => ∃ (k : Nat) (cur : Array Value), k ≤ n ∧ i = .int .i64 k ∧ Blk wr w.heap.size 2 cur ∧ Hid (cur.size = n ∧ ∀ j, j < k → cur[j]? = (ints xs)[j]?) ∧ Below w.heap.size w wr) (fun i _ => n - (intOf i).toNat)
  case atStart => exact ⟨0, _, by omega, rfl, Blk.new _ _ _, ⟨size_madeCells _ _, fun j hj => absurd hj (Nat.not_lt_zero _)⟩, by (repeat (first | exact Below.refl _ _ | assumption | (refine Below.alloc ?_ (by first | exact Nat.le_refl _ | (simp; done) | (simp; omega)) _) | (refine below_drewN ?_ _) | (refine Below.trans ?_ (Below.mono (by assumption) (by first | exact Nat.le_refl _ | (simp; done) | (simp; omega) | omega)))))⟩
  case round =>
    obtain ⟨k, cur, hk, rfl, hbk, HC, hbw⟩ := hrel
    have hz := hbw.size
    by_cases hlt : k < n
    · obtain ⟨ad, u, rfl, had, hx, hc⟩ := (hr.below hbw).at_ hlt
      have hcur : k < cur.size := by rw [HC.out.1]; exact hlt
      have hold : wr.cell? ⟨w.heap.size, k, none⟩ = some cur[k] := by rw [hbk.cell k]; exact Array.getElem?_eq_getElem hcur
      have hfz := hbk.frozen k
      obtain ⟨b, hb, rfl⟩ := ints_at hx
      have HX := Lib.hid hx
      clear hb hx
      go_wp2
      go_roundw
      case rel =>
        refine ⟨k + 1, _, by omega, by go_num, hbk.set_ k _, ⟨by simpa using HC.out.1, fun j hj => ?_⟩, hbw.setCell (by simp) _⟩
        rw [Array.getElem?_setIfInBounds]
        by_cases hjk : k = j
        · subst hjk
          rw [if_pos rfl, if_pos hcur]; exact HX.out.symm
        · rw [if_neg hjk]; exact HC.out.2 j (by omega)
      case measure => simp [intOf]; omega
    · have e : k = n := by omega
      subst e
      go_wp2
      go_ret
      exact ⟨rfl, own_of_blk hbk (by simpa using HL.out) HC.out.1 (wfmax hn) HC.out.2, hbw⟩
set_option maxHeartbeats 800000 in
/-- Two slices that read as one list are equal. -/
theorem eqInt64S_same (A B : Option Addr) (n c d : Nat) (xs : List Int) (w : World) (hr : Reads w w.heap.size 1 A n (ints xs)) (hq : Reads w w.heap.size 1 B n (ints xs)) (hn : n ≤ 1099511627776) :
    Calls Try.prog 10 #[.slice A n c, .slice B n d] w fun e w' => e = .returned (.bool true) ∧ ∃ m, w' = w.drewN m := by
  go_enter Try.func10, Try.ntmps10
  go_wp2
  go_loopw [5] (fun i wr => ∃ (k m : Nat), k ≤ n ∧ i = .int .i64 k ∧ wr = w.drewN m) (fun i _ => n - (intOf i).toNat)
  case atStart => exact ⟨0, 0, by omega, rfl, rfl⟩
  case round =>
    obtain ⟨k, m, hk, rfl, rfl⟩ := hrel
    by_cases hlt : k < n
    · obtain ⟨ad, u, rfl, had, hx, hc⟩ := hr.at_ hlt
      obtain ⟨bd, u', rfl, hbd, hx', hc'⟩ := hq.at_ hlt
      obtain rfl : u = u' := by rw [hx] at hx'; exact Option.some.inj hx'
      obtain ⟨b, hb, rfl⟩ := ints_at hx
      clear hb hx hx'
      have hlt' : (k : Int) < (n : Int) := by omega
      go_wp2_with fail
      go_quiet (fail)
      go_wp2
      go_roundw
      case rel => exact ⟨k + 1, _, by omega, by go_num, rfl⟩
      case measure => simp [intOf]; omega
    · go_wp2
      go_ret
      exact ⟨rfl, _, rfl⟩
theorem eqInt64S_b (A B : Option Addr) (n c d : Nat) (xs : List Int) (w : World) (hr : Reads w w.heap.size 1 A n (ints xs)) (hq : Reads w w.heap.size 1 B n (ints xs)) (hn : n ≤ 1099511627776) :
    Calls Try.prog 10 #[.slice A n c, .slice B n d] w fun e w' => e = .returned (.bool true) ∧ Below w.heap.size w w' :=
  (eqInt64S_same A B n c d xs w hr hq hn).mono fun _ _ ⟨he, m, hm⟩ => ⟨he, by rw [hm]; exact below_drewN (Below.refl _ _) m⟩
def marksInt64S (k : Int) (n : Nat) : List Int := (List.range n).map fun (i : Nat) => k + (i : Int)
theorem marksInt64S_at {k : Int} {n j : Nat} (h : j < n) : (ints (marksInt64S k n))[j]? = some (.int .i64 (k + (j : Int))) := by
  unfold marksInt64S ints
  simp [h]
end Go.Proofs.Ytnfallanjndbcaa
