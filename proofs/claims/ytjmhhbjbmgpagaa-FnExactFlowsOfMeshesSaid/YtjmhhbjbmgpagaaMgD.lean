/- Several texts in one: Fans Awy Mine Lev Stl. -/
import Derived.Test.YtjmhhbjbmgpagaaMgC
import Derived.Test.YtjmhhbjbmgpagaaMgB
import Derived.Test.YtjmhhbjbmgpagaaMgA
/- Slices of fans: reading, owning, and the laws' own helpers on them. -/
namespace Go.Proofs.Ytjmhhbjbmgpagaa
set_option linter.unusedVariables false
set_option linter.unusedSimpArgs false
open Go.RowKit
structure Fan where
  s : ByteArray
  a : Int
  A : Option Addr
  n : Nat
  c : Nat
  rs : List Row
instance : Inhabited Fan := ⟨⟨ByteArray.empty, 0, none, 0, 0, []⟩⟩
def Fan.cells (x : Fan) : List Value := [.string x.s, .int .i64 x.a, .slice x.A x.n x.c]
theorem Fan.clen (x : Fan) : x.cells.length = 3 := rfl
abbrev Fan.recs (xs : List Fan) : List Value := Go.Proofs.Ytjmhhbjbmgpagaa.recs Fan.cells xs
def Fan.key (x : Fan) : ByteArray × Int × List (List Int) := (x.s, x.a, dat x.rs)
def fdat (xs : List Fan) : List (ByteArray × Int × List (List Int)) := xs.map Fan.key
theorem fdat_at {xs : List Fan} {k : Nat} {x : Fan} (h : xs[k]? = some x) : (fdat xs)[k]? = some x.key := by unfold fdat; rw [List.getElem?_map, h]; rfl
theorem fdat_len (xs : List Fan) : (fdat xs).length = xs.length := by simp [fdat]
def Fan.len (x : Fan) : Int := x.s.size + (x.n + tot x.rs)
theorem Fan.len_nonneg (x : Fan) : 0 ≤ x.len := by have := tot_nonneg x.rs; unfold Fan.len; omega
def fansLen : List Fan → Int
  | [] => 0
  | x :: t => x.len + fansLen t
theorem fansLen_nonneg : ∀ xs : List Fan, 0 ≤ fansLen xs
  | [] => by simp [fansLen]
  | x :: t => by have := fansLen_nonneg t; have := x.len_nonneg; simp only [fansLen]; omega
theorem fansLen_append (xs ys : List Fan) : fansLen (xs ++ ys) = fansLen xs + fansLen ys := by
  induction xs with
  | nil => simp [fansLen]
  | cons x t ih => simp only [List.cons_append, fansLen, ih]; omega
theorem fansLen_snoc {xs : List Fan} {k : Nat} {x : Fan} (h : xs[k]? = some x) : fansLen (xs.take (k + 1)) = fansLen (xs.take k) + x.len := by
  rw [take_snoc h, fansLen_append]; simp [fansLen]
theorem fansLen_take (xs : List Fan) (k : Nat) : fansLen (xs.take k) ≤ fansLen xs := by
  have h : fansLen xs = fansLen (xs.take k) + fansLen (xs.drop k) := by rw [← fansLen_append, List.take_append_drop]
  have := fansLen_nonneg (xs.drop k)
  omega
theorem fansLen_mem {xs : List Fan} {x : Fan} (h : x ∈ xs) : x.len ≤ fansLen xs := by
  induction xs with
  | nil => simp at h
  | cons y t ih =>
    have h0 := fansLen_nonneg t
    have h1 := y.len_nonneg
    rcases List.mem_cons.1 h with rfl | h
    · simp only [fansLen]; omega
    · have := ih h; simp only [fansLen]; omega
/-- As an argument hands it. -/
structure Fan.ok0 (x : Fan) : Prop where
  s : x.s.size ≤ maxLen
  n : x.n ≤ maxLen
  r : ∀ r ∈ x.rs, r.n ≤ maxLen
/-- As the size allows it. -/
structure Fan.ok (x : Fan) : Prop where
  s : x.s.size ≤ 1048576
  n : x.n ≤ 1048576
  r : ∀ r ∈ x.rs, r.n ≤ 1048576
  t : tot x.rs ≤ 1048576
theorem Fan.ok.sm {x : Fan} (h : x.ok) : x.s.size ≤ maxLen := wfmax h.s
theorem fans_ok {xs : List Fan} (h : fansLen xs ≤ 1048576) : ∀ x ∈ xs, x.ok := by
  intro x hx
  have h1 := fansLen_mem hx
  have h2 := tot_nonneg x.rs
  unfold Fan.len at h1
  exact ⟨by omega, by omega, fun r hr => by have := tot_mem hr; omega, by omega⟩
theorem totD_nonneg : ∀ l : List (List Int), 0 ≤ totD l
  | [] => by simp [totD]
  | x :: t => by have := totD_nonneg t; simp only [totD]; omega
/-- A slice of fans that reads. -/
structure FSS (w : World) (B : Nat) (A : Option Addr) (n : Nat) (xs : List Fan) : Prop where
  out : Reads w B 3 A n (Fan.recs xs)
  row : ∀ x ∈ xs, RSS w B x.A x.n x.rs
theorem FSS.below {w w' : World} {B n : Nat} {A : Option Addr} {xs : List Fan} (h : FSS w B A n xs) (hb : Below B w w') : FSS w' B A n xs := ⟨h.out.below hb, fun x hx => (h.row x hx).below hb⟩
theorem FSS.more {w : World} {B B' n : Nat} {A : Option Addr} {xs : List Fan} (h : FSS w B A n xs) (hB : B ≤ B') : FSS w B' A n xs := ⟨h.out.more hB, fun x hx => (h.row x hx).more hB⟩
theorem FSS.len {w : World} {B n : Nat} {A : Option Addr} {xs : List Fan} (h : FSS w B A n xs) : xs.length = n := recs_rlen Fan.clen (by omega) h.out
theorem FSS.at_ {w : World} {B n k : Nat} {A : Option Addr} {xs : List Fan} (h : FSS w B A n xs) (hk : k < n) :
    ∃ ad x, A = some ad ∧ ad.block < B ∧ xs[k]? = some x ∧ Cells w (ad.add (k * 3)) x.cells ∧ RSS w B x.A x.n x.rs := by
  obtain ⟨ad, x, h1, h2, h3, h4⟩ := h.out.rec_at Fan.clen (by omega) hk
  exact ⟨ad, x, h1, h2, h3, h4, h.row x (List.mem_of_getElem? h3)⟩
theorem Fan.open_ {w : World} {p : Addr} {x : Fan} (h : Cells w p x.cells) : w.cell? p = some (.string x.s) ∧ w.cell? ⟨p.block, p.off + 1, none⟩ = some (.int .i64 x.a) ∧ w.cell? ⟨p.block, p.off + 2, none⟩ = some (.slice x.A x.n x.c) :=
  ⟨h.z rfl, h.at_ 0 rfl, h.at_ 1 rfl⟩
/-- Fans whose curves lie one behind the other in blocks from lo up to hi. -/
def Chain (w : World) : Nat → List Fan → Nat → Prop
  | lo, [], hi => lo ≤ hi
  | lo, x :: t, hi => ∃ m, lo ≤ m ∧ Oss w lo m x.A x.n x.c x.rs ∧ Chain w m t hi
theorem Chain.le {w : World} : ∀ {lo : Nat} {xs : List Fan} {hi : Nat}, Chain w lo xs hi → lo ≤ hi
  | _, [], _, h => h
  | _, _ :: _, _, ⟨m, h1, _, h3⟩ => Nat.le_trans h1 h3.le
theorem same_sub {lo hi l m : Nat} {a b : World} (s : Same lo hi a b) (h1 : lo ≤ l) (h2 : m ≤ hi) : Same l m a b := ⟨fun i g1 g2 => s.blk i (by omega) (by omega), s.size⟩
theorem Chain.same {a b : World} : ∀ {lo : Nat} {xs : List Fan} {hi : Nat}, Chain a lo xs hi → Same lo hi a b → Chain b lo xs hi
  | _, [], _, h, _ => h
  | _, _ :: _, _, ⟨m, h1, h2, h3⟩, s => ⟨m, h1, h2.same (same_sub s (Nat.le_refl _) h3.le), h3.same (same_sub s h1 (Nat.le_refl _))⟩
theorem Oss.lower {w : World} {lo lo' hi n c : Nat} {A : Option Addr} {rs : List Row} (h : Oss w lo hi A n c rs) (hl : lo' ≤ lo) : Oss w lo' hi A n c rs := ⟨h.oss.base hl, h.top, h.rtop⟩
theorem Oss.raise {w : World} {lo hi hi' n c : Nat} {A : Option Addr} {rs : List Row} (h : Oss w lo hi A n c rs) (hl : hi ≤ hi') : Oss w lo hi' A n c rs := ⟨h.oss, fun k hk => Nat.lt_of_lt_of_le (h.top k hk) hl, fun r hr k hk => Nat.lt_of_lt_of_le (h.rtop r hr k hk) hl⟩
theorem Chain.snoc {w : World} : ∀ {lo : Nat} {xs : List Fan} {hi hi' : Nat} {x : Fan}, Chain w lo xs hi → hi ≤ hi' → Oss w hi hi' x.A x.n x.c x.rs → Chain w lo (xs ++ [x]) hi'
  | _, [], _, _, _, h, h2, h3 => ⟨_, Nat.le_trans h h2, h3.lower h, Nat.le_refl _⟩
  | _, _ :: _, _, _, _, ⟨m, g1, g2, g3⟩, h2, h3 => ⟨m, g1, g2, g3.snoc h2 h3⟩
theorem Chain.mem {w : World} : ∀ {lo : Nat} {xs : List Fan} {hi : Nat} {x : Fan}, Chain w lo xs hi → x ∈ xs → ∃ l m, Oss w l m x.A x.n x.c x.rs
  | _, [], _, _, _, h => by simp at h
  | _, y :: t, _, x, ⟨m, _, g2, g3⟩, h => by
    rcases List.mem_cons.1 h with rfl | h
    · exact ⟨_, _, g2⟩
    · exact g3.mem h
theorem oss_setLow {w : World} {lo hi n c : Nat} {A : Option Addr} {rs : List Row} (h : Oss w lo hi A n c rs) {p : Addr} (hp : p.block < lo) (u : Value) : Oss (w.setCell p u) lo hi A n c rs := ⟨h.oss.setLow hp u, h.top, h.rtop⟩
theorem Chain.setLow {w : World} {p : Addr} (u : Value) : ∀ {lo : Nat} {xs : List Fan} {hi : Nat}, Chain w lo xs hi → p.block < lo → Chain (w.setCell p u) lo xs hi
  | _, [], _, h, _ => h
  | _, _ :: _, _, ⟨m, g1, g2, g3⟩, hp => ⟨m, g1, oss_setLow g2 hp u, g3.setLow u (Nat.lt_of_lt_of_le hp g1)⟩
/-- Fans of the call's own: the row at block lo, the curves behind it, up to block hi. -/
structure Ofs (w : World) (lo hi : Nat) (A : Option Addr) (n c : Nat) (xs : List Fan) : Prop where
  own : w.ownsRow lo 85 3 (.slice A n c) n (Fan.recs xs)
  top : ∀ k, Value.ownBlock (.slice A n c) = some k → k < lo + 1
  le : lo + 1 ≤ hi
  chain : Chain w (lo + 1) xs hi
theorem Ofs.same {a b : World} {lo hi n c : Nat} {A : Option Addr} {xs : List Fan} (h : Ofs a lo hi A n c xs) (s : Same lo hi a b) : Ofs b lo hi A n c xs :=
  ⟨owns_same h.own h.top (same_sub s (Nat.le_refl _) h.le), h.top, h.le, h.chain.same (same_sub s (by omega) (Nat.le_refl _))⟩
theorem Ofs.reads {a : World} {lo hi n c : Nat} {A : Option Addr} {xs : List Fan} (h : Ofs a lo hi A n c xs) : FSS a a.heap.size A n xs :=
  ⟨Reads.of_own h.own, fun x hx => by obtain ⟨l, m, g⟩ := h.chain.mem hx; exact g.reads⟩
set_option maxHeartbeats 800000 in
theorem szFanS_any (A : Option Addr) (n c : Nat) (xs : List Fan) (l : Int) (w : World) (hr : FSS w w.heap.size A n xs) (h1 : 0 ≤ l) (h2 : l ≤ 1048576) (hn : n ≤ maxLen) (hxs : ∀ x ∈ xs, x.ok0) :
    Calls Try.prog 24 #[.slice A n c, .int .i64 l] w fun e w' => e = .returned (.int .i64 (szI l (n + fansLen xs))) ∧ Below w.heap.size w w' := by
  unfold maxLen at hn
  have HL := Lib.hid hr.len
  have HM := Lib.hid hxs
  have t0 := fansLen_nonneg xs
  clear hxs
  by_cases hb : l < n
  · have HS := Lib.hid (szI_n (l := l) (s := n + fansLen xs) (by omega))
    go_enter Try.func24, Try.ntmps24
    go_wp2
    go_ret
    exact ⟨ret_int HS.out.symm, Below.refl _ _⟩
  · go_enter Try.func24, Try.ntmps24
    go_wp2
    go_loopw [1, 5] (fun s i wr => ∃ k : Nat, k ≤ n ∧ i = .int .i64 k ∧ s = .int .i64 (l - n - fansLen (xs.take k)) ∧ n + fansLen (xs.take k) ≤ l ∧ Below w.heap.size w wr) (fun _ i _ => n - (intOf i).toNat)
    case atStart => exact ⟨0, by omega, rfl, by simp [fansLen], by simp [fansLen]; omega, Below.refl _ _⟩
    case round =>
      obtain ⟨k, hk, rfl, rfl, hok, hbr⟩ := hrel
      have p0 := fansLen_nonneg (xs.take k)
      by_cases hlt : k < n
      · obtain ⟨ad, x, rfl, had, hx, hc, hrr⟩ := (hr.below hbr).at_ hlt
        have HX := Lib.hid (fansLen_snoc hx)
        have HT := Lib.hid (fansLen_take xs (k + 1))
        have hm := HM.out x (List.mem_of_getElem? hx)
        have hs := hm.s
        have hn' := hm.n
        have cc := szFan_any x.s x.a x.A x.n x.c x.rs (l - n - fansLen (xs.take k)) wr hs (hrr.more hbr.size) (by omega) (by omega) hn' hm.r
        obtain ⟨h0, h1, h2⟩ := Fan.open_ hc
        clear hx hc hm hs hn'
        by_cases hs : l - n - fansLen (xs.take k) < x.len
        · have HS := Lib.hid (szI_n (l := l) (s := n + fansLen xs) (by have := HX.out; have := HT.out; omega))
          rw [szI_n (by simpa only [Fan.len] using hs)] at cc
          have HC := Lib.hid cc
          clear cc
          go_wp2_with fail; ((with_reducible refine HC.out.mono ?_); rintro e w1 ⟨rfl, hb1⟩)
          go_wp2
          go_ret
          exact ⟨ret_int HS.out.symm, hbr.trans (hb1.mono hbr.size)⟩
        · rw [szI_y (by simpa only [Fan.len] using hs), show l - n - fansLen (xs.take k) - ((x.s.size : Int) + ((x.n : Int) + tot x.rs)) = l - n - fansLen (xs.take k) - x.len from rfl] at cc
          have HC := Lib.hid cc
          clear cc
          go_wp2_with fail; ((with_reducible refine HC.out.mono ?_); rintro e w1 ⟨rfl, hb1⟩)
          go_wp2
          go_roundw
          case rel => exact ⟨k + 1, by omega, by go_num, by rw [HX.out]; exact congrArg (Value.int .i64) (by omega), by rw [HX.out]; omega, hbr.trans (hb1.mono hbr.size)⟩
          case measure => simp [intOf]; omega
      · have e : k = n := by omega
        have HT : Hid (xs.take k = xs) := List.take_of_length_le (by rw [HL.out]; omega)
        rw [HT.out] at hok
        have HS := Lib.hid (szI_y (l := l) (s := n + fansLen xs) (by omega))
        go_wp2
        go_ret
        exact ⟨ret_int (by rw [HS.out, HT.out]; omega), hbr⟩
theorem info_Fan : (Try.prog.info? 85).map (fun i => (i.zero, i.size, i.bytes)) = some (some (.agg #[.string ByteArray.empty, .int .i64 0, .slice none 0 0]), 3, 48) := by kernel_rfl
theorem fan_snoc {xs' xs : List Fan} {k : Nat} {x y : Fan} (h : fdat xs' = (fdat xs).take k) (hx : xs[k]? = some x) (hy : y.key = x.key) : fdat (xs' ++ [y]) = (fdat xs).take (k + 1) := by
  rw [take_snoc (fdat_at hx), ← h, ← hy]; simp [fdat]
set_option maxHeartbeats 1600000 in
theorem toFanS_any (A : Option Addr) (n c : Nat) (xs : List Fan) (w : World) (hr : FSS w w.heap.size A n xs) (hn : n ≤ 1048576) (hxs : ∀ x ∈ xs, x.ok) :
    Calls Try.prog 26 #[.slice A n c] w fun e w' => ∃ xs', e = .returned (.slice (some ⟨w.heap.size, 0, none⟩) n n) ∧ Ofs w' w.heap.size w'.heap.size (some ⟨w.heap.size, 0, none⟩) n n xs' ∧ fdat xs' = fdat xs ∧ (∀ x ∈ xs', x.ok) ∧ Below w.heap.size w w' := by
  have HL := Lib.hid hr.len
  have HM := Lib.hid hxs
  clear hxs
  obtain ⟨i0, hi0, hz0, hz1, hz2⟩ := info_parts info_Fan
  have hmk := run_make_rowN (P := Try.prog) 48 85 i0 _ Try.underlying48 hi0 hz0 .i64 .i64 n n (Nat.le_refl _) (by rw [hz2]; omega) (by omega)
  rw [hz1] at hmk
  go_enter Try.func26, Try.ntmps26
  go_wp2
  go_loopw [4] (fun i wr => ∃ (k : Nat) (cur : Array Value) (xs' : List Fan), k ≤ n ∧ i = .int .i64 k ∧ Blk wr w.heap.size 85 cur ∧
    Hid (cur.size = n * 3 ∧ xs'.length = k ∧ fdat xs' = (fdat xs).take k ∧ (∀ j, j < k * 3 → cur[j]? = (Fan.recs xs')[j]?) ∧ (∀ x ∈ xs', x.ok) ∧ Chain wr (w.heap.size + 1) xs' wr.heap.size) ∧ Below w.heap.size w wr) (fun i _ => n - (intOf i).toNat)
  case atStart => exact ⟨0, _, [], by omega, rfl, Blk.new _ _ _, ⟨size_madeCells _ _, rfl, by simp [fdat], fun j hj => absurd hj (by omega), fun x h => by simp at h, by simp [Chain]⟩, by (repeat (first | exact Below.refl _ _ | assumption | (refine Below.alloc ?_ (by first | exact Nat.le_refl _ | (simp; done) | (simp; omega)) _) | (refine below_drewN ?_ _) | (refine Below.trans ?_ (Below.mono (by assumption) (by first | exact Nat.le_refl _ | (simp; done) | (simp; omega) | omega)))))⟩
  case round =>
    obtain ⟨k, cur, xs', hk, rfl, hbk, HC, hbw⟩ := hrel
    have hz := hbw.size
    have hgl := hbk.lt
    by_cases hlt : k < n
    · obtain ⟨ad, x, rfl, had, hx, hc, hrr⟩ := (hr.below hbw).at_ hlt
      have hm := HM.out x (List.mem_of_getElem? hx)
      have HX := Lib.hid hx
      have HRR := Lib.hid hrr
      obtain ⟨h0, h1, h2⟩ := Fan.open_ hc
      have cc := toFan_any x.s x.a x.A x.n x.c x.rs wr hm.sm (hrr.more hz) hm.n hm.r
      have HMx := Lib.hid hm
      clear hx hc hm
      go_wp2_with fail; ((with_reducible refine cc.mono ?_); rintro e w1 ⟨A', rs', rfl, o1, D1, hb1⟩)
      clear cc
      have HO := Lib.hid (oss_mk o1)
      have HD := Lib.hid D1
      have hz1 := hb1.size
      clear o1 D1
      have hbk1 := hbk.below hb1 hgl
      have hcs : Hid (cur.size = n * 3) := HC.out.1
      have hkz : k * 3 + 2 < cur.size := by rw [hcs.out]; omega
      have o0 : w1.cell? ⟨w.heap.size, k * 3, none⟩ = some (cur[k * 3 + 0]'(by omega)) := by rw [hbk1.cell]; exact Array.getElem?_eq_getElem (by omega)
      have f0 := hbk1.frozen (k * 3)
      have o1 : w1.cell? ⟨w.heap.size, k * 3 + 1, none⟩ = some (cur[k * 3 + 1]'(by omega)) := by rw [hbk1.cell]; exact Array.getElem?_eq_getElem (by omega)
      have f1 := hbk1.frozen (k * 3 + 1)
      have o2 : w1.cell? ⟨w.heap.size, k * 3 + 2, none⟩ = some (cur[k * 3 + 2]'(by omega)) := by rw [hbk1.cell]; exact Array.getElem?_eq_getElem (by omega)
      have f2 := hbk1.frozen (k * 3 + 2)
      have HY : Hid (Chain w1 (w.heap.size + 1) (xs' ++ [Fan.mk x.s x.a A' x.n x.n rs']) w1.heap.size) :=
        (HC.out.2.2.2.2.2.same ((Same.refl _ _ wr).below hb1 (Nat.le_refl _))).snoc hz1 HO.out
      have HW : Hid (∀ y ∈ xs' ++ [Fan.mk x.s x.a A' x.n x.n rs'], Fan.ok y) := by
        intro y hy
        rcases List.mem_append.1 hy with hy | hy
        · exact HC.out.2.2.2.2.1 y hy
        · rw [List.mem_singleton] at hy
          subst hy
          exact ⟨HMx.out.s, HMx.out.n, bound_dat HRR.out HO.out.reads HD.out HMx.out.r, by show tot rs' ≤ _; rw [tot_eq HRR.out HO.out.reads HD.out]; exact HMx.out.t⟩
      go_wp2
      go_roundw
      case rel =>
        obtain ⟨c1, c2, c3, c4, c5, c6⟩ := HC.out
        have HS := rel_set (n := n) (cur := cur) (xs := xs' ++ [Fan.mk x.s x.a A' x.n x.n rs']) (k := k) (x := Fan.mk x.s x.a A' x.n x.n rs') Fan.clen (by rw [List.getElem?_append_right (by omega), c2, Nat.sub_self]; rfl) hlt c1 (fun j hj => by
          rw [c4 j hj]
          unfold Fan.recs
          rw [recs_append, List.getElem?_append_left (by rw [recs_len Fan.clen, c2]; exact hj)])
        refine ⟨k + 1, _, xs' ++ [Fan.mk x.s x.a A' x.n x.n rs'], by omega, by go_num, (((hbk1.set_ (k * 3) _).set_ (k * 3 + 1) _).set_ (k * 3 + 2) _), ⟨HS.1, by simp [c2], fan_snoc (y := Fan.mk x.s x.a A' x.n x.n rs') c3 HX.out (by unfold Fan.key; rw [HD.out]), HS.2, HW.out, ?_⟩, ?_⟩
        · simp only [World.size_setCell]
          exact ((HY.out.setLow _ (by simp)).setLow _ (by simp)).setLow _ (by simp)
        · exact ((((hbw.trans (hb1.mono hz)).setCell (by simp) _).setCell (by simp) _).setCell (by simp) _)
      case measure => simp [intOf]; omega
    · have e : k = n := by omega
      subst e
      go_wp2
      go_ret
      obtain ⟨c1, c2, c3, c4, c5, c6⟩ := HC.out
      refine ⟨xs', rfl, ⟨own_of_blkZ hbk (by unfold Fan.recs; rw [recs_len Fan.clen, c2]) c1 (wfmax hn) c4, fun j hj => ?_, hgl, c6⟩, by rw [c3, List.take_of_length_le (by rw [fdat_len, HL.out]; omega)], c5, hbw⟩
      simp [Value.ownBlock] at hj; omega
set_option maxHeartbeats 1600000 in
set_option maxRecDepth 100000 in
theorem eqFanS_b (A B : Option Addr) (n c d : Nat) (xs ys : List Fan) (w : World) (hr : FSS w w.heap.size A n xs) (hq : FSS w w.heap.size B n ys) (hd : fdat xs = fdat ys) (hn : n ≤ 1099511627776) (hxs : ∀ x ∈ xs, x.ok) :
    Calls Try.prog 28 #[.slice A n c, .slice B n d] w fun e w' => e = .returned (.bool true) ∧ Below w.heap.size w w' := by
  have HM := Lib.hid hxs
  have HD := Lib.hid hd
  clear hxs hd
  go_enter Try.func28, Try.ntmps28
  go_wp2
  go_loopw [5] (fun i wr => ∃ (k : Nat), k ≤ n ∧ i = .int .i64 k ∧ Below w.heap.size w wr) (fun i _ => n - (intOf i).toNat)
  case atStart => exact ⟨0, by omega, rfl, Below.refl _ _⟩
  case round =>
    obtain ⟨k, hk, rfl, hbw⟩ := hrel
    have hz := hbw.size
    by_cases hlt : k < n
    · obtain ⟨ad, x, rfl, had, hx, hc, hrx⟩ := (hr.below hbw).at_ hlt
      obtain ⟨bd, y, rfl, hbd, hy, hc', hry⟩ := (hq.below hbw).at_ hlt
      have hm := HM.out x (List.mem_of_getElem? hx)
      have hkey : x.key = y.key := by
        have h1 := fdat_at hx
        rw [HD.out, fdat_at hy] at h1
        exact (Option.some.inj h1).symm
      obtain ⟨h0, h1, h2⟩ := Fan.open_ hc
      obtain ⟨k0, k1, k2⟩ := Fan.open_ hc'
      obtain ⟨xs, xa, xA, xn, xc, xr⟩ := x
      obtain ⟨ys, ya, yA, yn, yc, yr⟩ := y
      simp only [Fan.key, Prod.mk.injEq] at hkey
      obtain ⟨rfl, rfl, hdd⟩ := hkey
      simp only at h0 h1 h2 k0 k1 k2 hrx hry
      obtain rfl : xn = yn := by
        have g1 := hrx.len
        have g2 := hry.len
        have g3 := congrArg List.length hdd
        rw [dat_len, dat_len] at g3
        omega
      have hlt' : (k : Int) < (n : Int) := by omega
      have HE : Hid (Calls Try.prog 70 #[.agg #[.string xs, .int .i64 xa, .slice xA xn xc], .agg #[.string xs, .int .i64 xa, .slice yA xn yc]] wr.drew fun e w' => e = .returned (.bool true) ∧ Below wr.drew.heap.size wr.drew w') :=
        eqFan_b xs xa xA yA xn xc yc xr yr wr.drew ((hrx.below (below_drew (Below.refl _ _))).more hz) ((hry.below (below_drew (Below.refl _ _))).more hz) hdd (by have := hm.n; simp only at this; omega) (fun r hr => Nat.le_trans (hm.r r hr) (by omega))
      clear hx hy hc hc' hdd hm
      go_wp2
      go_still_tail 8, (by kernel_rfl)
      go_wp2_with fail; ((with_reducible refine HE.out.mono ?_); rintro e w1 ⟨rfl, hb1⟩)
      go_wp2
      go_roundw
      case rel => exact ⟨k + 1, by omega, by go_num, (below_drew hbw).trans (hb1.mono hz)⟩
      case measure => simp [intOf]; omega
    · go_wp2
      go_ret
      exact ⟨rfl, hbw⟩
end Go.Proofs.Ytjmhhbjbmgpagaa

/- Contracts of the test of an airway, and of its ends. -/
namespace Go.Proofs.Ytjmhhbjbmgpagaa
set_option linter.unusedVariables false
set_option linter.unusedSimpArgs false
open Go.RowKit
theorem quietE' {P : Program} {f : FuncId} {args : Array Value} {w : World} {n : Nat} {b c : Bool}
    (h : Calls P f args (w.drewN n) fun e w' => e = .returned (.bool b) ∧ w.drewN n = w') (hb : b = c) : Calls P f args (w.drewN n) fun e w'' => e = .returned (.bool c) ∧ ∃ m, w'' = w.drewN m :=
  h.mono fun _ _ ⟨he, hm⟩ => ⟨by rw [he, hb], n, hm.symm⟩
theorem quietBD {P : Program} {f : FuncId} {args : Array Value} {w : World} {n : Nat} {b c : Bool}
    (h : Calls P f args (w.drewN n) fun e w' => e = .returned (.bool b) ∧ ∃ m, w' = (w.drewN n).drewN m) (hb : b = c) : Calls P f args (w.drewN n) fun e w'' => e = .returned (.bool c) ∧ ∃ m, w'' = w.drewN m :=
  Calls.quiet_of (h.mono fun _ _ ⟨he, hm⟩ => ⟨by rw [he, hb], hm⟩)
def awyOk (x : Awy) : Bool := isName x.s && inB x.a 0 15 && inB x.b 0 15 && !(x.a == x.b) && inB x.l 1 10000 && inB x.c 50 5000 && inB x.f 1 1000 && inB x.h 0 1000
theorem awyOk_t {x : Awy} (h : awyOk x = true) : (0 ≤ x.a ∧ x.a ≤ 15) ∧ (0 ≤ x.b ∧ x.b ≤ 15) ∧ x.a ≠ x.b ∧ (1 ≤ x.l ∧ x.l ≤ 10000) ∧ (50 ≤ x.c ∧ x.c ≤ 5000) ∧ (1 ≤ x.f ∧ x.f ≤ 1000) ∧ (0 ≤ x.h ∧ x.h ≤ 1000) := by
  unfold awyOk at h
  simp only [Bool.and_eq_true, Bool.not_eq_true', beq_eq_false_iff_ne, ne_eq] at h
  have h1 := inB_t h.1.1.1.1.1.1.2
  have h2 := inB_t h.1.1.1.1.1.2
  have h3 := inB_t h.1.1.1.2
  have h4 := inB_t h.1.1.2
  have h5 := inB_t h.1.2
  have h6 := inB_t h.2
  exact ⟨h1, h2, h.1.1.1.1.2, h3, h4, h5, h6⟩
set_option maxHeartbeats 1600000 in
theorem l03Ok_any (x : Awy) (p : Addr) (w : World) (hs : x.s.size ≤ maxLen) (hc : Cells w p x.cells) :
    Calls Try.prog 102 #[.pointer (some p)] w fun e w' => e = .returned (.bool (awyOk x)) ∧ ∃ n, w' = w.drewN n := by
  obtain ⟨h0, h1, h2, h3, h4, h5, h6⟩ := Awy.open_ hc
  clear hc
  rcases Bool.eq_false_or_eq_true (isName x.s) with k0 | k0
  · rcases Bool.eq_false_or_eq_true (inB x.a 0 15) with k1 | k1
    · rcases Bool.eq_false_or_eq_true (inB x.b 0 15) with k2 | k2
      · rcases Bool.eq_false_or_eq_true (x.a == x.b) with k3 | k3
        · go_enter Try.func102, Try.ntmps102
          go_wp2
          go_quiet ((first | (go_at_call 145; exact quietE' (l01Name_any _ _ hs) k0) | (go_at_call 77; first | exact quietE' (l00In_any _ _ _ _) k1 | exact quietE' (l00In_any _ _ _ _) k2)))
          go_wp2_with (go_at_call 77; refine (l00In_any _ _ _ _).mono ?_; rintro e w' ⟨rfl, rfl⟩)
          go_ret
          exact ⟨ret_bool (by simp [awyOk, k0, k1, k2, k3]), _, rfl⟩
        · rcases Bool.eq_false_or_eq_true (inB x.l 1 10000) with k4 | k4
          · rcases Bool.eq_false_or_eq_true (inB x.c 50 5000) with k5 | k5
            · rcases Bool.eq_false_or_eq_true (inB x.f 1 1000) with k6 | k6
              · rcases Bool.eq_false_or_eq_true (inB x.h 0 1000) with k7 | k7
                · go_enter Try.func102, Try.ntmps102
                  go_wp2
                  go_quiet ((first | (go_at_call 145; exact quietE' (l01Name_any _ _ hs) k0) | (go_at_call 77; first | exact quietE' (l00In_any _ _ _ _) k1 | exact quietE' (l00In_any _ _ _ _) k2)))
                  go_wp2_with (go_at_call 77; refine (l00In_any _ _ _ _).mono ?_; rintro e w' ⟨rfl, rfl⟩)
                  go_ret
                  exact ⟨ret_bool (by simp [awyOk, k0, k1, k2, k3, k4, k5, k6, k7]), _, rfl⟩
                · go_enter Try.func102, Try.ntmps102
                  go_wp2
                  go_quiet ((first | (go_at_call 145; exact quietE' (l01Name_any _ _ hs) k0) | (go_at_call 77; first | exact quietE' (l00In_any _ _ _ _) k1 | exact quietE' (l00In_any _ _ _ _) k2)))
                  go_wp2_with (go_at_call 77; refine (l00In_any _ _ _ _).mono ?_; rintro e w' ⟨rfl, rfl⟩)
                  go_ret
                  exact ⟨ret_bool (by simp [awyOk, k0, k1, k2, k3, k4, k5, k6, k7]), _, rfl⟩
              · go_enter Try.func102, Try.ntmps102
                go_wp2
                go_quiet ((first | (go_at_call 145; exact quietE' (l01Name_any _ _ hs) k0) | (go_at_call 77; first | exact quietE' (l00In_any _ _ _ _) k1 | exact quietE' (l00In_any _ _ _ _) k2)))
                go_wp2_with (go_at_call 77; refine (l00In_any _ _ _ _).mono ?_; rintro e w' ⟨rfl, rfl⟩)
                go_ret
                exact ⟨ret_bool (by simp [awyOk, k0, k1, k2, k3, k4, k5, k6]), _, rfl⟩
            · go_enter Try.func102, Try.ntmps102
              go_wp2
              go_quiet ((first | (go_at_call 145; exact quietE' (l01Name_any _ _ hs) k0) | (go_at_call 77; first | exact quietE' (l00In_any _ _ _ _) k1 | exact quietE' (l00In_any _ _ _ _) k2)))
              go_wp2_with (go_at_call 77; refine (l00In_any _ _ _ _).mono ?_; rintro e w' ⟨rfl, rfl⟩)
              go_ret
              exact ⟨ret_bool (by simp [awyOk, k0, k1, k2, k3, k4, k5]), _, rfl⟩
          · go_enter Try.func102, Try.ntmps102
            go_wp2
            go_quiet ((first | (go_at_call 145; exact quietE' (l01Name_any _ _ hs) k0) | (go_at_call 77; first | exact quietE' (l00In_any _ _ _ _) k1 | exact quietE' (l00In_any _ _ _ _) k2)))
            go_wp2_with (go_at_call 77; refine (l00In_any _ _ _ _).mono ?_; rintro e w' ⟨rfl, rfl⟩)
            go_ret
            exact ⟨ret_bool (by simp [awyOk, k0, k1, k2, k3, k4]), _, rfl⟩
      · go_enter Try.func102, Try.ntmps102
        go_wp2
        go_quiet ((first | (go_at_call 145; exact quietE' (l01Name_any _ _ hs) k0) | (go_at_call 77; first | exact quietE' (l00In_any _ _ _ _) k1 | exact quietE' (l00In_any _ _ _ _) k2)))
        go_wp2_with (go_at_call 77; refine (l00In_any _ _ _ _).mono ?_; rintro e w' ⟨rfl, rfl⟩)
        go_ret
        exact ⟨ret_bool (by simp [awyOk, k0, k1, k2]), _, rfl⟩
    · go_enter Try.func102, Try.ntmps102
      go_wp2
      go_quiet ((first | (go_at_call 145; exact quietE' (l01Name_any _ _ hs) k0) | (go_at_call 77; first | exact quietE' (l00In_any _ _ _ _) k1)))
      go_wp2_with (go_at_call 77; refine (l00In_any _ _ _ _).mono ?_; rintro e w' ⟨rfl, rfl⟩)
      go_ret
      exact ⟨ret_bool (by simp [awyOk, k0, k1]), _, rfl⟩
  · go_enter Try.func102, Try.ntmps102
    go_wp2
    go_quiet ((first | (go_at_call 145; exact quietE' (l01Name_any _ _ hs) k0) | (go_at_call 77; first | fail)))
    go_wp2_with (go_at_call 77; refine (l00In_any _ _ _ _).mono ?_; rintro e w' ⟨rfl, rfl⟩)
    go_ret
    exact ⟨ret_bool (by simp [awyOk, k0]), _, rfl⟩
theorem junctionOk_any (n : Int) (w : World) :
    Calls Try.prog 148 #[.int .i64 n] w fun e w' => e = .returned (.bool (inB n 0 15)) ∧ w = w' := by
  go_enter Try.func148, Try.ntmps148
  go_wp2_with fail; ((with_reducible refine (within_any _ _ _ _).mono ?_); rintro e w' ⟨rfl, rfl⟩)
  go_wp2
  go_ret
  exact ⟨rfl, rfl⟩
set_option maxHeartbeats 1600000 in
theorem ValidAirway_any (x : Awy) (w : World) (hs : x.s.size ≤ maxLen) :
    Calls Try.prog 106 #[.agg #[.string x.s, .int .i64 x.a, .int .i64 x.b, .int .i64 x.l, .int .i64 x.c, .int .i64 x.f, .int .i64 x.h]] w fun e w' => e = .returned (.bool (awyOk x)) ∧ Below w.heap.size w w' := by
  rcases Bool.eq_false_or_eq_true (isName x.s) with k0 | k0
  · rcases Bool.eq_false_or_eq_true (inB x.a 0 15) with k1 | k1
    · rcases Bool.eq_false_or_eq_true (inB x.b 0 15) with k2 | k2
      · rcases Bool.eq_false_or_eq_true (x.a == x.b) with k3 | k3
        · have kn : (x.a != x.b) = false := by simp [bne, k3]
          go_enter Try.func106, Try.ntmps106
          go_wp2_with (first | (go_at_call 147; refine (isName_any _ _ hs).mono ?_; rintro e w' ⟨rfl, rfl⟩) | (go_at_call 148; refine (junctionOk_any _ _).mono ?_; rintro e w' ⟨rfl, rfl⟩) | (go_at_call 97; refine (within_any _ _ _ _).mono ?_; rintro e w' ⟨rfl, rfl⟩))
          go_ret
          exact ⟨ret_bool (by simp [awyOk, k0, k1, k2, k3]), by (repeat (first | exact Below.refl _ _ | assumption | (refine Below.alloc ?_ (by first | exact Nat.le_refl _ | (simp; done) | (simp; omega)) _) | (refine below_drewN ?_ _) | (refine Below.trans ?_ (Below.mono (by assumption) (by first | exact Nat.le_refl _ | (simp; done) | (simp; omega) | omega)))))⟩
        · rcases Bool.eq_false_or_eq_true (inB x.l 1 10000) with k4 | k4
          · rcases Bool.eq_false_or_eq_true (inB x.c 50 5000) with k5 | k5
            · rcases Bool.eq_false_or_eq_true (inB x.f 1 1000) with k6 | k6
              · rcases Bool.eq_false_or_eq_true (inB x.h 0 1000) with k7 | k7
                · have kn : (x.a != x.b) = true := by simp [bne, k3]
                  go_enter Try.func106, Try.ntmps106
                  go_wp2_with (first | (go_at_call 147; refine (isName_any _ _ hs).mono ?_; rintro e w' ⟨rfl, rfl⟩) | (go_at_call 148; refine (junctionOk_any _ _).mono ?_; rintro e w' ⟨rfl, rfl⟩) | (go_at_call 97; refine (within_any _ _ _ _).mono ?_; rintro e w' ⟨rfl, rfl⟩))
                  go_ret
                  exact ⟨ret_bool (by simp [awyOk, k0, k1, k2, k3, k4, k5, k6, k7]), by (repeat (first | exact Below.refl _ _ | assumption | (refine Below.alloc ?_ (by first | exact Nat.le_refl _ | (simp; done) | (simp; omega)) _) | (refine below_drewN ?_ _) | (refine Below.trans ?_ (Below.mono (by assumption) (by first | exact Nat.le_refl _ | (simp; done) | (simp; omega) | omega)))))⟩
                · have kn : (x.a != x.b) = true := by simp [bne, k3]
                  go_enter Try.func106, Try.ntmps106
                  go_wp2_with (first | (go_at_call 147; refine (isName_any _ _ hs).mono ?_; rintro e w' ⟨rfl, rfl⟩) | (go_at_call 148; refine (junctionOk_any _ _).mono ?_; rintro e w' ⟨rfl, rfl⟩) | (go_at_call 97; refine (within_any _ _ _ _).mono ?_; rintro e w' ⟨rfl, rfl⟩))
                  go_ret
                  exact ⟨ret_bool (by simp [awyOk, k0, k1, k2, k3, k4, k5, k6, k7]), by (repeat (first | exact Below.refl _ _ | assumption | (refine Below.alloc ?_ (by first | exact Nat.le_refl _ | (simp; done) | (simp; omega)) _) | (refine below_drewN ?_ _) | (refine Below.trans ?_ (Below.mono (by assumption) (by first | exact Nat.le_refl _ | (simp; done) | (simp; omega) | omega)))))⟩
              · have kn : (x.a != x.b) = true := by simp [bne, k3]
                go_enter Try.func106, Try.ntmps106
                go_wp2_with (first | (go_at_call 147; refine (isName_any _ _ hs).mono ?_; rintro e w' ⟨rfl, rfl⟩) | (go_at_call 148; refine (junctionOk_any _ _).mono ?_; rintro e w' ⟨rfl, rfl⟩) | (go_at_call 97; refine (within_any _ _ _ _).mono ?_; rintro e w' ⟨rfl, rfl⟩))
                go_ret
                exact ⟨ret_bool (by simp [awyOk, k0, k1, k2, k3, k4, k5, k6]), by (repeat (first | exact Below.refl _ _ | assumption | (refine Below.alloc ?_ (by first | exact Nat.le_refl _ | (simp; done) | (simp; omega)) _) | (refine below_drewN ?_ _) | (refine Below.trans ?_ (Below.mono (by assumption) (by first | exact Nat.le_refl _ | (simp; done) | (simp; omega) | omega)))))⟩
            · have kn : (x.a != x.b) = true := by simp [bne, k3]
              go_enter Try.func106, Try.ntmps106
              go_wp2_with (first | (go_at_call 147; refine (isName_any _ _ hs).mono ?_; rintro e w' ⟨rfl, rfl⟩) | (go_at_call 148; refine (junctionOk_any _ _).mono ?_; rintro e w' ⟨rfl, rfl⟩) | (go_at_call 97; refine (within_any _ _ _ _).mono ?_; rintro e w' ⟨rfl, rfl⟩))
              go_ret
              exact ⟨ret_bool (by simp [awyOk, k0, k1, k2, k3, k4, k5]), by (repeat (first | exact Below.refl _ _ | assumption | (refine Below.alloc ?_ (by first | exact Nat.le_refl _ | (simp; done) | (simp; omega)) _) | (refine below_drewN ?_ _) | (refine Below.trans ?_ (Below.mono (by assumption) (by first | exact Nat.le_refl _ | (simp; done) | (simp; omega) | omega)))))⟩
          · have kn : (x.a != x.b) = true := by simp [bne, k3]
            go_enter Try.func106, Try.ntmps106
            go_wp2_with (first | (go_at_call 147; refine (isName_any _ _ hs).mono ?_; rintro e w' ⟨rfl, rfl⟩) | (go_at_call 148; refine (junctionOk_any _ _).mono ?_; rintro e w' ⟨rfl, rfl⟩) | (go_at_call 97; refine (within_any _ _ _ _).mono ?_; rintro e w' ⟨rfl, rfl⟩))
            go_ret
            exact ⟨ret_bool (by simp [awyOk, k0, k1, k2, k3, k4]), by (repeat (first | exact Below.refl _ _ | assumption | (refine Below.alloc ?_ (by first | exact Nat.le_refl _ | (simp; done) | (simp; omega)) _) | (refine below_drewN ?_ _) | (refine Below.trans ?_ (Below.mono (by assumption) (by first | exact Nat.le_refl _ | (simp; done) | (simp; omega) | omega)))))⟩
      · go_enter Try.func106, Try.ntmps106
        go_wp2_with (first | (go_at_call 147; refine (isName_any _ _ hs).mono ?_; rintro e w' ⟨rfl, rfl⟩) | (go_at_call 148; refine (junctionOk_any _ _).mono ?_; rintro e w' ⟨rfl, rfl⟩) | (go_at_call 97; refine (within_any _ _ _ _).mono ?_; rintro e w' ⟨rfl, rfl⟩))
        go_ret
        exact ⟨ret_bool (by simp [awyOk, k0, k1, k2]), by (repeat (first | exact Below.refl _ _ | assumption | (refine Below.alloc ?_ (by first | exact Nat.le_refl _ | (simp; done) | (simp; omega)) _) | (refine below_drewN ?_ _) | (refine Below.trans ?_ (Below.mono (by assumption) (by first | exact Nat.le_refl _ | (simp; done) | (simp; omega) | omega)))))⟩
    · go_enter Try.func106, Try.ntmps106
      go_wp2_with (first | (go_at_call 147; refine (isName_any _ _ hs).mono ?_; rintro e w' ⟨rfl, rfl⟩) | (go_at_call 148; refine (junctionOk_any _ _).mono ?_; rintro e w' ⟨rfl, rfl⟩) | (go_at_call 97; refine (within_any _ _ _ _).mono ?_; rintro e w' ⟨rfl, rfl⟩))
      go_ret
      exact ⟨ret_bool (by simp [awyOk, k0, k1]), by (repeat (first | exact Below.refl _ _ | assumption | (refine Below.alloc ?_ (by first | exact Nat.le_refl _ | (simp; done) | (simp; omega)) _) | (refine below_drewN ?_ _) | (refine Below.trans ?_ (Below.mono (by assumption) (by first | exact Nat.le_refl _ | (simp; done) | (simp; omega) | omega)))))⟩
  · go_enter Try.func106, Try.ntmps106
    go_wp2_with (first | (go_at_call 147; refine (isName_any _ _ hs).mono ?_; rintro e w' ⟨rfl, rfl⟩) | (go_at_call 148; refine (junctionOk_any _ _).mono ?_; rintro e w' ⟨rfl, rfl⟩) | (go_at_call 97; refine (within_any _ _ _ _).mono ?_; rintro e w' ⟨rfl, rfl⟩))
    go_ret
    exact ⟨ret_bool (by simp [awyOk, k0]), by (repeat (first | exact Below.refl _ _ | assumption | (refine Below.alloc ?_ (by first | exact Nat.le_refl _ | (simp; done) | (simp; omega)) _) | (refine below_drewN ?_ _) | (refine Below.trans ?_ (Below.mono (by assumption) (by first | exact Nat.le_refl _ | (simp; done) | (simp; omega) | omega)))))⟩
theorem l04Junction_any (J j : Int) (p : Addr) (w : World) (hJ : -9223372036854775808 < J) (hJ2 : J ≤ 9223372036854775807) (h0 : w.cell? p = some (.int .i64 J)) :
    Calls Try.prog 84 #[.pointer (some p), .int .i64 j] w fun e w' => e = .returned (.bool (inB j 0 (J - 1))) ∧ w = w' := by
  go_enter Try.func84, Try.ntmps84
  go_wp2_with fail; ((with_reducible refine (l00In_any _ _ _ _).mono ?_); rintro e w' ⟨rfl, rfl⟩)
  go_wp2
  go_ret
  exact ⟨rfl, rfl⟩
theorem hasJunction_any (J : Int) (V : Value) (j : Int) (w : World) (hV : ∃ A n c, V = .slice A n c) (hJ : -9223372036854775808 < J) (hJ2 : J ≤ 9223372036854775807) :
    Calls Try.prog 86 #[.agg #[.int .i64 J, V], .int .i64 j] w fun e w' => e = .returned (.bool (inB j 0 (J - 1))) ∧ Below w.heap.size w w' := by
  obtain ⟨A, n, c, rfl⟩ := hV
  go_enter Try.func86, Try.ntmps86
  go_wp2_with fail; ((with_reducible refine (within_any _ _ _ _).mono ?_); rintro e w' ⟨rfl, rfl⟩)
  go_wp2
  go_ret
  exact ⟨rfl, by (repeat (first | exact Below.refl _ _ | assumption | (refine Below.alloc ?_ (by first | exact Nat.le_refl _ | (simp; done) | (simp; omega)) _) | (refine below_drewN ?_ _) | (refine Below.trans ?_ (Below.mono (by assumption) (by first | exact Nat.le_refl _ | (simp; done) | (simp; omega) | omega)))))⟩
theorem hasEnds_any (J : Int) (A : Option Addr) (n c : Nat) (x : Awy) (w : World) (hJ : -9223372036854775808 < J) (hJ2 : J ≤ 9223372036854775807) :
    Calls Try.prog 107 #[.agg #[.int .i64 J, .slice A n c], .agg #[.string x.s, .int .i64 x.a, .int .i64 x.b, .int .i64 x.l, .int .i64 x.c, .int .i64 x.f, .int .i64 x.h]] w fun e w' => e = .returned (.bool (inB x.a 0 (J - 1) && inB x.b 0 (J - 1))) ∧ Below w.heap.size w w' := by
  cases k : inB x.a 0 (J - 1)
  · go_enter Try.func107, Try.ntmps107
    go_wp2_with fail; ((with_reducible refine (hasJunction_any J (.slice A n c) x.a _ ⟨A, n, c, rfl⟩ hJ hJ2).mono ?_); rintro e w1 ⟨rfl, hb1⟩)
    rw [k]
    go_wp2
    go_ret
    exact ⟨rfl, (show Below w.heap.size w _ by (repeat (first | exact Below.refl _ _ | assumption | (refine Below.alloc ?_ (by first | exact Nat.le_refl _ | (simp; done) | (simp; omega)) _) | (refine below_drewN ?_ _) | (refine Below.trans ?_ (Below.mono (by assumption) (by first | exact Nat.le_refl _ | (simp; done) | (simp; omega) | omega)))))).trans (hb1.mono (by simp; omega))⟩
  · go_enter Try.func107, Try.ntmps107
    go_wp2_with fail; ((with_reducible refine (hasJunction_any J (.slice A n c) x.a _ ⟨A, n, c, rfl⟩ hJ hJ2).mono ?_); rintro e w1 ⟨rfl, hb1⟩)
    rw [k]
    obtain ⟨hc1, hf1⟩ := bcell hb1
    have z1 : w.heap.size < w1.heap.size := by have h := hb1.size; simp at h; omega
    have z2 : w.heap.size + 1 < w1.heap.size := by have h := hb1.size; simp at h; omega
    have B1 : Below w.heap.size w w1 := (show Below w.heap.size w _ by (repeat (first | exact Below.refl _ _ | assumption | (refine Below.alloc ?_ (by first | exact Nat.le_refl _ | (simp; done) | (simp; omega)) _) | (refine below_drewN ?_ _) | (refine Below.trans ?_ (Below.mono (by assumption) (by first | exact Nat.le_refl _ | (simp; done) | (simp; omega) | omega)))))).trans (hb1.mono (by simp; omega))
    go_wp2_with fail; ((with_reducible refine (hasJunction_any J (.slice A n c) x.b _ ⟨A, n, c, rfl⟩ hJ hJ2).mono ?_); rintro e w2 ⟨rfl, hb2⟩)
    go_wp2
    go_ret
    exact ⟨ret_bool (by simp), B1.trans (hb2.mono B1.size)⟩
end Go.Proofs.Ytjmhhbjbmgpagaa

/- Contracts of the test of a mine. -/
namespace Go.Proofs.Ytjmhhbjbmgpagaa
set_option linter.unusedVariables false
set_option linter.unusedSimpArgs false
open Go.RowKit
def sLt (a b : ByteArray) : Bool := Op.bytesLess a.toList b.toList
theorem leq_lt : ∀ a b : List UInt8, (Op.bytesLess b a || b == a) = !Op.bytesLess a b
  | [], [] => by simp [Op.bytesLess]
  | [], _ :: _ => by simp [Op.bytesLess]
  | _ :: _, [] => by simp [Op.bytesLess]
  | x :: a, y :: b => by
    have ih := leq_lt a b
    simp only [Op.bytesLess, List.cons_beq_cons]
    rcases Nat.lt_trichotomy x.toNat y.toNat with h | h | h
    · have h1 : x < y := h
      have h2 : ¬ y < x := fun h3 => by have : y.toNat < x.toNat := h3; omega
      have h3 : (y == x) = false := beq_eq_false_iff_ne.2 (fun e => by rw [e] at h; omega)
      simp [h1, h2, h3]
    · obtain rfl : x = y := UInt8.toNat_inj.1 h
      have h2 : ¬ x < x := fun h3 => by have : x.toNat < x.toNat := h3; omega
      simp only [h2, decide_false, BEq.rfl, Bool.true_and, Bool.false_or]
      exact ih
    · have h1 : y < x := h
      have h2 : ¬ x < y := fun h3 => by have : x.toNat < y.toNat := h3; omega
      have h3 : (x == y) = false := beq_eq_false_iff_ne.2 (fun e => by rw [e] at h; omega)
      simp [h1, h2, h3]
def idAt (xs : List Awy) (k : Nat) : ByteArray := (xs.getD k default).s
theorem idAt_eq {xs : List Awy} {k : Nat} {x : Awy} (h : xs[k]? = some x) : idAt xs k = x.s := by unfold idAt; rw [List.getD_eq_getElem?_getD, h]; rfl
def mnAt (J : Int) (xs : List Awy) (k : Nat) : Bool :=
  match xs[k]? with
  | some x => awyOk x && (inB x.a 0 (J - 1) && inB x.b 0 (J - 1)) && (decide (k = 0) || sLt (idAt xs (k - 1)) x.s)
  | none => false
theorem mn_eq {J : Int} {xs : List Awy} {k : Nat} {x : Awy} (h : xs[k]? = some x) : mnAt J xs k = (awyOk x && (inB x.a 0 (J - 1) && inB x.b 0 (J - 1)) && (decide (k = 0) || sLt (idAt xs (k - 1)) x.s)) := by unfold mnAt; rw [h]
theorem mn_o {J : Int} {xs : List Awy} {k : Nat} {x : Awy} (h : xs[k]? = some x) (h0 : awyOk x = false) : mnAt J xs k = false := by rw [mn_eq h, h0]; simp
theorem mn_a {J : Int} {xs : List Awy} {k : Nat} {x : Awy} (h : xs[k]? = some x) (h0 : (inB x.a 0 (J - 1) && inB x.b 0 (J - 1)) = false) : mnAt J xs k = false := by rw [mn_eq h, h0]; simp
theorem mn_p {J : Int} {xs : List Awy} {k j : Nat} {x y : Awy} (h : xs[k]? = some x) (hk : k = j + 1) (hy : xs[j]? = some y) (h0 : sLt y.s x.s = false) : mnAt J xs k = false := by
  rw [mn_eq h, show k - 1 = j by omega, idAt_eq hy, h0, decide_eq_false (show ¬ k = 0 by omega)]; simp
theorem mn_z {J : Int} {xs : List Awy} {k : Nat} {x : Awy} (h : xs[k]? = some x) (h0 : awyOk x = true) (h1 : (inB x.a 0 (J - 1) && inB x.b 0 (J - 1)) = true) (hk : k = 0) : mnAt J xs k = true := by rw [mn_eq h, h0, h1, decide_eq_true hk]; rfl
theorem mn_y {J : Int} {xs : List Awy} {k j : Nat} {x y : Awy} (h : xs[k]? = some x) (h0 : awyOk x = true) (h1 : (inB x.a 0 (J - 1) && inB x.b 0 (J - 1)) = true) (hk : k = j + 1) (hy : xs[j]? = some y) (h2 : sLt y.s x.s = true) : mnAt J xs k = true := by
  rw [mn_eq h, h0, h1, show k - 1 = j by omega, idAt_eq hy, h2]; simp
def mineOk (J : Int) (xs : List Awy) : Bool := inB J 1 16 && decide (xs.length ≤ 24) && allUpto xs.length (mnAt J xs)
theorem mineOk_j {J : Int} {xs : List Awy} (h : inB J 1 16 = false) : mineOk J xs = false := by unfold mineOk; rw [h]; rfl
theorem mineOk_l {J : Int} {xs : List Awy} (h : 24 < xs.length) : mineOk J xs = false := by unfold mineOk; rw [decide_eq_false (show ¬ xs.length ≤ 24 by omega)]; simp
theorem mineOk_k {J : Int} {xs : List Awy} {k : Nat} (hk : k < xs.length) (h : mnAt J xs k = false) : mineOk J xs = false := by unfold mineOk; rw [allUpto_f hk h, Bool.and_false]
theorem mineOk_y {J : Int} {xs : List Awy} (h : inB J 1 16 = true) (h1 : ∀ k, k < xs.length → mnAt J xs k = true) : mineOk J xs = decide (xs.length ≤ 24) := by unfold mineOk; rw [h, allUpto_t h1]; simp
theorem mineOk_t {J : Int} {xs : List Awy} (h : mineOk J xs = true) : (1 ≤ J ∧ J ≤ 16) ∧ xs.length ≤ 24 ∧ ∀ x ∈ xs, awyOk x = true ∧ (0 ≤ x.a ∧ x.a < J) ∧ (0 ≤ x.b ∧ x.b < J) := by
  unfold mineOk at h
  simp only [Bool.and_eq_true, decide_eq_true_eq] at h
  refine ⟨inB_t h.1.1, h.1.2, fun x hx => ?_⟩
  obtain ⟨k, hk⟩ := List.getElem?_of_mem hx
  have hkl : k < xs.length := by
    rcases Nat.lt_or_ge k xs.length with h1 | h1
    · exact h1
    · rw [List.getElem?_eq_none h1] at hk; cases hk
  have hm := allUpto_get h.2 hkl
  rw [mn_eq hk] at hm
  simp only [Bool.and_eq_true] at hm
  have h1 := inB_t hm.1.2.1
  have h2 := inB_t hm.1.2.2
  exact ⟨hm.1.1, by omega, by omega⟩
theorem upto_succ1 {f : Nat → Bool} {k : Nat} (h : ∀ j, j < k → f j = true) (h1 : f k = true) : ∀ j, j < k + 1 → f j = true := by
  intro j hj
  rcases Nat.lt_succ_iff_lt_or_eq.1 hj with h2 | rfl
  · exact h j h2
  · exact h1
theorem jun_q {J j : Int} {b : Bool} {p : Addr} {w : World} (k : inB j 0 (J - 1) = b) (hJ : -9223372036854775808 < J) (hJ2 : J ≤ 9223372036854775807) (h0 : w.cell? p = some (.int .i64 J)) :
    ∀ m, Calls Try.prog 84 #[.pointer (some p), .int .i64 j] (w.drewN m) fun e w'' => e = .returned (.bool b) ∧ ∃ q, w'' = w.drewN q :=
  fun m => (l04Junction_any J j p (w.drewN m) hJ hJ2 h0).mono fun _ _ ⟨he, hw⟩ => ⟨by rw [he, k], m, hw.symm⟩
theorem awy_q {x : Awy} {b : Bool} {p : Addr} {w : World} (k : awyOk x = b) (hs : x.s.size ≤ maxLen) (hc : Cells w p x.cells) :
    ∀ m, Calls Try.prog 102 #[.pointer (some p)] (w.drewN m) fun e w'' => e = .returned (.bool b) ∧ ∃ q, w'' = w.drewN q :=
  fun m => Calls.quiet_of ((l03Ok_any x p (w.drewN m) hs (hc.drewN m)).mono fun _ _ ⟨he, hw⟩ => ⟨by rw [he, k], hw⟩)
set_option maxHeartbeats 1600000 in
set_option maxRecDepth 100000 in
theorem l04Ok_any (J : Int) (A : Option Addr) (n c : Nat) (xs : List Awy) (p : Addr) (w : World) (hr : Reads w w.heap.size 7 A n (Awy.recs xs)) (hn : n ≤ 1048576) (hxs : ∀ x ∈ xs, x.s.size ≤ maxLen) (hcp : Cells w p [.int .i64 J, .slice A n c]) :
    Calls Try.prog 47 #[.pointer (some p)] w fun e w' => e = .returned (.bool (mineOk J xs)) ∧ Below w.heap.size w w' := by
  have HM := Lib.hid hxs
  have HLn := Lib.hid (recs_rlen Awy.clen (by omega) hr)
  have hp0 := hcp.z rfl
  have hp1 := hcp.at_ 0 rfl
  have hpl := block_lt_of_cell hp0
  clear hxs
  rcases Bool.eq_false_or_eq_true (inB J 1 16) with hJ | hJ
  · have HJ := Lib.hid hJ
    obtain ⟨j1, j2⟩ := inB_t hJ
    clear hcp
    go_enter Try.func47, Try.ntmps47
    go_wp2_with fail; ((with_reducible refine (l00In_any _ _ _ _).mono ?_); rintro e w' ⟨rfl, rfl⟩)
    rw [hJ]
    clear hJ
    go_wp2
    go_loopw [3] (fun i wr => ∃ (k : Nat), k ≤ n ∧ i = .int .i64 k ∧ Hid (∀ j, j < k → mnAt J xs j = true) ∧ Below w.heap.size w wr) (fun i _ => n - (intOf i).toNat)
    case atStart => exact ⟨0, by omega, rfl, fun j hj => absurd hj (Nat.not_lt_zero _), Below.refl _ _⟩
    case round =>
      obtain ⟨k, hk, rfl, HK, hbw⟩ := hrel
      have g0 : wr.cell? p = some (.int .i64 J) := (hbw.cell hpl).trans hp0
      have g1 : wr.cell? ⟨p.block, p.off + 1, none⟩ = some (.slice A n c) := (hbw.cell (p := ⟨p.block, p.off + 1, none⟩) hpl).trans hp1
      by_cases hlt : k < n
      · obtain ⟨ad, x, rfl, had, hx, hc⟩ := (hr.below hbw).rec_at Awy.clen (by omega) hlt
        have HX := Lib.hid hx
        have HCx := Lib.hid hc
        have hm := HM.out x (List.mem_of_getElem? hx)
        have hlx : Hid (k < xs.length) := show k < xs.length by rw [HLn.out]; exact hlt
        have hltI : (k : Int) < (n : Int) := by omega
        obtain ⟨a0, a1, a2, a3, a4, a5, a6⟩ := Awy.open_ hc
        clear hx hc
        rcases Bool.eq_false_or_eq_true (awyOk x) with k0 | k0
        · have HO := Lib.hid (awy_q k0 hm HCx.out)
          rcases Bool.eq_false_or_eq_true (inB x.a 0 (J - 1)) with k1 | k1
          · have H1 := Lib.hid (jun_q k1 (by omega) (by omega) g0)
            rcases Bool.eq_false_or_eq_true (inB x.b 0 (J - 1)) with k2 | k2
            · have H2 := Lib.hid (jun_q k2 (by omega) (by omega) g0)
              rcases Nat.eq_zero_or_pos k with h0 | hpos
              · have HY := Lib.hid (mn_z HX.out k0 (by rw [k1, k2]; rfl) h0)
                subst h0
                have hcz : Cells wr ad x.cells := HCx.out
                have HO := Lib.hid (awy_q k0 hm hcz)
                obtain ⟨b0, b1, b2, b3, b4, b5, b6⟩ := Awy.open_ hcz
                clear hcz
                go_wp2
                go_quiet ((first | (go_at_call 102; exact HO.out _) | (go_at_call_of 84 (Value.int .i64 x.a); exact H1.out _) | (go_at_call_of 84 (Value.int .i64 x.b); exact H2.out _)))
                go_wp2
                go_roundw
                case rel => exact ⟨1, by omega, by go_num, upto_succ1 HK.out HY.out, below_drewN hbw _⟩
                case measure => simp [intOf]; omega
              · obtain ⟨j, hj⟩ : ∃ j, Hid (k = j + 1) := ⟨k - 1, show k = k - 1 + 1 by omega⟩
                have hjn : j < n := by have := hj.out; omega
                have hwj : IntKind.i64.wrap ((k : Int) - 1) = (j : Int) := by have := hj.out; rw [IntWalk.i64_in _ (by omega)]; omega
                have hk0 : decide ((0 : Int) < (k : Int)) = true := decide_eq_true (by omega)
                have hjI : (j : Int) < (n : Int) := by omega
                obtain ⟨ad', y, e1, had', hy, hcy⟩ := (hr.below hbw).rec_at Awy.clen (by omega) hjn
                injection e1 with e1
                subst e1
                have HYy := Lib.hid hy
                have b0 := hcy.z rfl
                clear hy hcy
                cases hl : Op.bytesLess y.s.toList x.s.toList
                · have HY := Lib.hid (mn_p (J := J) HX.out hj.out HYy.out hl)
                  go_wp2
                  go_quiet ((first | (go_at_call 102; exact HO.out _) | (go_at_call_of 84 (Value.int .i64 x.a); exact H1.out _) | (go_at_call_of 84 (Value.int .i64 x.b); exact H2.out _)))
                  go_wp2
                  go_ret
                  exact ⟨ret_bool (mineOk_k hlx.out HY.out).symm, below_drewN hbw _⟩
                · have HY := Lib.hid (mn_y (J := J) HX.out k0 (by rw [k1, k2]; rfl) hj.out HYy.out hl)
                  go_wp2
                  go_quiet ((first | (go_at_call 102; exact HO.out _) | (go_at_call_of 84 (Value.int .i64 x.a); exact H1.out _) | (go_at_call_of 84 (Value.int .i64 x.b); exact H2.out _)))
                  go_wp2
                  go_roundw
                  case rel => exact ⟨k + 1, by omega, by go_num, upto_succ1 HK.out HY.out, below_drewN hbw _⟩
                  case measure => simp [intOf]; omega
            · have H2 := Lib.hid (jun_q k2 (by omega) (by omega) g0)
              have HY := Lib.hid (mn_a (J := J) HX.out (by rw [k1, k2]; rfl))
              go_wp2
              go_quiet ((first | (go_at_call 102; exact HO.out _) | (go_at_call_of 84 (Value.int .i64 x.a); exact H1.out _) | (go_at_call_of 84 (Value.int .i64 x.b); exact H2.out _)))
              go_wp2
              go_ret
              exact ⟨ret_bool (mineOk_k hlx.out HY.out).symm, below_drewN hbw _⟩
          · have H1 := Lib.hid (jun_q k1 (by omega) (by omega) g0)
            have HY := Lib.hid (mn_a (J := J) HX.out (by rw [k1]; rfl))
            go_wp2
            go_quiet ((first | (go_at_call 102; exact HO.out _) | (go_at_call_of 84 (Value.int .i64 x.a); exact H1.out _)))
            go_wp2
            go_ret
            exact ⟨ret_bool (mineOk_k hlx.out HY.out).symm, below_drewN hbw _⟩
        · have HO := Lib.hid (awy_q k0 hm HCx.out)
          have HY := Lib.hid (mn_o (J := J) HX.out k0)
          go_wp2
          go_quiet ((go_at_call 102; exact HO.out _))
          go_wp2
          go_ret
          exact ⟨ret_bool (mineOk_k hlx.out HY.out).symm, below_drewN hbw _⟩
      · have e : k = n := by omega
        have HV := Lib.hid (mineOk_y HJ.out (by rw [HLn.out, ← e]; exact HK.out))
        clear e
        go_wp2
        go_ret
        exact ⟨ret_bool (by rw [HV.out, HLn.out]; exact Bool.eq_iff_iff.2 (by simp only [decide_eq_true_eq]; omega)), hbw⟩
  · have HV := Lib.hid (mineOk_j (xs := xs) hJ)
    go_enter Try.func47, Try.ntmps47
    go_wp2_with fail; ((with_reducible refine (l00In_any _ _ _ _).mono ?_); rintro e w' ⟨rfl, rfl⟩)
    rw [hJ]
    go_wp2
    go_ret
    exact ⟨ret_bool HV.out.symm, Below.refl _ _⟩
theorem va_q {x : Awy} {b : Bool} (k : awyOk x = b) (hs : x.s.size ≤ maxLen) : ∀ W : World, Calls Try.prog 106 #[.agg #[.string x.s, .int .i64 x.a, .int .i64 x.b, .int .i64 x.l, .int .i64 x.c, .int .i64 x.f, .int .i64 x.h]] W fun e w' => e = .returned (.bool b) ∧ Below W.heap.size W w' :=
  fun W => k ▸ ValidAirway_any x W hs
theorem he_q {x : Awy} {J : Int} {A : Option Addr} {n c : Nat} {b : Bool} (k : (inB x.a 0 (J - 1) && inB x.b 0 (J - 1)) = b) (hJ : -9223372036854775808 < J) (hJ2 : J ≤ 9223372036854775807) : ∀ W : World, Calls Try.prog 107 #[.agg #[.int .i64 J, .slice A n c], .agg #[.string x.s, .int .i64 x.a, .int .i64 x.b, .int .i64 x.l, .int .i64 x.c, .int .i64 x.f, .int .i64 x.h]] W fun e w' => e = .returned (.bool b) ∧ Below W.heap.size W w' :=
  fun W => k ▸ hasEnds_any J A n c x W hJ hJ2
set_option maxHeartbeats 1600000 in
set_option maxRecDepth 100000 in
theorem implValidMine_any (J : Int) (A : Option Addr) (n c : Nat) (xs : List Awy) (w : World) (hr1 : Reads w w.heap.size 7 A n (Awy.recs xs)) (hn : n ≤ 1048576) (hxs : ∀ x ∈ xs, x.s.size ≤ maxLen) :
    Calls Try.prog 52 #[.agg #[.int .i64 J, .slice A n c]] w fun e w' => e = .returned (.bool (mineOk J xs)) ∧ Below w.heap.size w w' := by
  have HM := Lib.hid hxs
  have HLn := Lib.hid (recs_rlen Awy.clen (by omega) hr1)
  have hr : Reads (w.alloc (.cells #[.int .i64 J, .slice A n c] 31)) (w.heap.size + 1) 7 A n (Awy.recs xs) := (hr1.below ((Below.refl _ _).alloc (Nat.le_refl _) _)).more (by omega)
  clear hxs
  rcases Bool.eq_false_or_eq_true (inB J 1 16) with hJ | hJ
  · have HJ := Lib.hid hJ
    obtain ⟨j1, j2⟩ := inB_t hJ
    by_cases h24 : n ≤ 24
    · go_enter Try.func52, Try.ntmps52
      go_wp2_with fail; ((with_reducible refine (within_any _ _ _ _).mono ?_); rintro e w' ⟨rfl, rfl⟩)
      rw [hJ]
      clear hJ
      go_wp2
      go_loopw [18] (fun i wr => ∃ (k : Nat), k ≤ n ∧ i = .int .i64 k ∧ Hid (∀ j, j < k → mnAt J xs j = true) ∧ Below (w.heap.size + 1) (w.alloc (.cells #[.int .i64 J, .slice A n c] 31)) wr) (fun i _ => n - (intOf i).toNat)
      case atStart => exact ⟨0, by omega, rfl, fun j hj => absurd hj (Nat.not_lt_zero _), Below.refl _ _⟩
      case round =>
        obtain ⟨k, hk, rfl, HK, hbw⟩ := hrel
        obtain ⟨wo, rfl⟩ : ∃ wo : World, wo = wr := ⟨_, rfl⟩
        have zo : w.heap.size < wo.heap.size := by have h := hbw.size; simp at h; omega
        have Bw : Below w.heap.size w wo := ((Below.refl _ _).alloc (Nat.le_refl _) _).trans (hbw.mono (by omega))
        have g0 : wo.cell? ⟨w.heap.size, 0, none⟩ = some (.int .i64 J) := (hbw.cell (p := ⟨w.heap.size, 0, none⟩) (by show w.heap.size < _; omega)).trans (by go_simp)
        have g1 : wo.cell? ⟨w.heap.size, 1, none⟩ = some (.slice A n c) := (hbw.cell (p := ⟨w.heap.size, 1, none⟩) (by show w.heap.size < _; omega)).trans (by go_simp)
        by_cases hlt : k < n
        · obtain ⟨ad, x, rfl, had, hx, hc⟩ := (hr.below hbw).rec_at Awy.clen (by omega) hlt
          have HX := Lib.hid hx
          have hm := HM.out x (List.mem_of_getElem? hx)
          have hlx : Hid (k < xs.length) := show k < xs.length by rw [HLn.out]; exact hlt
          have hltI : (k : Int) < (n : Int) := by omega
          obtain ⟨a0, a1, a2, a3, a4, a5, a6⟩ := Awy.open_ hc
          have HCx := Lib.hid hc
          clear hx hc
          have f0 : (wo.alloc (.cells #[.string x.s, .int .i64 x.a, .int .i64 x.b, .int .i64 x.l, .int .i64 x.c, .int .i64 x.f, .int .i64 x.h] 99)).cell? ⟨wo.heap.size, 0, none⟩ = some (.string x.s) := ((Blk.new wo _ _).cell 0).trans rfl
          have f1 : (wo.alloc (.cells #[.string x.s, .int .i64 x.a, .int .i64 x.b, .int .i64 x.l, .int .i64 x.c, .int .i64 x.f, .int .i64 x.h] 99)).cell? ⟨wo.heap.size, 1, none⟩ = some (.int .i64 x.a) := ((Blk.new wo _ _).cell 1).trans rfl
          have f2 : (wo.alloc (.cells #[.string x.s, .int .i64 x.a, .int .i64 x.b, .int .i64 x.l, .int .i64 x.c, .int .i64 x.f, .int .i64 x.h] 99)).cell? ⟨wo.heap.size, 2, none⟩ = some (.int .i64 x.b) := ((Blk.new wo _ _).cell 2).trans rfl
          have f3 : (wo.alloc (.cells #[.string x.s, .int .i64 x.a, .int .i64 x.b, .int .i64 x.l, .int .i64 x.c, .int .i64 x.f, .int .i64 x.h] 99)).cell? ⟨wo.heap.size, 3, none⟩ = some (.int .i64 x.l) := ((Blk.new wo _ _).cell 3).trans rfl
          have f4 : (wo.alloc (.cells #[.string x.s, .int .i64 x.a, .int .i64 x.b, .int .i64 x.l, .int .i64 x.c, .int .i64 x.f, .int .i64 x.h] 99)).cell? ⟨wo.heap.size, 4, none⟩ = some (.int .i64 x.c) := ((Blk.new wo _ _).cell 4).trans rfl
          have f5 : (wo.alloc (.cells #[.string x.s, .int .i64 x.a, .int .i64 x.b, .int .i64 x.l, .int .i64 x.c, .int .i64 x.f, .int .i64 x.h] 99)).cell? ⟨wo.heap.size, 5, none⟩ = some (.int .i64 x.f) := ((Blk.new wo _ _).cell 5).trans rfl
          have f6 : (wo.alloc (.cells #[.string x.s, .int .i64 x.a, .int .i64 x.b, .int .i64 x.l, .int .i64 x.c, .int .i64 x.f, .int .i64 x.h] 99)).cell? ⟨wo.heap.size, 6, none⟩ = some (.int .i64 x.h) := ((Blk.new wo _ _).cell 6).trans rfl
          have f7 : (wo.alloc (.cells #[.string x.s, .int .i64 x.a, .int .i64 x.b, .int .i64 x.l, .int .i64 x.c, .int .i64 x.f, .int .i64 x.h] 99)).cell? ⟨w.heap.size, 0, none⟩ = some (.int .i64 J) := (World.cell?_alloc_lt _ _ _ (block_lt_of_cell g0)).trans g0
          have f8 : (wo.alloc (.cells #[.string x.s, .int .i64 x.a, .int .i64 x.b, .int .i64 x.l, .int .i64 x.c, .int .i64 x.f, .int .i64 x.h] 99)).cell? ⟨w.heap.size, 1, none⟩ = some (.slice (some ad) n c) := (World.cell?_alloc_lt _ _ _ (block_lt_of_cell g1)).trans g1
          rcases Bool.eq_false_or_eq_true (awyOk x) with k0 | k0
          · have HA := Lib.hid (va_q k0 hm)
            rcases Bool.eq_false_or_eq_true (inB x.a 0 (J - 1) && inB x.b 0 (J - 1)) with k1 | k1
            · have HE := Lib.hid (he_q (A := some ad) (n := n) (c := c) k1 (by omega) (by omega))
              rcases Nat.eq_zero_or_pos k with h0 | hpos
              · have HY := Lib.hid (mn_z HX.out k0 k1 h0)
                subst h0
                have hcz : Cells wo ad x.cells := HCx.out
                obtain ⟨b0, b1, b2, b3, b4, b5, b6⟩ := Awy.open_ hcz
                clear hcz k1
                go_wp2
                have m0 := nb_cell f0 (block_lt_of_cell f0)
                have m1 := nb_cell f1 (block_lt_of_cell f1)
                have m2 := nb_cell f2 (block_lt_of_cell f2)
                have m3 := nb_cell f3 (block_lt_of_cell f3)
                have m4 := nb_cell f4 (block_lt_of_cell f4)
                have m5 := nb_cell f5 (block_lt_of_cell f5)
                have m6 := nb_cell f6 (block_lt_of_cell f6)
                have m7 := nb_cell f7 (block_lt_of_cell f7)
                have m8 := nb_cell f8 (block_lt_of_cell f8)
                refine wp_region_nb (by kernel_rfl) (by kernel_rfl) ?_
                repeat (go_big_quiet_step ((first | (go_at_call 106; exact nb_call (HA.out _)) | (go_at_call 107; exact nb_call (HE.out _)))))
                refine wpQuiet_nil ?_
                intro w3 hw3
                have hb3 := nb_out hw3
                clear hw3
                clear m0 m1 m2 m3 m4 m5 m6 m7 m8
                have B3 : Below (w.heap.size + 1) (w.alloc (.cells #[.int .i64 J, .slice (some ad) n c] 31)) w3 := (hbw.alloc (by omega) (.cells #[.string x.s, .int .i64 x.a, .int .i64 x.b, .int .i64 x.l, .int .i64 x.c, .int .i64 x.f, .int .i64 x.h] 99)).trans (hb3.mono (by simp; omega))
                go_wp2
                go_roundw
                case rel => exact ⟨1, by omega, by go_num, upto_succ1 HK.out HY.out, B3⟩
                case measure => simp [intOf]; omega
              · obtain ⟨j, hj⟩ : ∃ j, Hid (k = j + 1) := ⟨k - 1, show k = k - 1 + 1 by omega⟩
                have hjn : j < n := by have := hj.out; omega
                have hwj : IntKind.i64.wrap ((k : Int) - 1) = (j : Int) := by have := hj.out; rw [IntWalk.i64_in _ (by omega)]; omega
                have hk0 : decide ((0 : Int) < (k : Int)) = true := decide_eq_true (by omega)
                have hjI : (j : Int) < (n : Int) := by omega
                obtain ⟨ad', y, e1, had', hy, hcy⟩ := (hr.below hbw).rec_at Awy.clen (by omega) hjn
                injection e1 with e1
                subst e1
                have HYy := Lib.hid hy
                have b0 := hcy.z rfl
                have f9 : (wo.alloc (.cells #[.string x.s, .int .i64 x.a, .int .i64 x.b, .int .i64 x.l, .int .i64 x.c, .int .i64 x.f, .int .i64 x.h] 99)).cell? (ad.add (j * 7)) = some (.string y.s) := (World.cell?_alloc_lt _ _ _ (block_lt_of_cell b0)).trans b0
                clear hy hcy
                have hle := leq_lt y.s.toList x.s.toList
                cases hl : Op.bytesLess y.s.toList x.s.toList <;> rw [hl] at hle <;> cases q1 : Op.bytesLess x.s.toList y.s.toList <;> cases q2 : (x.s.toList == y.s.toList) <;> rw [q1, q2] at hle <;> first | (exact absurd hle (by decide)) | skip
                · have HY := Lib.hid (mn_p (J := J) HX.out hj.out HYy.out hl)
                  clear hle hl k1
                  go_wp2
                  have m0 := nb_cell f0 (block_lt_of_cell f0)
                  have m1 := nb_cell f1 (block_lt_of_cell f1)
                  have m2 := nb_cell f2 (block_lt_of_cell f2)
                  have m3 := nb_cell f3 (block_lt_of_cell f3)
                  have m4 := nb_cell f4 (block_lt_of_cell f4)
                  have m5 := nb_cell f5 (block_lt_of_cell f5)
                  have m6 := nb_cell f6 (block_lt_of_cell f6)
                  have m7 := nb_cell f7 (block_lt_of_cell f7)
                  have m8 := nb_cell f8 (block_lt_of_cell f8)
                  have m9 := nb_cell f9 (block_lt_of_cell f9)
                  refine wp_region_nb (by kernel_rfl) (by kernel_rfl) ?_
                  repeat (go_big_quiet_step ((first | (go_at_call 106; exact nb_call (HA.out _)) | (go_at_call 107; exact nb_call (HE.out _)))))
                  refine wpQuiet_nil ?_
                  intro w3 hw3
                  have hb3 := nb_out hw3
                  clear hw3
                  clear m0 m1 m2 m3 m4 m5 m6 m7 m8 m9
                  have B3 : Below (w.heap.size + 1) (w.alloc (.cells #[.int .i64 J, .slice (some ad) n c] 31)) w3 := (hbw.alloc (by omega) (.cells #[.string x.s, .int .i64 x.a, .int .i64 x.b, .int .i64 x.l, .int .i64 x.c, .int .i64 x.f, .int .i64 x.h] 99)).trans (hb3.mono (by simp; omega))
                  go_wp2
                  go_ret
                  exact ⟨ret_bool (mineOk_k hlx.out HY.out).symm, ((Below.refl _ _).alloc (Nat.le_refl _) _).trans (B3.mono (by omega))⟩
                · have HY := Lib.hid (mn_p (J := J) HX.out hj.out HYy.out hl)
                  clear hle hl k1
                  go_wp2
                  have m0 := nb_cell f0 (block_lt_of_cell f0)
                  have m1 := nb_cell f1 (block_lt_of_cell f1)
                  have m2 := nb_cell f2 (block_lt_of_cell f2)
                  have m3 := nb_cell f3 (block_lt_of_cell f3)
                  have m4 := nb_cell f4 (block_lt_of_cell f4)
                  have m5 := nb_cell f5 (block_lt_of_cell f5)
                  have m6 := nb_cell f6 (block_lt_of_cell f6)
                  have m7 := nb_cell f7 (block_lt_of_cell f7)
                  have m8 := nb_cell f8 (block_lt_of_cell f8)
                  have m9 := nb_cell f9 (block_lt_of_cell f9)
                  refine wp_region_nb (by kernel_rfl) (by kernel_rfl) ?_
                  repeat (go_big_quiet_step ((first | (go_at_call 106; exact nb_call (HA.out _)) | (go_at_call 107; exact nb_call (HE.out _)))))
                  refine wpQuiet_nil ?_
                  intro w3 hw3
                  have hb3 := nb_out hw3
                  clear hw3
                  clear m0 m1 m2 m3 m4 m5 m6 m7 m8 m9
                  have B3 : Below (w.heap.size + 1) (w.alloc (.cells #[.int .i64 J, .slice (some ad) n c] 31)) w3 := (hbw.alloc (by omega) (.cells #[.string x.s, .int .i64 x.a, .int .i64 x.b, .int .i64 x.l, .int .i64 x.c, .int .i64 x.f, .int .i64 x.h] 99)).trans (hb3.mono (by simp; omega))
                  go_wp2
                  go_ret
                  exact ⟨ret_bool (mineOk_k hlx.out HY.out).symm, ((Below.refl _ _).alloc (Nat.le_refl _) _).trans (B3.mono (by omega))⟩
                · have HY := Lib.hid (mn_p (J := J) HX.out hj.out HYy.out hl)
                  clear hle hl k1
                  go_wp2
                  have m0 := nb_cell f0 (block_lt_of_cell f0)
                  have m1 := nb_cell f1 (block_lt_of_cell f1)
                  have m2 := nb_cell f2 (block_lt_of_cell f2)
                  have m3 := nb_cell f3 (block_lt_of_cell f3)
                  have m4 := nb_cell f4 (block_lt_of_cell f4)
                  have m5 := nb_cell f5 (block_lt_of_cell f5)
                  have m6 := nb_cell f6 (block_lt_of_cell f6)
                  have m7 := nb_cell f7 (block_lt_of_cell f7)
                  have m8 := nb_cell f8 (block_lt_of_cell f8)
                  have m9 := nb_cell f9 (block_lt_of_cell f9)
                  refine wp_region_nb (by kernel_rfl) (by kernel_rfl) ?_
                  repeat (go_big_quiet_step ((first | (go_at_call 106; exact nb_call (HA.out _)) | (go_at_call 107; exact nb_call (HE.out _)))))
                  refine wpQuiet_nil ?_
                  intro w3 hw3
                  have hb3 := nb_out hw3
                  clear hw3
                  clear m0 m1 m2 m3 m4 m5 m6 m7 m8 m9
                  have B3 : Below (w.heap.size + 1) (w.alloc (.cells #[.int .i64 J, .slice (some ad) n c] 31)) w3 := (hbw.alloc (by omega) (.cells #[.string x.s, .int .i64 x.a, .int .i64 x.b, .int .i64 x.l, .int .i64 x.c, .int .i64 x.f, .int .i64 x.h] 99)).trans (hb3.mono (by simp; omega))
                  go_wp2
                  go_ret
                  exact ⟨ret_bool (mineOk_k hlx.out HY.out).symm, ((Below.refl _ _).alloc (Nat.le_refl _) _).trans (B3.mono (by omega))⟩
                · have HY := Lib.hid (mn_y (J := J) HX.out k0 k1 hj.out HYy.out hl)
                  clear hle hl k1
                  go_wp2
                  have m0 := nb_cell f0 (block_lt_of_cell f0)
                  have m1 := nb_cell f1 (block_lt_of_cell f1)
                  have m2 := nb_cell f2 (block_lt_of_cell f2)
                  have m3 := nb_cell f3 (block_lt_of_cell f3)
                  have m4 := nb_cell f4 (block_lt_of_cell f4)
                  have m5 := nb_cell f5 (block_lt_of_cell f5)
                  have m6 := nb_cell f6 (block_lt_of_cell f6)
                  have m7 := nb_cell f7 (block_lt_of_cell f7)
                  have m8 := nb_cell f8 (block_lt_of_cell f8)
                  have m9 := nb_cell f9 (block_lt_of_cell f9)
                  refine wp_region_nb (by kernel_rfl) (by kernel_rfl) ?_
                  repeat (go_big_quiet_step ((first | (go_at_call 106; exact nb_call (HA.out _)) | (go_at_call 107; exact nb_call (HE.out _)))))
                  refine wpQuiet_nil ?_
                  intro w3 hw3
                  have hb3 := nb_out hw3
                  clear hw3
                  clear m0 m1 m2 m3 m4 m5 m6 m7 m8 m9
                  have B3 : Below (w.heap.size + 1) (w.alloc (.cells #[.int .i64 J, .slice (some ad) n c] 31)) w3 := (hbw.alloc (by omega) (.cells #[.string x.s, .int .i64 x.a, .int .i64 x.b, .int .i64 x.l, .int .i64 x.c, .int .i64 x.f, .int .i64 x.h] 99)).trans (hb3.mono (by simp; omega))
                  go_wp2
                  go_roundw
                  case rel => exact ⟨k + 1, by omega, by go_num, upto_succ1 HK.out HY.out, B3⟩
                  case measure => simp [intOf]; omega
            · have HE := Lib.hid (he_q (A := some ad) (n := n) (c := c) k1 (by omega) (by omega))
              have HY := Lib.hid (mn_a (J := J) HX.out k1)
              clear k1
              go_wp2
              have m0 := nb_cell f0 (block_lt_of_cell f0)
              have m1 := nb_cell f1 (block_lt_of_cell f1)
              have m2 := nb_cell f2 (block_lt_of_cell f2)
              have m3 := nb_cell f3 (block_lt_of_cell f3)
              have m4 := nb_cell f4 (block_lt_of_cell f4)
              have m5 := nb_cell f5 (block_lt_of_cell f5)
              have m6 := nb_cell f6 (block_lt_of_cell f6)
              have m7 := nb_cell f7 (block_lt_of_cell f7)
              have m8 := nb_cell f8 (block_lt_of_cell f8)
              refine wp_region_nb (by kernel_rfl) (by kernel_rfl) ?_
              repeat (go_big_quiet_step ((first | (go_at_call 106; exact nb_call (HA.out _)) | (go_at_call 107; exact nb_call (HE.out _)))))
              refine wpQuiet_nil ?_
              intro w3 hw3
              have hb3 := nb_out hw3
              clear hw3
              clear m0 m1 m2 m3 m4 m5 m6 m7 m8
              have B3 : Below (w.heap.size + 1) (w.alloc (.cells #[.int .i64 J, .slice (some ad) n c] 31)) w3 := (hbw.alloc (by omega) (.cells #[.string x.s, .int .i64 x.a, .int .i64 x.b, .int .i64 x.l, .int .i64 x.c, .int .i64 x.f, .int .i64 x.h] 99)).trans (hb3.mono (by simp; omega))
              go_wp2
              go_ret
              exact ⟨ret_bool (mineOk_k hlx.out HY.out).symm, ((Below.refl _ _).alloc (Nat.le_refl _) _).trans (B3.mono (by omega))⟩
          · have HA := Lib.hid (va_q k0 hm)
            have HY := Lib.hid (mn_o (J := J) HX.out k0)
            go_wp2
            have m0 := nb_cell f0 (block_lt_of_cell f0)
            have m1 := nb_cell f1 (block_lt_of_cell f1)
            have m2 := nb_cell f2 (block_lt_of_cell f2)
            have m3 := nb_cell f3 (block_lt_of_cell f3)
            have m4 := nb_cell f4 (block_lt_of_cell f4)
            have m5 := nb_cell f5 (block_lt_of_cell f5)
            have m6 := nb_cell f6 (block_lt_of_cell f6)
            have m7 := nb_cell f7 (block_lt_of_cell f7)
            have m8 := nb_cell f8 (block_lt_of_cell f8)
            refine wp_region_nb (by kernel_rfl) (by kernel_rfl) ?_
            repeat (go_big_quiet_step ((((go_at_call 106; exact nb_call (HA.out _))))))
            refine wpQuiet_nil ?_
            intro w3 hw3
            have hb3 := nb_out hw3
            clear hw3
            clear m0 m1 m2 m3 m4 m5 m6 m7 m8
            have B3 : Below (w.heap.size + 1) (w.alloc (.cells #[.int .i64 J, .slice (some ad) n c] 31)) w3 := (hbw.alloc (by omega) (.cells #[.string x.s, .int .i64 x.a, .int .i64 x.b, .int .i64 x.l, .int .i64 x.c, .int .i64 x.f, .int .i64 x.h] 99)).trans (hb3.mono (by simp; omega))
            go_wp2
            go_ret
            exact ⟨ret_bool (mineOk_k hlx.out HY.out).symm, ((Below.refl _ _).alloc (Nat.le_refl _) _).trans (B3.mono (by omega))⟩
        · have e : k = n := by omega
          have HV : Hid (mineOk J xs = true) := show _ = _ by rw [mineOk_y HJ.out (by rw [HLn.out, ← e]; exact HK.out), HLn.out]; exact decide_eq_true h24
          clear e
          go_wp2
          go_ret
          exact ⟨ret_bool HV.out.symm, Bw⟩
    · have HV := Lib.hid (mineOk_l (J := J) (xs := xs) (by rw [HLn.out]; omega))
      go_enter Try.func52, Try.ntmps52
      go_wp2_with fail; ((with_reducible refine (within_any _ _ _ _).mono ?_); rintro e w' ⟨rfl, rfl⟩)
      rw [hJ]
      go_wp2
      go_ret
      exact ⟨ret_bool HV.out.symm, by (repeat (first | exact Below.refl _ _ | assumption | (refine Below.alloc ?_ (by first | exact Nat.le_refl _ | (simp; done) | (simp; omega)) _) | (refine below_drewN ?_ _) | (refine Below.trans ?_ (Below.mono (by assumption) (by first | exact Nat.le_refl _ | (simp; done) | (simp; omega) | omega)))))⟩
  · have HV := Lib.hid (mineOk_j (xs := xs) hJ)
    go_enter Try.func52, Try.ntmps52
    go_wp2_with fail; ((with_reducible refine (within_any _ _ _ _).mono ?_); rintro e w' ⟨rfl, rfl⟩)
    rw [hJ]
    go_wp2
    go_ret
    exact ⟨ret_bool HV.out.symm, by (repeat (first | exact Below.refl _ _ | assumption | (refine Below.alloc ?_ (by first | exact Nat.le_refl _ | (simp; done) | (simp; omega)) _) | (refine below_drewN ?_ _) | (refine Below.trans ?_ (Below.mono (by assumption) (by first | exact Nat.le_refl _ | (simp; done) | (simp; omega) | omega)))))⟩
end Go.Proofs.Ytjmhhbjbmgpagaa

/- Contracts of the lists with one number for each junction or each airway. -/
namespace Go.Proofs.Ytjmhhbjbmgpagaa
set_option linter.unusedVariables false
set_option linter.unusedSimpArgs false
open Go.RowKit
def lstOk (N l h : Int) (xs : List Int) : Bool := allIn l h xs && ((xs.length : Int) == N)
theorem lstOk_t {N l h : Int} {xs : List Int} (e : lstOk N l h xs = true) : (xs.length : Int) = N ∧ ∀ x ∈ xs, l ≤ x ∧ x ≤ h := by
  unfold lstOk at e
  rw [Bool.and_eq_true, beq_iff_eq] at e
  exact ⟨e.2, fun x hx => allIn_mem e.1 hx⟩
theorem lst_at {N l h : Int} {xs : List Int} (e : lstOk N l h xs = true) {k : Nat} (hk : (k : Int) < N) : ∃ b, xs[k]? = some b ∧ l ≤ b ∧ b ≤ h := by
  obtain ⟨h1, h2⟩ := lstOk_t e
  have hl : k < xs.length := by omega
  exact ⟨xs[k], List.getElem?_eq_getElem hl, h2 _ (List.getElem_mem hl)⟩
/-- A number of a list, found behind its address. -/
theorem Reads.int_at {w : World} {B n : Nat} {A : Option Addr} {xs : List Int} (hr : Reads w B 1 A n (ints xs)) {k : Nat} {b : Int} (hb : xs[k]? = some b) : ∃ ad, A = some ad ∧ ad.block < B ∧ k < n ∧ w.cell? (ad.add k) = some (.int .i64 b) := by
  have hl := ints_len hr
  have hk : k < xs.length := by
    rcases Nat.lt_or_ge k xs.length with h1 | h1
    · exact h1
    · rw [List.getElem?_eq_none h1] at hb; cases hb
  obtain ⟨ad, u, e, had, hx, hc⟩ := hr.at_ (k := k) (by omega)
  obtain ⟨b', hb', rfl⟩ := ints_at hx
  rw [hb] at hb'
  injection hb' with hb'
  subst hb'
  exact ⟨ad, e, had, by omega, hc⟩
set_option maxHeartbeats 800000 in
theorem l09Levels_any (J : Int) (p : Addr) (A : Option Addr) (n c : Nat) (xs : List Int) (w : World) (hr : Reads w w.heap.size 1 A n (ints xs)) (hn : n ≤ 1048576) (h0 : w.cell? p = some (.int .i64 J)) :
    Calls Try.prog 92 #[.pointer (some p), .slice A n c] w fun e w' => e = .returned (.bool (lstOk J (-3000) 3000 xs)) ∧ w = w' := by
  have HL := Lib.hid (ints_len hr)
  rcases Bool.eq_false_or_eq_true ((n : Int) == J) with hnj | hnj
  all_goals
    have HN := Lib.hid hnj
    go_enter Try.func92, Try.ntmps92
    go_wp2
    go_loop [5] (fun i => ∃ k : Nat, k ≤ n ∧ i = .int .i64 k ∧ Hid ((xs.take k).all (fun x => inB x (-3000) 3000) = true)) (fun i => n - (intOf i).toNat)
    case atStart => exact ⟨0, by omega, rfl, rfl⟩
    case round =>
      obtain ⟨k, hk, rfl, HK⟩ := hrel
      by_cases hlt : k < n
      · obtain ⟨ad, u, rfl, had, hx, hc⟩ := hr.at_ hlt
        obtain ⟨b, hb, rfl⟩ := ints_at hx
        have HX := Lib.hid hb
        clear hb hx
        cases hp : inB b (-3000) 3000
        · have HP : Hid (inB b (-3000) 3000 = false) := hp
          go_wp2_with (go_at_call 77; refine (l00In_any _ _ _ _).mono ?_; rintro e w' ⟨rfl, rfl⟩)
          go_ret
          exact ⟨ret_bool (by unfold lstOk allIn; rw [all_false (p := fun x => inB x (-3000) 3000) HX.out HP.out, Bool.false_and]), rfl⟩
        · have HP : Hid (inB b (-3000) 3000 = true) := hp
          go_wp2_with (go_at_call 77; refine (l00In_any _ _ _ _).mono ?_; rintro e w' ⟨rfl, rfl⟩)
          go_round
          case rel => exact ⟨k + 1, by omega, by go_num, all_take HX.out HK.out HP.out⟩
          case measure => simp [intOf]; omega
      · have e : k = n := by omega
        subst e
        have HA : Hid (allIn (-3000) 3000 xs = true) := all_whole HL.out HK.out
        go_wp2
        go_ret
        exact ⟨ret_bool (by unfold lstOk; rw [HA.out, HL.out, HN.out]; first | rfl | simp_all), rfl⟩
set_option maxHeartbeats 800000 in
theorem l07Flows_any (m : Nat) (M : Option Addr) (d : Nat) (p : Addr) (A : Option Addr) (n c : Nat) (xs : List Int) (w : World) (hr : Reads w w.heap.size 1 A n (ints xs)) (hn : n ≤ 1048576) (h0 : w.cell? ⟨p.block, p.off + 1, none⟩ = some (.slice M m d)) :
    Calls Try.prog 51 #[.pointer (some p), .slice A n c] w fun e w' => e = .returned (.bool (lstOk (m : Int) (-100000) 100000 xs)) ∧ w = w' := by
  have HL := Lib.hid (ints_len hr)
  rcases Bool.eq_false_or_eq_true ((n : Int) == (m : Int)) with hnj | hnj
  all_goals
    have HN := Lib.hid hnj
    go_enter Try.func51, Try.ntmps51
    go_wp2
    go_loop [5] (fun i => ∃ k : Nat, k ≤ n ∧ i = .int .i64 k ∧ Hid ((xs.take k).all (fun x => inB x (-100000) 100000) = true)) (fun i => n - (intOf i).toNat)
    case atStart => exact ⟨0, by omega, rfl, rfl⟩
    case round =>
      obtain ⟨k, hk, rfl, HK⟩ := hrel
      by_cases hlt : k < n
      · obtain ⟨ad, u, rfl, had, hx, hc⟩ := hr.at_ hlt
        obtain ⟨b, hb, rfl⟩ := ints_at hx
        have HX := Lib.hid hb
        clear hb hx
        cases hp : inB b (-100000) 100000
        · have HP : Hid (inB b (-100000) 100000 = false) := hp
          go_wp2_with (go_at_call 49; refine ((show Calls Try.prog _ _ _ (fun e w' => e = .returned (.bool (inB _ (-100000) 100000)) ∧ _ = w') from l03Flow_any _ _)).mono ?_; rintro e w' ⟨rfl, rfl⟩)
          go_ret
          exact ⟨ret_bool (by unfold lstOk allIn; rw [all_false (p := fun x => inB x (-100000) 100000) HX.out HP.out, Bool.false_and]), rfl⟩
        · have HP : Hid (inB b (-100000) 100000 = true) := hp
          go_wp2_with (go_at_call 49; refine ((show Calls Try.prog _ _ _ (fun e w' => e = .returned (.bool (inB _ (-100000) 100000)) ∧ _ = w') from l03Flow_any _ _)).mono ?_; rintro e w' ⟨rfl, rfl⟩)
          go_round
          case rel => exact ⟨k + 1, by omega, by go_num, all_take HX.out HK.out HP.out⟩
          case measure => simp [intOf]; omega
      · have e : k = n := by omega
        subst e
        have HA : Hid (allIn (-100000) 100000 xs = true) := all_whole HL.out HK.out
        go_wp2
        go_ret
        exact ⟨ret_bool (by unfold lstOk; rw [HA.out, HL.out, HN.out]; first | rfl | simp_all), rfl⟩
set_option maxHeartbeats 800000 in
theorem l09Temps_any (m : Nat) (M : Option Addr) (d : Nat) (p : Addr) (A : Option Addr) (n c : Nat) (xs : List Int) (w : World) (hr : Reads w w.heap.size 1 A n (ints xs)) (hn : n ≤ 1048576) (h0 : w.cell? ⟨p.block, p.off + 1, none⟩ = some (.slice M m d)) :
    Calls Try.prog 93 #[.pointer (some p), .slice A n c] w fun e w' => e = .returned (.bool (lstOk (m : Int) (-300) 600 xs)) ∧ w = w' := by
  have HL := Lib.hid (ints_len hr)
  rcases Bool.eq_false_or_eq_true ((n : Int) == (m : Int)) with hnj | hnj
  all_goals
    have HN := Lib.hid hnj
    go_enter Try.func93, Try.ntmps93
    go_wp2
    go_loop [5] (fun i => ∃ k : Nat, k ≤ n ∧ i = .int .i64 k ∧ Hid ((xs.take k).all (fun x => inB x (-300) 600) = true)) (fun i => n - (intOf i).toNat)
    case atStart => exact ⟨0, by omega, rfl, rfl⟩
    case round =>
      obtain ⟨k, hk, rfl, HK⟩ := hrel
      by_cases hlt : k < n
      · obtain ⟨ad, u, rfl, had, hx, hc⟩ := hr.at_ hlt
        obtain ⟨b, hb, rfl⟩ := ints_at hx
        have HX := Lib.hid hb
        clear hb hx
        cases hp : inB b (-300) 600
        · have HP : Hid (inB b (-300) 600 = false) := hp
          go_wp2_with (go_at_call 142; refine (l09Temp_any _ _).mono ?_; rintro e w' ⟨rfl, rfl⟩)
          go_ret
          exact ⟨ret_bool (by unfold lstOk allIn; rw [all_false (p := fun x => inB x (-300) 600) HX.out HP.out, Bool.false_and]), rfl⟩
        · have HP : Hid (inB b (-300) 600 = true) := hp
          go_wp2_with (go_at_call 142; refine (l09Temp_any _ _).mono ?_; rintro e w' ⟨rfl, rfl⟩)
          go_round
          case rel => exact ⟨k + 1, by omega, by go_num, all_take HX.out HK.out HP.out⟩
          case measure => simp [intOf]; omega
      · have e : k = n := by omega
        subst e
        have HA : Hid (allIn (-300) 600 xs = true) := all_whole HL.out HK.out
        go_wp2
        go_ret
        exact ⟨ret_bool (by unfold lstOk; rw [HA.out, HL.out, HN.out]; first | rfl | simp_all), rfl⟩
theorem hasLevels_any (J : Int) (B : Option Addr) (m d : Nat) (A : Option Addr) (n c : Nat) (xs : List Int) (w : World) (hr : Reads w w.heap.size 1 A n (ints xs)) (hn : n ≤ 1048576) :
    Calls Try.prog 96 #[.agg #[.int .i64 J, .slice B m d], .slice A n c] w fun e w' => e = .returned (.bool (lstOk J (-3000) 3000 xs)) ∧ Below w.heap.size w w' := by
  have HL := Lib.hid (ints_len hr)
  have hb : Below w.heap.size w (w.alloc (.cells #[.int .i64 J, .slice B m d] 31)) := (Below.refl _ _).alloc (Nat.le_refl _) _
  have cc := allWithin_any A n c xs (-3000) 3000 _ ((hr.below hb).more hb.size) (by omega)
  clear hb
  rcases Bool.eq_false_or_eq_true ((n : Int) == J) with hnj | hnj
  all_goals
    have HN := Lib.hid hnj
    go_enter Try.func96, Try.ntmps96
    go_wp2_with fail; try ((with_reducible refine (cc).mono ?_); rintro e w1 ⟨rfl, hb1⟩; go_wp2)
    go_ret
    refine ⟨ret_bool (by unfold lstOk; rw [HL.out, HN.out]; simp), ?_⟩
    first
    | exact (show Below w.heap.size w _ by (repeat (first | exact Below.refl _ _ | assumption | (refine Below.alloc ?_ (by first | exact Nat.le_refl _ | (simp; done) | (simp; omega)) _) | (refine below_drewN ?_ _) | (refine Below.trans ?_ (Below.mono (by assumption) (by first | exact Nat.le_refl _ | (simp; done) | (simp; omega) | omega)))))).trans (hb1.mono (by simp))
    | (repeat (first | exact Below.refl _ _ | assumption | (refine Below.alloc ?_ (by first | exact Nat.le_refl _ | (simp; done) | (simp; omega)) _) | (refine below_drewN ?_ _) | (refine Below.trans ?_ (Below.mono (by assumption) (by first | exact Nat.le_refl _ | (simp; done) | (simp; omega) | omega)))))
theorem hasList_any (J : Int) (B : Option Addr) (m d : Nat) (A : Option Addr) (n c : Nat) (l h : Int) (xs : List Int) (w : World) (hr : Reads w w.heap.size 1 A n (ints xs)) (hn : n ≤ 1048576) :
    Calls Try.prog 67 #[.agg #[.int .i64 J, .slice B m d], .slice A n c, .int .i64 l, .int .i64 h] w fun e w' => e = .returned (.bool (lstOk m l h xs)) ∧ Below w.heap.size w w' := by
  have HL := Lib.hid (ints_len hr)
  have hb : Below w.heap.size w (w.alloc (.cells #[.int .i64 J, .slice B m d] 31)) := (Below.refl _ _).alloc (Nat.le_refl _) _
  have cc := allWithin_any A n c xs l h _ ((hr.below hb).more hb.size) (by omega)
  clear hb
  rcases Bool.eq_false_or_eq_true ((n : Int) == (m : Int)) with hnj | hnj
  all_goals
    have HN := Lib.hid hnj
    go_enter Try.func67, Try.ntmps67
    go_wp2_with fail; try ((with_reducible refine (cc).mono ?_); rintro e w1 ⟨rfl, hb1⟩; go_wp2)
    go_ret
    refine ⟨ret_bool (by unfold lstOk; rw [HL.out, HN.out]; simp), ?_⟩
    first
    | exact (show Below w.heap.size w _ by (repeat (first | exact Below.refl _ _ | assumption | (refine Below.alloc ?_ (by first | exact Nat.le_refl _ | (simp; done) | (simp; omega)) _) | (refine below_drewN ?_ _) | (refine Below.trans ?_ (Below.mono (by assumption) (by first | exact Nat.le_refl _ | (simp; done) | (simp; omega) | omega)))))).trans (hb1.mono (by simp))
    | (repeat (first | exact Below.refl _ _ | assumption | (refine Below.alloc ?_ (by first | exact Nat.le_refl _ | (simp; done) | (simp; omega)) _) | (refine below_drewN ?_ _) | (refine Below.trans ?_ (Below.mono (by assumption) (by first | exact Nat.le_refl _ | (simp; done) | (simp; omega) | omega)))))
theorem hasFlows_any (J : Int) (B : Option Addr) (m d : Nat) (A : Option Addr) (n c : Nat) (xs : List Int) (w : World) (hr : Reads w w.heap.size 1 A n (ints xs)) (hn : n ≤ 1048576) :
    Calls Try.prog 56 #[.agg #[.int .i64 J, .slice B m d], .slice A n c] w fun e w' => e = .returned (.bool (lstOk m (-100000) 100000 xs)) ∧ Below w.heap.size w w' := by
  have hb : Below w.heap.size w (w.alloc (.cells #[.int .i64 J, .slice B m d] 31)) := (Below.refl _ _).alloc (Nat.le_refl _) _
  have cc := hasList_any J B m d A n c (-100000) 100000 xs _ ((hr.below hb).more hb.size) hn
  clear hb
  go_enter Try.func56, Try.ntmps56
  go_wp2_with fail; ((with_reducible refine (cc).mono ?_); rintro e w1 ⟨rfl, hb1⟩)
  go_wp2
  go_ret
  exact ⟨rfl, (show Below w.heap.size w _ by (repeat (first | exact Below.refl _ _ | assumption | (refine Below.alloc ?_ (by first | exact Nat.le_refl _ | (simp; done) | (simp; omega)) _) | (refine below_drewN ?_ _) | (refine Below.trans ?_ (Below.mono (by assumption) (by first | exact Nat.le_refl _ | (simp; done) | (simp; omega) | omega)))))).trans (hb1.mono (by simp))⟩
end Go.Proofs.Ytjmhhbjbmgpagaa

/- Contracts of StillAirways and of DepthsOf. -/
namespace Go.Proofs.Ytjmhhbjbmgpagaa
set_option linter.unusedVariables false
set_option linter.unusedSimpArgs false
open Go.RowKit
def stlTo (fs : List Int) (q : Int) : Nat → List Int
  | 0 => []
  | k + 1 => if absI (fs.getD k 0) < q then stlTo fs q k ++ [(k : Int)] else stlTo fs q k
theorem stlTo_y {fs : List Int} {q f : Int} {k : Nat} (h : fs[k]? = some f) (hp : absI f < q) : stlTo fs q (k + 1) = stlTo fs q k ++ [(k : Int)] := by
  have e : fs.getD k 0 = f := by rw [List.getD_eq_getElem?_getD, h]; rfl
  simp only [stlTo]; rw [e, if_pos hp]
theorem stlTo_n {fs : List Int} {q f : Int} {k : Nat} (h : fs[k]? = some f) (hp : ¬ absI f < q) : stlTo fs q (k + 1) = stlTo fs q k := by
  have e : fs.getD k 0 = f := by rw [List.getD_eq_getElem?_getD, h]; rfl
  simp only [stlTo]; rw [e, if_neg hp]
def stlR (J : Int) (xs : List Awy) (fs : List Int) (q : Int) : List Int × Int :=
  if mineOk J xs = true then (if inB q 0 100000 = true then (if lstOk xs.length (-100000) 100000 fs = true then (stlTo fs q fs.length, 0) else ([], 7)) else ([], 2)) else ([], 1)
theorem stlR_1 {J : Int} {xs : List Awy} {fs : List Int} {q : Int} (h : mineOk J xs = false) : stlR J xs fs q = ([], 1) := by unfold stlR; rw [h]; rfl
theorem stlR_2 {J : Int} {xs : List Awy} {fs : List Int} {q : Int} (h : mineOk J xs = true) (h1 : inB q 0 100000 = false) : stlR J xs fs q = ([], 2) := by unfold stlR; rw [h, h1]; rfl
theorem stlR_3 {J : Int} {xs : List Awy} {fs : List Int} {q : Int} (h : mineOk J xs = true) (h1 : inB q 0 100000 = true) (h2 : lstOk xs.length (-100000) 100000 fs = false) : stlR J xs fs q = ([], 7) := by unfold stlR; rw [h, h1, h2]; rfl
theorem stlR_4 {J : Int} {xs : List Awy} {fs : List Int} {q : Int} (h : mineOk J xs = true) (h1 : inB q 0 100000 = true) (h2 : lstOk xs.length (-100000) 100000 fs = true) : stlR J xs fs q = (stlTo fs q fs.length, 0) := by unfold stlR; rw [h, h1, h2]; rfl
def dpR (J : Int) (xs : List Awy) (ls : List Int) : List Int × Int :=
  if mineOk J xs = true then (if lstOk J (-3000) 3000 ls = true then (ls.map (fun l => maxL ls - l), 0) else ([], 7)) else ([], 1)
theorem dpR_1 {J : Int} {xs : List Awy} {ls : List Int} (h : mineOk J xs = false) : dpR J xs ls = ([], 1) := by unfold dpR; rw [h]; rfl
theorem dpR_2 {J : Int} {xs : List Awy} {ls : List Int} (h : mineOk J xs = true) (h1 : lstOk J (-3000) 3000 ls = false) : dpR J xs ls = ([], 7) := by unfold dpR; rw [h, h1]; rfl
theorem dpR_3 {J : Int} {xs : List Awy} {ls : List Int} (h : mineOk J xs = true) (h1 : lstOk J (-3000) 3000 ls = true) : dpR J xs ls = (ls.map (fun l => maxL ls - l), 0) := by unfold dpR; rw [h, h1]; rfl
theorem dp_snoc {ls : List Int} {t l : Int} {k : Nat} (h : ls[k]? = some l) : (ls.take (k + 1)).map (fun l => t - l) = (ls.take k).map (fun l => t - l) ++ [t - l] := by rw [take_snoc h]; simp
end Go.Proofs.Ytjmhhbjbmgpagaa
