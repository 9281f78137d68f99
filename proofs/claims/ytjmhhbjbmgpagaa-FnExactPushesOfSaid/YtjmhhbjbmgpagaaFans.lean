/- Slices of fans: reading, owning, and the laws' own helpers on them. -/
import Derived.Test.YtjmhhbjbmgpagaaMkR
import Derived.Test.YtjmhhbjbmgpagaaRAwy
namespace Go.Proofs.Ytjmhhbjbmgpagaa
set_option linter.unusedVariables false
set_option linter.unusedSimpArgs false
open Go.RowKit
structure Fan where
  s : ByteArray
  a : Int
  A : Option Addr
  n : Nat
  c : Nat
  rs : List Row
instance : Inhabited Fan := ⟨⟨ByteArray.empty, 0, none, 0, 0, []⟩⟩
def Fan.cells (x : Fan) : List Value := [.string x.s, .int .i64 x.a, .slice x.A x.n x.c]
theorem Fan.clen (x : Fan) : x.cells.length = 3 := rfl
abbrev Fan.recs (xs : List Fan) : List Value := Go.Proofs.Ytjmhhbjbmgpagaa.recs Fan.cells xs
def Fan.key (x : Fan) : ByteArray × Int × List (List Int) := (x.s, x.a, dat x.rs)
def fdat (xs : List Fan) : List (ByteArray × Int × List (List Int)) := xs.map Fan.key
theorem fdat_at {xs : List Fan} {k : Nat} {x : Fan} (h : xs[k]? = some x) : (fdat xs)[k]? = some x.key := by unfold fdat; rw [List.getElem?_map, h]; rfl
theorem fdat_len (xs : List Fan) : (fdat xs).length = xs.length := by simp [fdat]
def Fan.len (x : Fan) : Int := x.s.size + (x.n + tot x.rs)
theorem Fan.len_nonneg (x : Fan) : 0 ≤ x.len := by have := tot_nonneg x.rs; unfold Fan.len; omega
def fansLen : List Fan → Int
  | [] => 0
  | x :: t => x.len + fansLen t
theorem fansLen_nonneg : ∀ xs : List Fan, 0 ≤ fansLen xs
  | [] => by simp [fansLen]
  | x :: t => by have := fansLen_nonneg t; have := x.len_nonneg; simp only [fansLen]; omega
theorem fansLen_append (xs ys : List Fan) : fansLen (xs ++ ys) = fansLen xs + fansLen ys := by
  induction xs with
  | nil => simp [fansLen]
  | cons x t ih => simp only [List.cons_append, fansLen, ih]; omega
theorem fansLen_snoc {xs : List Fan} {k : Nat} {x : Fan} (h : xs[k]? = some x) : fansLen (xs.take (k + 1)) = fansLen (xs.take k) + x.len := by
  rw [take_snoc h, fansLen_append]; simp [fansLen]
theorem fansLen_take (xs : List Fan) (k : Nat) : fansLen (xs.take k) ≤ fansLen xs := by
  have h : fansLen xs = fansLen (xs.take k) + fansLen (xs.drop k) := by rw [← fansLen_append, List.take_append_drop]
  have := fansLen_nonneg (xs.drop k)
  omega
theorem fansLen_mem {xs : List Fan} {x : Fan} (h : x ∈ xs) : x.len ≤ fansLen xs := by
  induction xs with
  | nil => simp at h
  | cons y t ih =>
    have h0 := fansLen_nonneg t
    have h1 := y.len_nonneg
    rcases List.mem_cons.1 h with rfl | h
    · simp only [fansLen]; omega
    · have := ih h; simp only [fansLen]; omega
/-- As an argument hands it. -/
structure Fan.ok0 (x : Fan) : Prop where
  s : x.s.size ≤ maxLen
  n : x.n ≤ maxLen
  r : ∀ r ∈ x.rs, r.n ≤ maxLen
/-- As the size allows it. -/
structure Fan.ok (x : Fan) : Prop where
  s : x.s.size ≤ 1048576
  n : x.n ≤ 1048576
  r : ∀ r ∈ x.rs, r.n ≤ 1048576
  t : tot x.rs ≤ 1048576
theorem Fan.ok.sm {x : Fan} (h : x.ok) : x.s.size ≤ maxLen := wfmax h.s
theorem fans_ok {xs : List Fan} (h : fansLen xs ≤ 1048576) : ∀ x ∈ xs, x.ok := by
  intro x hx
  have h1 := fansLen_mem hx
  have h2 := tot_nonneg x.rs
  unfold Fan.len at h1
  exact ⟨by omega, by omega, fun r hr => by have := tot_mem hr; omega, by omega⟩
theorem totD_nonneg : ∀ l : List (List Int), 0 ≤ totD l
  | [] => by simp [totD]
  | x :: t => by have := totD_nonneg t; simp only [totD]; omega
/-- A slice of fans that reads. -/
structure FSS (w : World) (B : Nat) (A : Option Addr) (n : Nat) (xs : List Fan) : Prop where
  out : Reads w B 3 A n (Fan.recs xs)
  row : ∀ x ∈ xs, RSS w B x.A x.n x.rs
theorem FSS.below {w w' : World} {B n : Nat} {A : Option Addr} {xs : List Fan} (h : FSS w B A n xs) (hb : Below B w w') : FSS w' B A n xs := ⟨h.out.below hb, fun x hx => (h.row x hx).below hb⟩
theorem FSS.more {w : World} {B B' n : Nat} {A : Option Addr} {xs : List Fan} (h : FSS w B A n xs) (hB : B ≤ B') : FSS w B' A n xs := ⟨h.out.more hB, fun x hx => (h.row x hx).more hB⟩
theorem FSS.len {w : World} {B n : Nat} {A : Option Addr} {xs : List Fan} (h : FSS w B A n xs) : xs.length = n := recs_rlen Fan.clen (by omega) h.out
theorem FSS.at_ {w : World} {B n k : Nat} {A : Option Addr} {xs : List Fan} (h : FSS w B A n xs) (hk : k < n) :
    ∃ ad x, A = some ad ∧ ad.block < B ∧ xs[k]? = some x ∧ Cells w (ad.add (k * 3)) x.cells ∧ RSS w B x.A x.n x.rs := by
  obtain ⟨ad, x, h1, h2, h3, h4⟩ := h.out.rec_at Fan.clen (by omega) hk
  exact ⟨ad, x, h1, h2, h3, h4, h.row x (List.mem_of_getElem? h3)⟩
theorem Fan.open_ {w : World} {p : Addr} {x : Fan} (h : Cells w p x.cells) : w.cell? p = some (.string x.s) ∧ w.cell? ⟨p.block, p.off + 1, none⟩ = some (.int .i64 x.a) ∧ w.cell? ⟨p.block, p.off + 2, none⟩ = some (.slice x.A x.n x.c) :=
  ⟨h.z rfl, h.at_ 0 rfl, h.at_ 1 rfl⟩
/-- Fans whose curves lie one behind the other in blocks from lo up to hi. -/
def Chain (w : World) : Nat → List Fan → Nat → Prop
  | lo, [], hi => lo ≤ hi
  | lo, x :: t, hi => ∃ m, lo ≤ m ∧ Oss w lo m x.A x.n x.c x.rs ∧ Chain w m t hi
theorem Chain.le {w : World} : ∀ {lo : Nat} {xs : List Fan} {hi : Nat}, Chain w lo xs hi → lo ≤ hi
  | _, [], _, h => h
  | _, _ :: _, _, ⟨m, h1, _, h3⟩ => Nat.le_trans h1 h3.le
theorem same_sub {lo hi l m : Nat} {a b : World} (s : Same lo hi a b) (h1 : lo ≤ l) (h2 : m ≤ hi) : Same l m a b := ⟨fun i g1 g2 => s.blk i (by omega) (by omega), s.size⟩
theorem Chain.same {a b : World} : ∀ {lo : Nat} {xs : List Fan} {hi : Nat}, Chain a lo xs hi → Same lo hi a b → Chain b lo xs hi
  | _, [], _, h, _ => h
  | _, _ :: _, _, ⟨m, h1, h2, h3⟩, s => ⟨m, h1, h2.same (same_sub s (Nat.le_refl _) h3.le), h3.same (same_sub s h1 (Nat.le_refl _))⟩
theorem Oss.lower {w : World} {lo lo' hi n c : Nat} {A : Option Addr} {rs : List Row} (h : Oss w lo hi A n c rs) (hl : lo' ≤ lo) : Oss w lo' hi A n c rs := ⟨h.oss.base hl, h.top, h.rtop⟩
theorem Oss.raise {w : World} {lo hi hi' n c : Nat} {A : Option Addr} {rs : List Row} (h : Oss w lo hi A n c rs) (hl : hi ≤ hi') : Oss w lo hi' A n c rs := ⟨h.oss, fun k hk => Nat.lt_of_lt_of_le (h.top k hk) hl, fun r hr k hk => Nat.lt_of_lt_of_le (h.rtop r hr k hk) hl⟩
theorem Chain.snoc {w : World} : ∀ {lo : Nat} {xs : List Fan} {hi hi' : Nat} {x : Fan}, Chain w lo xs hi → hi ≤ hi' → Oss w hi hi' x.A x.n x.c x.rs → Chain w lo (xs ++ [x]) hi'
  | _, [], _, _, _, h, h2, h3 => ⟨_, Nat.le_trans h h2, h3.lower h, Nat.le_refl _⟩
  | _, _ :: _, _, _, _, ⟨m, g1, g2, g3⟩, h2, h3 => ⟨m, g1, g2, g3.snoc h2 h3⟩
theorem Chain.mem {w : World} : ∀ {lo : Nat} {xs : List Fan} {hi : Nat} {x : Fan}, Chain w lo xs hi → x ∈ xs → ∃ l m, Oss w l m x.A x.n x.c x.rs
  | _, [], _, _, _, h => by simp at h
  | _, y :: t, _, x, ⟨m, _, g2, g3⟩, h => by
    rcases List.mem_cons.1 h with rfl | h
    · exact ⟨_, _, g2⟩
    · exact g3.mem h
theorem oss_setLow {w : World} {lo hi n c : Nat} {A : Option Addr} {rs : List Row} (h : Oss w lo hi A n c rs) {p : Addr} (hp : p.block < lo) (u : Value) : Oss (w.setCell p u) lo hi A n c rs := ⟨h.oss.setLow hp u, h.top, h.rtop⟩
theorem Chain.setLow {w : World} {p : Addr} (u : Value) : ∀ {lo : Nat} {xs : List Fan} {hi : Nat}, Chain w lo xs hi → p.block < lo → Chain (w.setCell p u) lo xs hi
  | _, [], _, h, _ => h
  | _, _ :: _, _, ⟨m, g1, g2, g3⟩, hp => ⟨m, g1, oss_setLow g2 hp u, g3.setLow u (Nat.lt_of_lt_of_le hp g1)⟩
/-- Fans of the call's own: the row at block lo, the curves behind it, up to block hi. -/
structure Ofs (w : World) (lo hi : Nat) (A : Option Addr) (n c : Nat) (xs : List Fan) : Prop where
  own : w.ownsRow lo 85 3 (.slice A n c) n (Fan.recs xs)
  top : ∀ k, Value.ownBlock (.slice A n c) = some k → k < lo + 1
  le : lo + 1 ≤ hi
  chain : Chain w (lo + 1) xs hi
theorem Ofs.same {a b : World} {lo hi n c : Nat} {A : Option Addr} {xs : List Fan} (h : Ofs a lo hi A n c xs) (s : Same lo hi a b) : Ofs b lo hi A n c xs :=
  ⟨owns_same h.own h.top (same_sub s (Nat.le_refl _) h.le), h.top, h.le, h.chain.same (same_sub s (by omega) (Nat.le_refl _))⟩
theorem Ofs.reads {a : World} {lo hi n c : Nat} {A : Option Addr} {xs : List Fan} (h : Ofs a lo hi A n c xs) : FSS a a.heap.size A n xs :=
  ⟨Reads.of_own h.own, fun x hx => by obtain ⟨l, m, g⟩ := h.chain.mem hx; exact g.reads⟩
set_option maxHeartbeats 800000 in
theorem szFanS_any (A : Option Addr) (n c : Nat) (xs : List Fan) (l : Int) (w : World) (hr : FSS w w.heap.size A n xs) (h1 : 0 ≤ l) (h2 : l ≤ 1048576) (hn : n ≤ maxLen) (hxs : ∀ x ∈ xs, x.ok0) :
    Calls Try.prog 24 #[.slice A n c, .int .i64 l] w fun e w' => e = .returned (.int .i64 (szI l (n + fansLen xs))) ∧ Below w.heap.size w w' := by
  unfold maxLen at hn
  have HL := Lib.hid hr.len
  have HM := Lib.hid hxs
  have t0 := fansLen_nonneg xs
  clear hxs
  by_cases hb : l < n
  · have HS := Lib.hid (szI_n (l := l) (s := n + fansLen xs) (by omega))
    go_enter Try.func24, Try.ntmps24
    go_wp2
    go_ret
    exact ⟨ret_int HS.out.symm, Below.refl _ _⟩
  · go_enter Try.func24, Try.ntmps24
    go_wp2
    go_loopw [1, 5] (fun s i wr => ∃ k : Nat, k ≤ n ∧ i = .int .i64 k ∧ s = .int .i64 (l - n - fansLen (xs.take k)) ∧ n + fansLen (xs.take k) ≤ l ∧ Below w.heap.size w wr) (fun _ i _ => n - (intOf i).toNat)
    case atStart => exact ⟨0, by omega, rfl, by simp [fansLen], by simp [fansLen]; omega, Below.refl _ _⟩
    case round =>
      obtain ⟨k, hk, rfl, rfl, hok, hbr⟩ := hrel
      have p0 := fansLen_nonneg (xs.take k)
      by_cases hlt : k < n
      · obtain ⟨ad, x, rfl, had, hx, hc, hrr⟩ := (hr.below hbr).at_ hlt
        have HX := Lib.hid (fansLen_snoc hx)
        have HT := Lib.hid (fansLen_take xs (k + 1))
        have hm := HM.out x (List.mem_of_getElem? hx)
        have hs := hm.s
        have hn' := hm.n
        have cc := szFan_any x.s x.a x.A x.n x.c x.rs (l - n - fansLen (xs.take k)) wr hs (hrr.more hbr.size) (by omega) (by omega) hn' hm.r
        obtain ⟨h0, h1, h2⟩ := Fan.open_ hc
        clear hx hc hm hs hn'
        by_cases hs : l - n - fansLen (xs.take k) < x.len
        · have HS := Lib.hid (szI_n (l := l) (s := n + fansLen xs) (by have := HX.out; have := HT.out; omega))
          rw [szI_n (by simpa only [Fan.len] using hs)] at cc
          have HC := Lib.hid cc
          clear cc
          go_wp2_with fail; ((with_reducible refine HC.out.mono ?_); rintro e w1 ⟨rfl, hb1⟩)
          go_wp2
          go_ret
          exact ⟨ret_int HS.out.symm, hbr.trans (hb1.mono hbr.size)⟩
        · rw [szI_y (by simpa only [Fan.len] using hs), show l - n - fansLen (xs.take k) - ((x.s.size : Int) + ((x.n : Int) + tot x.rs)) = l - n - fansLen (xs.take k) - x.len from rfl] at cc
          have HC := Lib.hid cc
          clear cc
          go_wp2_with fail; ((with_reducible refine HC.out.mono ?_); rintro e w1 ⟨rfl, hb1⟩)
          go_wp2
          go_roundw
          case rel => exact ⟨k + 1, by omega, by go_num, by rw [HX.out]; exact congrArg (Value.int .i64) (by omega), by rw [HX.out]; omega, hbr.trans (hb1.mono hbr.size)⟩
          case measure => simp [intOf]; omega
      · have e : k = n := by omega
        have HT : Hid (xs.take k = xs) := List.take_of_length_le (by rw [HL.out]; omega)
        rw [HT.out] at hok
        have HS := Lib.hid (szI_y (l := l) (s := n + fansLen xs) (by omega))
        go_wp2
        go_ret
        exact ⟨ret_int (by rw [HS.out, HT.out]; omega), hbr⟩
theorem info_Fan : (Try.prog.info? 85).map (fun i => (i.zero, i.size, i.bytes)) = some (some (.agg #[.string ByteArray.empty, .int .i64 0, .slice none 0 0]), 3, 48) := by kernel_rfl
theorem fan_snoc {xs' xs : List Fan} {k : Nat} {x y : Fan} (h : fdat xs' = (fdat xs).take k) (hx : xs[k]? = some x) (hy : y.key = x.key) : fdat (xs' ++ [y]) = (fdat xs).take (k + 1) := by
  rw [take_snoc (fdat_at hx), ← h, ← hy]; simp [fdat]
set_option maxHeartbeats 1600000 in
theorem toFanS_any (A : Option Addr) (n c : Nat) (xs : List Fan) (w : World) (hr : FSS w w.heap.size A n xs) (hn : n ≤ 1048576) (hxs : ∀ x ∈ xs, x.ok) :
    Calls Try.prog 26 #[.slice A n c] w fun e w' => ∃ xs', e = .returned (.slice (some ⟨w.heap.size, 0, none⟩) n n) ∧ Ofs w' w.heap.size w'.heap.size (some ⟨w.heap.size, 0, none⟩) n n xs' ∧ fdat xs' = fdat xs ∧ (∀ x ∈ xs', x.ok) ∧ Below w.heap.size w w' := by
  have HL := Lib.hid hr.len
  have HM := Lib.hid hxs
  clear hxs
  obtain ⟨i0, hi0, hz0, hz1, hz2⟩ := info_parts info_Fan
  have hmk := run_make_rowN (P := Try.prog) 48 85 i0 _ Try.underlying48 hi0 hz0 .i64 .i64 n n (Nat.le_refl _) (by rw [hz2]; omega) (by omega)
  rw [hz1] at hmk
  go_enter Try.func26, Try.ntmps26
  go_wp2
  go_loopw [4] (fun i wr => ∃ (k : Nat) (cur : Array Value) (xs' : List Fan), k ≤ n ∧ i = .int .i64 k ∧ Blk wr w.heap.size 85 cur ∧
    Hid (cur.size = n * 3 ∧ xs'.length = k ∧ fdat xs' = (fdat xs).take k ∧ (∀ j, j < k * 3 → cur[j]? = (Fan.recs xs')[j]?) ∧ (∀ x ∈ xs', x.ok) ∧ Chain wr (w.heap.size + 1) xs' wr.heap.size) ∧ Below w.heap.size w wr) (fun i _ => n - (intOf i).toNat)
  case atStart => exact ⟨0, _, [], by omega, rfl, Blk.new _ _ _, ⟨size_madeCells _ _, rfl, by simp [fdat], fun j hj => absurd hj (by omega), fun x h => by simp at h, by simp [Chain]⟩, by (repeat (first | exact Below.refl _ _ | assumption | (refine Below.alloc ?_ (by first | exact Nat.le_refl _ | (simp; done) | (simp; omega)) _) | (refine below_drewN ?_ _) | (refine Below.trans ?_ (Below.mono (by assumption) (by first | exact Nat.le_refl _ | (simp; done) | (simp; omega) | omega)))))⟩
  case round =>
    obtain ⟨k, cur, xs', hk, rfl, hbk, HC, hbw⟩ := hrel
    have hz := hbw.size
    have hgl := hbk.lt
    by_cases hlt : k < n
    · obtain ⟨ad, x, rfl, had, hx, hc, hrr⟩ := (hr.below hbw).at_ hlt
      have hm := HM.out x (List.mem_of_getElem? hx)
      have HX := Lib.hid hx
      have HRR := Lib.hid hrr
      obtain ⟨h0, h1, h2⟩ := Fan.open_ hc
      have cc := toFan_any x.s x.a x.A x.n x.c x.rs wr hm.sm (hrr.more hz) hm.n hm.r
      have HMx := Lib.hid hm
      clear hx hc hm
      go_wp2_with fail; ((with_reducible refine cc.mono ?_); rintro e w1 ⟨A', rs', rfl, o1, D1, hb1⟩)
      clear cc
      have HO := Lib.hid (oss_mk o1)
      have HD := Lib.hid D1
      have hz1 := hb1.size
      clear o1 D1
      have hbk1 := hbk.below hb1 hgl
      have hcs : Hid (cur.size = n * 3) := HC.out.1
      have hkz : k * 3 + 2 < cur.size := by rw [hcs.out]; omega
      have o0 : w1.cell? ⟨w.heap.size, k * 3, none⟩ = some (cur[k * 3 + 0]'(by omega)) := by rw [hbk1.cell]; exact Array.getElem?_eq_getElem (by omega)
      have f0 := hbk1.frozen (k * 3)
      have o1 : w1.cell? ⟨w.heap.size, k * 3 + 1, none⟩ = some (cur[k * 3 + 1]'(by omega)) := by rw [hbk1.cell]; exact Array.getElem?_eq_getElem (by omega)
      have f1 := hbk1.frozen (k * 3 + 1)
      have o2 : w1.cell? ⟨w.heap.size, k * 3 + 2, none⟩ = some (cur[k * 3 + 2]'(by omega)) := by rw [hbk1.cell]; exact Array.getElem?_eq_getElem (by omega)
      have f2 := hbk1.frozen (k * 3 + 2)
      have HY : Hid (Chain w1 (w.heap.size + 1) (xs' ++ [Fan.mk x.s x.a A' x.n x.n rs']) w1.heap.size) :=
        (HC.out.2.2.2.2.2.same ((Same.refl _ _ wr).below hb1 (Nat.le_refl _))).snoc hz1 HO.out
      have HW : Hid (∀ y ∈ xs' ++ [Fan.mk x.s x.a A' x.n x.n rs'], Fan.ok y) := by
        intro y hy
        rcases List.mem_append.1 hy with hy | hy
        · exact HC.out.2.2.2.2.1 y hy
        · rw [List.mem_singleton] at hy
          subst hy
          exact ⟨HMx.out.s, HMx.out.n, bound_dat HRR.out HO.out.reads HD.out HMx.out.r, by show tot rs' ≤ _; rw [tot_eq HRR.out HO.out.reads HD.out]; exact HMx.out.t⟩
      go_wp2
      go_roundw
      case rel =>
        obtain ⟨c1, c2, c3, c4, c5, c6⟩ := HC.out
        have HS := rel_set (n := n) (cur := cur) (xs := xs' ++ [Fan.mk x.s x.a A' x.n x.n rs']) (k := k) (x := Fan.mk x.s x.a A' x.n x.n rs') Fan.clen (by rw [List.getElem?_append_right (by omega), c2, Nat.sub_self]; rfl) hlt c1 (fun j hj => by
          rw [c4 j hj]
          unfold Fan.recs
          rw [recs_append, List.getElem?_append_left (by rw [recs_len Fan.clen, c2]; exact hj)])
        refine ⟨k + 1, _, xs' ++ [Fan.mk x.s x.a A' x.n x.n rs'], by omega, by go_num, (((hbk1.set_ (k * 3) _).set_ (k * 3 + 1) _).set_ (k * 3 + 2) _), ⟨HS.1, by simp [c2], fan_snoc (y := Fan.mk x.s x.a A' x.n x.n rs') c3 HX.out (by unfold Fan.key; rw [HD.out]), HS.2, HW.out, ?_⟩, ?_⟩
        · simp only [World.size_setCell]
          exact ((HY.out.setLow _ (by simp)).setLow _ (by simp)).setLow _ (by simp)
        · exact ((((hbw.trans (hb1.mono hz)).setCell (by simp) _).setCell (by simp) _).setCell (by simp) _)
      case measure => simp [intOf]; omega
    · have e : k = n := by omega
      subst e
      go_wp2
      go_ret
      obtain ⟨c1, c2, c3, c4, c5, c6⟩ := HC.out
      refine ⟨xs', rfl, ⟨own_of_blkZ hbk (by unfold Fan.recs; rw [recs_len Fan.clen, c2]) c1 (wfmax hn) c4, fun j hj => ?_, hgl, c6⟩, by rw [c3, List.take_of_length_le (by rw [fdat_len, HL.out]; omega)], c5, hbw⟩
      simp [Value.ownBlock] at hj; omega
set_option maxHeartbeats 1600000 in
set_option maxRecDepth 100000 in
theorem eqFanS_b (A B : Option Addr) (n c d : Nat) (xs ys : List Fan) (w : World) (hr : FSS w w.heap.size A n xs) (hq : FSS w w.heap.size B n ys) (hd : fdat xs = fdat ys) (hn : n ≤ 1099511627776) (hxs : ∀ x ∈ xs, x.ok) :
    Calls Try.prog 28 #[.slice A n c, .slice B n d] w fun e w' => e = .returned (.bool true) ∧ Below w.heap.size w w' := by
  have HM := Lib.hid hxs
  have HD := Lib.hid hd
  clear hxs hd
  go_enter Try.func28, Try.ntmps28
  go_wp2
  go_loopw [5] (fun i wr => ∃ (k : Nat), k ≤ n ∧ i = .int .i64 k ∧ Below w.heap.size w wr) (fun i _ => n - (intOf i).toNat)
  case atStart => exact ⟨0, by omega, rfl, Below.refl _ _⟩
  case round =>
    obtain ⟨k, hk, rfl, hbw⟩ := hrel
    have hz := hbw.size
    by_cases hlt : k < n
    · obtain ⟨ad, x, rfl, had, hx, hc, hrx⟩ := (hr.below hbw).at_ hlt
      obtain ⟨bd, y, rfl, hbd, hy, hc', hry⟩ := (hq.below hbw).at_ hlt
      have hm := HM.out x (List.mem_of_getElem? hx)
      have hkey : x.key = y.key := by
        have h1 := fdat_at hx
        rw [HD.out, fdat_at hy] at h1
        exact (Option.some.inj h1).symm
      obtain ⟨h0, h1, h2⟩ := Fan.open_ hc
      obtain ⟨k0, k1, k2⟩ := Fan.open_ hc'
      obtain ⟨xs, xa, xA, xn, xc, xr⟩ := x
      obtain ⟨ys, ya, yA, yn, yc, yr⟩ := y
      simp only [Fan.key, Prod.mk.injEq] at hkey
      obtain ⟨rfl, rfl, hdd⟩ := hkey
      simp only at h0 h1 h2 k0 k1 k2 hrx hry
      obtain rfl : xn = yn := by
        have g1 := hrx.len
        have g2 := hry.len
        have g3 := congrArg List.length hdd
        rw [dat_len, dat_len] at g3
        omega
      have hlt' : (k : Int) < (n : Int) := by omega
      have HE : Hid (Calls Try.prog 70 #[.agg #[.string xs, .int .i64 xa, .slice xA xn xc], .agg #[.string xs, .int .i64 xa, .slice yA xn yc]] wr.drew fun e w' => e = .returned (.bool true) ∧ Below wr.drew.heap.size wr.drew w') :=
        eqFan_b xs xa xA yA xn xc yc xr yr wr.drew ((hrx.below (below_drew (Below.refl _ _))).more hz) ((hry.below (below_drew (Below.refl _ _))).more hz) hdd (by have := hm.n; simp only at this; omega) (fun r hr => Nat.le_trans (hm.r r hr) (by omega))
      clear hx hy hc hc' hdd hm
      go_wp2
      go_still_tail 8, (by kernel_rfl)
      go_wp2_with fail; ((with_reducible refine HE.out.mono ?_); rintro e w1 ⟨rfl, hb1⟩)
      go_wp2
      go_roundw
      case rel => exact ⟨k + 1, by omega, by go_num, (below_drew hbw).trans (hb1.mono hz)⟩
      case measure => simp [intOf]; omega
    · go_wp2
      go_ret
      exact ⟨rfl, hbw⟩
end Go.Proofs.Ytjmhhbjbmgpagaa
