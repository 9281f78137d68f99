/- Contract of the laws' own marks on fans. -/
import Derived.Test.YtjmhhbjbmgpagaaFans
namespace Go.Proofs.Ytjmhhbjbmgpagaa
set_option linter.unusedVariables false
set_option linter.unusedSimpArgs false
open Go.RowKit
def keyLen (x : ByteArray × Int × List (List Int)) : Int := x.1.size + (x.2.2.length + totD x.2.2)
def keysLen : List (ByteArray × Int × List (List Int)) → Int
  | [] => 0
  | x :: t => keyLen x + keysLen t
theorem fansLen_key {w : World} {B : Nat} : ∀ {xs : List Fan}, (∀ x ∈ xs, RSS w B x.A x.n x.rs) → fansLen xs = keysLen (fdat xs)
  | [], _ => rfl
  | x :: t, h => by
    have h1 := fansLen_key (xs := t) fun q hq => h q (List.mem_cons_of_mem _ hq)
    have h2 := h x (List.mem_cons_self ..)
    have h3 := tot_dat h2.row
    have h4 := h2.len
    have h5 := dat_len x.rs
    simp only [fansLen, fdat, List.map_cons, keysLen, keyLen, Fan.key, Fan.len]
    rw [h1, h3, h5, h4]; rfl
theorem fansLen_eq {w w' : World} {B B' n m : Nat} {A A' : Option Addr} {xs xs' : List Fan} (h : FSS w B A n xs) (h' : FSS w' B' A' m xs') (hd : fdat xs' = fdat xs) : fansLen xs' = fansLen xs := by
  rw [fansLen_key h.row, fansLen_key h'.row, hd]
/-- How many marks the fans take. -/
def mksF : List Fan → Int
  | [] => 0
  | x :: t => 2 + tot x.rs + mksF t
theorem mksF_bnd : ∀ xs : List Fan, 0 ≤ mksF xs ∧ mksF xs ≤ 2 * xs.length + fansLen xs
  | [] => by simp [mksF, fansLen]
  | x :: t => by
    have h := mksF_bnd t
    have h1 := tot_nonneg x.rs
    simp only [mksF, fansLen, List.length_cons, Fan.len]
    omega
theorem mksF_drop {xs : List Fan} {k : Nat} {x : Fan} (h : xs[k]? = some x) : mksF (xs.drop k) = 2 + tot x.rs + mksF (xs.drop (k + 1)) := by
  have hk : k < xs.length := len_of_at h
  rw [List.drop_eq_getElem_cons hk]
  rw [List.getElem?_eq_getElem hk] at h
  rw [Option.some.inj h]; rfl
theorem drop_cons {α : Type} {xs : List α} {k : Nat} {x : α} (h : xs[k]? = some x) : xs.drop k = x :: xs.drop (k + 1) := by
  have hk : k < xs.length := len_of_at h
  rw [List.drop_eq_getElem_cons hk]
  rw [List.getElem?_eq_getElem hk] at h
  rw [Option.some.inj h]
theorem chg_wide {lo hi l h : Nat} {a b : World} (c : Chg l h a b) (h1 : lo ≤ l) (h2 : h ≤ hi) : Chg lo hi a b := ⟨c.os, c.tape, c.output, c.size, fun i g1 g2 => c.blk i g1 (by omega)⟩
theorem Chg.set {lo hi : Nat} {a b : World} (c : Chg lo hi a b) {p : Addr} (h1 : lo ≤ p.block) (h2 : p.block < hi) (u : Value) : Chg lo hi a (b.setCell p u) :=
  ⟨c.os, c.tape, c.output, by simpa [World.setCell] using c.size, fun i g1 g2 => (Below.heap_setCell b p u i (by rintro rfl; omega)).trans (c.blk i g1 g2)⟩
theorem Chg.grow {lo hi : Nat} {a b c : World} (h : Chg lo hi a b) (k : Below b.heap.size b c) : Chg lo hi a c := h.trans (Chg.of_below k)
/-- How fans stand while the first j of them are marked. -/
structure MrkF (w : World) (lo hi n : Nat) (xs : List Fan) (j : Nat) (cu : Array Value) : Prop where
  size : cu.size = n * 3 ∨ n * 3 ≤ cu.size
  due : ∀ l, j * 3 ≤ l → l < n * 3 → cu[l]? = (Fan.recs xs)[l]?
  chain : ∃ b, lo + 1 ≤ b ∧ Chain w b (xs.drop j) hi
set_option maxHeartbeats 3200000 in
set_option maxRecDepth 100000 in
theorem markFanS_any (lo hi : Nat) (A : Option Addr) (n c : Nat) (xs : List Fan) (k : Int) (w : World) (h : Ofs w lo hi A n c xs) (hn : n ≤ 1048576) (hxs : ∀ x ∈ xs, x.ok) (ht : fansLen xs ≤ 1048576) (hi' : hi ≤ w.heap.size) (hk0 : 0 ≤ k) (hk1 : k ≤ 1000000000) :
    Calls Try.prog 29 #[.slice A n c, .int .i64 k] w fun e w' => e = .returned (.int .i64 (k + mksF xs)) ∧ Chg lo hi w w' := by
  have HL := Lib.hid h.reads.len
  have hmk := mksF_bnd xs
  rw [HL.out] at hmk
  rcases Nat.eq_zero_or_pos n with h0 | hpos
  · subst h0
    have hx : xs = [] := List.eq_nil_of_length_eq_zero HL.out
    subst hx
    go_enter Try.func29, Try.ntmps29
    go_wp2
    go_loop [1, 5] (fun kk i => kk = .int .i64 k ∧ i = .int .i64 0) (fun _ _ => 0)
    case atStart => exact ⟨rfl, rfl⟩
    case round =>
      obtain ⟨rfl, rfl⟩ := hrel
      go_wp2
      go_ret
      exact ⟨ret_int (by simp [mksF]), Chg.refl _ _ _⟩
  · have HM := Lib.hid hxs
    have hle := h.le
    have hch := Lib.hid h.chain
    rcases h.own.2 with ⟨_, h0⟩ | ⟨g, cap, cur, hv, hbg, hgb, hnc, hcm, hcs, htake⟩
    · exfalso
      have h1 := h.own.1
      rw [h0] at h1
      simp at h1; omega
    have hglo : g = lo := by
      injection hv with hA _ _
      have := h.top g (by rw [hA]; rfl)
      omega
    subst hglo
    injection hv with hA _ hc
    subst hA
    subst hc
    have hBlk : Blk w g 85 cur := hgb
    have HC0 : Hid (cur.size = c * 3 ∧ n ≤ c ∧ ∀ l, l < n * 3 → cur[l]? = (Fan.recs xs)[l]?) := ⟨hcs, hnc, fun l hl => by
      rw [← htake, List.getElem?_take, if_pos hl, Array.getElem?_toList]⟩
    have hgl := hBlk.lt
    clear hxs h hcs htake
    go_enter Try.func29, Try.ntmps29
    go_wp2
    go_loopw [1, 5] (fun kk i wr => ∃ (j : Nat) (cu : Array Value) (kv : Int), j ≤ n ∧ kk = .int .i64 kv ∧ kv + mksF (xs.drop j) = k + mksF xs ∧ k ≤ kv ∧ i = .int .i64 j ∧ Blk wr g 85 cu ∧
      Hid (cu.size = c * 3 ∧ (∀ l, j * 3 ≤ l → l < n * 3 → cu[l]? = (Fan.recs xs)[l]?) ∧ ∃ b, g + 1 ≤ b ∧ Chain wr b (xs.drop j) hi) ∧ Hid (Chg g hi w wr)) (fun _ i _ => n - (intOf i).toNat)
    case atStart => exact ⟨0, cur, k, by omega, rfl, rfl, Int.le_refl _, rfl, hBlk, ⟨HC0.out.1, fun l _ hl => HC0.out.2.2 l hl, g + 1, Nat.le_refl _, hch.out⟩, Chg.refl _ _ _⟩
    case round =>
      obtain ⟨j, cu, kv, hj, rfl, hkv, hkv0, rfl, hbk, HC, HG⟩ := hrel
      obtain ⟨wo, rfl⟩ : ∃ wo : World, wo = wr := ⟨_, rfl⟩
      by_cases hlt : j < n
      · obtain ⟨x, hx⟩ : ∃ x, xs[j]? = some x := ⟨_, List.getElem?_eq_getElem (by rw [HL.out]; exact hlt)⟩
        obtain ⟨c1, c2, b, hb, hcn⟩ := HC.out
        rw [drop_cons hx] at hcn
        obtain ⟨m, hm1, hoss, hrest⟩ := hcn
        have hok := HM.out x (List.mem_of_getElem? hx)
        have hdm := mksF_drop hx
        have hrm := mksF_bnd (xs.drop (j + 1))
        have hmle := hrest.le
        have htn := tot_nonneg x.rs
        have htk := hok.t
        have hgw := hbk.lt
        have hgs := HG.out.size
        have hr2 : cu[j * 3 + 2]? = some (.slice x.A x.n x.c) := by
          rw [c2 (j * 3 + 2) (by omega) (by omega)]
          exact recs_at (f := Fan.cells) (z := 3) Fan.clen hx (by omega)
        have hcu : cu.size = c * 3 := c1
        have hjz : j * 3 + 2 < cu.size := by rw [hcu]; have := HC0.out.2.1; omega
        have HOS := Lib.hid hoss
        have HRS := Lib.hid hrest
        have HOK := Lib.hid hok
        have HR2 := Lib.hid hr2
        have HC2 := Lib.hid c2
        have HX := Lib.hid hx
        have HCU := Lib.hid hcu
        have hkv1 : kv + 2 + tot x.rs + mksF (xs.drop (j + 1)) = k + mksF xs := by omega
        have hks : kv ≤ 1099511627776 := by omega
        have hks0 : 0 ≤ kv := by omega
        clear hx c1 c2 hoss hrest hok hr2 hcu HC hdm hkv
        go_wp2_with fail; ((with_reducible refine (markText_any _ _ hks0 hks).mono ?_); rintro e w1 ⟨ms, rfl, hb1⟩)
        have hbk1 := hbk.below hb1 hgw
        have o0 : w1.cell? ⟨g, j * 3, none⟩ = some (cu[j * 3 + 0]'(by omega)) := by rw [hbk1.cell]; exact Array.getElem?_eq_getElem (by omega)
        have f0 := hbk1.frozen (j * 3)
        have o1 : w1.cell? ⟨g, j * 3 + 1, none⟩ = some (cu[j * 3 + 1]'(by omega)) := by rw [hbk1.cell]; exact Array.getElem?_eq_getElem (by omega)
        have f1 := hbk1.frozen (j * 3 + 1)
        have o2 : w1.cell? ⟨g, j * 3 + 2, none⟩ = some (.slice x.A x.n x.c) := (hbk1.cell (j * 3 + 2)).trans HR2.out
        have f2 := hbk1.frozen (j * 3 + 2)
        have hz1 := hb1.size
        have HK2 : Hid (∀ u v, Blk ((w1.setCell ⟨g, j * 3, none⟩ u).setCell ⟨g, j * 3 + 1, none⟩ v) g 85 ((cu.setIfInBounds (j * 3) u).setIfInBounds (j * 3 + 1) v)) := fun u v => (hbk1.set_ _ _).set_ _ _
        have HO2 : Hid (∀ u v, Oss ((w1.setCell ⟨g, j * 3, none⟩ u).setCell ⟨g, j * 3 + 1, none⟩ v) b m x.A x.n x.c x.rs ∧ Chain ((w1.setCell ⟨g, j * 3, none⟩ u).setCell ⟨g, j * 3 + 1, none⟩ v) m (xs.drop (j + 1)) hi) := fun u v =>
          have s1 : Same b hi wo w1 := (Same.refl b hi wo).below hb1 (by omega)
          ⟨oss_setLow (oss_setLow (HOS.out.same (same_sub s1 (Nat.le_refl _) hmle)) (p := ⟨g, j * 3, none⟩) (by show g < b; omega) u) (p := ⟨g, j * 3 + 1, none⟩) (by show g < b; omega) v,
            ((HRS.out.same (same_sub s1 hm1 (Nat.le_refl _))).setLow (p := ⟨g, j * 3, none⟩) u (by show g < m; omega)).setLow (p := ⟨g, j * 3 + 1, none⟩) v (by show g < m; omega)⟩
        have HG2 : Hid (∀ u v, Chg g hi w ((w1.setCell ⟨g, j * 3, none⟩ u).setCell ⟨g, j * 3 + 1, none⟩ v)) := fun u v =>
          ((HG.out.grow hb1).set (p := ⟨g, j * 3, none⟩) (Nat.le_refl _) (by show g < hi; omega) u).set (p := ⟨g, j * 3 + 1, none⟩) (Nat.le_refl _) (by show g < hi; omega) v
        have HMK : Hid (∀ u v, Calls Try.prog 72 #[.slice x.A x.n x.c, .int .i64 (kv + 1 + 1)] ((w1.setCell ⟨g, j * 3, none⟩ u).setCell ⟨g, j * 3 + 1, none⟩ v) fun e w' => e = .returned (.int .i64 (kv + 1 + 1 + tot x.rs)) ∧ Oss w' b m x.A x.n x.c (numR x.rs (kv + 1 + 1)) ∧ Chg b m ((w1.setCell ⟨g, j * 3, none⟩ u).setCell ⟨g, j * 3 + 1, none⟩ v) w') :=
          fun u v => markInt64SS_any b m x.A x.n x.c x.rs (kv + 1 + 1) _ (HO2.out u v).1 HOK.out.n HOK.out.r HOK.out.t (by omega) (by omega)
        go_wp2_with fail; ((with_reducible refine (HMK.out _ _).mono ?_); rintro e w2 ⟨rfl, _, hg2⟩)
        have hsz : g < w1.heap.size := Nat.lt_of_lt_of_le hgw hz1
        have K3 : Blk w2 g 85 ((cu.setIfInBounds (j * 3) (.string ms)).setIfInBounds (j * 3 + 1) (.int .i64 (kv + 1))) := (hg2.blk g (by simp only [World.size_setCell]; exact hsz) (Or.inl hb)).trans (HK2.out _ _)
        have HN : Hid (((cu.setIfInBounds (j * 3) (.string ms)).setIfInBounds (j * 3 + 1) (.int .i64 (kv + 1))).size = c * 3 ∧ (∀ l, (j + 1) * 3 ≤ l → l < n * 3 → ((cu.setIfInBounds (j * 3) (.string ms)).setIfInBounds (j * 3 + 1) (.int .i64 (kv + 1)))[l]? = (Fan.recs xs)[l]?) ∧ ∃ b', g + 1 ≤ b' ∧ Chain w2 b' (xs.drop (j + 1)) hi) := by
          refine ⟨by simpa using HCU.out, fun l h1 h2 => ?_, m, by omega, ?_⟩
          · rw [Array.getElem?_setIfInBounds, if_neg (by omega), Array.getElem?_setIfInBounds, if_neg (by omega)]
            exact HC2.out l (by omega) h2
          · exact (HO2.out (.string ms) (.int .i64 (kv + 1))).2.same ((Same.refl m hi _).chg hg2 (by simp only [World.size_setCell]; omega) (Or.inr (Nat.le_refl _)))
        have HG3 := Lib.hid ((HG2.out (.string ms) (.int .i64 (kv + 1))).trans (chg_wide (lo := g) (hi := hi) hg2 (by omega) hmle))
        have HK3 := Lib.hid K3
        clear hg2 K3 hbk1 o0 o1 o2 f0 f1 f2 hb1
        go_wp2
        go_roundw
        case rel => exact ⟨j + 1, _, kv + 1 + 1 + tot x.rs, by omega, rfl, by omega, by omega, by go_num, HK3.out, HN.out, HG3.out⟩
        case measure => simp [intOf]; omega
      · have e : j = n := by omega
        have hz : mksF (xs.drop j) = 0 := by rw [List.drop_eq_nil_of_le (by rw [HL.out]; omega)]; rfl
        clear e HC
        go_wp2
        go_ret
        exact ⟨ret_int (by omega), HG.out⟩
end Go.Proofs.Ytjmhhbjbmgpagaa
