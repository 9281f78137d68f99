/- Contracts of the numbers of two curves, in order. -/
import Derived.Test.YtapophggndlhaaaSrt
import Derived.Test.YtapophggndlhaaaLock
namespace Go.Proofs.Ytapophggndlhaaa
set_option linter.unusedVariables false
set_option linter.unusedSimpArgs false
open Go.RowKit
def tS (sK : Nat → Nat) : Nat → Nat
  | 0 => 0
  | k + 1 => tS sK k + sK k
def rS (vK : Nat → List Value) : Nat → List Value
  | 0 => []
  | k + 1 => rS vK k ++ vK k
theorem tS_bnd {sK : Nat → Nat} (h : ∀ k, k < 2 → sK k ≤ 1000) : ∀ k, k ≤ 2 → tS sK k ≤ 1000 * k
  | 0, _ => by simp [tS]
  | k + 1, hk => by
    have h1 := tS_bnd h k (by omega)
    have h2 := h k (by omega)
    show tS sK k + sK k ≤ _
    omega
set_option maxHeartbeats 1600000 in
set_option maxRecDepth 100000 in
theorem Concat_gen (g : Nat) (AK : Nat → Option Addr) (sK cK : Nat → Nat) (vK : Nat → List Value) (w : World) (h : ∀ k, k < 2 → w.cell? ⟨g, k, none⟩ = some (.slice (AK k) (sK k) (cK k))) (hr : ∀ k, k < 2 → Reads w w.heap.size 1 (AK k) (sK k) (vK k))
    (h1 : ∀ k, k < 2 → ∀ u ∈ vK k, u.oneCell' = true) (hs : ∀ k, k < 2 → sK k ≤ 1000) (hp : 1 ≤ tS sK 2) :
    Calls Try.prog 85 #[.slice (some ⟨g, 0, none⟩) 2 2] w fun e w' => ∃ (A' : Option Addr) (c' : Nat), e = .returned (.slice A' (tS sK 2) c') ∧ w'.ownsRow w.heap.size 53 1 (.slice A' (tS sK 2) c') (tS sK 2) (rS vK 2) ∧ Below w.heap.size w w' := by
  obtain ⟨i0, hi0, hz0, hz1, hz2⟩ := info_parts info_Int64SS
  have HC := Lib.hid h
  have HR := Lib.hid hr
  have H1 := Lib.hid h1
  have HS := Lib.hid hs
  have HT := Lib.hid (tS_bnd hs)
  have HG := Lib.hid (fun W => Grow_any (tS sK 2) W hp (by have := tS_bnd hs 2 (by omega); omega))
  clear h hr h1 hs hp
  go_enter Try.func85, Try.ntmps85
  go_wp2
  go_loop [3, 11] (fun s i => ∃ k : Nat, k ≤ 2 ∧ i = .int .i64 k ∧ s = .int .i64 (tS sK k)) (fun _ i => 2 - (intOf i).toNat)
  case atStart => exact ⟨0, by omega, rfl, rfl⟩
  case round =>
    obtain ⟨k, hk, rfl, rfl⟩ := hrel
    have ht := HT.out k hk
    by_cases hlt : k < 2
    · have hc := HC.out k hlt
      have hs := HS.out k hlt
      have HN : Hid (((tS sK (k + 1) : Nat) : Int) = (tS sK k : Int) + (sK k : Int)) := show _ = _ by show ((tS sK k + sK k : Nat) : Int) = _; omega
      have hkI : (k : Int) < 2 := by omega
      generalize tS sK k = t at *
      generalize sK k = s1 at *
      go_wp2
      go_round
      case rel => exact ⟨k + 1, by omega, by go_num, by rw [HN.out]⟩
      case measure => simp [intOf]; omega
    · obtain rfl : k = 2 := by omega
      have ht2 : ((tS sK 2 : Nat) : Int) ≤ 2000 := by omega
      generalize hT : tS sK 2 = T at *
      go_wp2_with fail; ((with_reducible refine (HG.out _).mono ?_); rintro e w1 ⟨A1, c1, rfl, ho1, hb1⟩)
      have HO1 := Lib.hid ho1
      have HTT := Lib.hid hT
      clear ho1 hT
      go_wp2
      go_loopw [6, 27] (fun o i wr => ∃ (k : Nat) (A' : Option Addr) (c' : Nat), k ≤ 2 ∧ i = .int .i64 k ∧ o = .slice A' (tS sK k) c' ∧ Hid (wr.ownsRow w.heap.size 53 1 (.slice A' (tS sK k) c') (tS sK k) (rS vK k)) ∧ Below w.heap.size w wr) (fun _ i _ => 2 - (intOf i).toNat)
      case atStart => exact ⟨0, A1, c1, by omega, rfl, rfl, HO1.out, hb1⟩
      case round =>
        obtain ⟨k, A', c', hk, rfl, rfl, HO, hbr⟩ := hrel
        obtain ⟨wo, rfl⟩ : ∃ wo : World, wo = wr := ⟨_, rfl⟩
        have hzr := hbr.size
        have ht := HT.out k hk
        by_cases hlt : k < 2
        · have hc0 := HC.out k hlt
          have hc := (hbr.cell (block_lt_of_cell hc0)).trans hc0
          have hs := HS.out k hlt
          have RA := Lib.hid ((HR.out k hlt).below hbr)
          have HX := Lib.hid (H1.out k hlt)
          have HN : Hid (tS sK (k + 1) = tS sK k + sK k ∧ rS vK (k + 1) = rS vK k ++ vK k) := ⟨rfl, rfl⟩
          have hkI : (k : Int) < 2 := by omega
          generalize tS sK k = t at *
          generalize rS vK k = rr at *
          generalize sK k = s1 at *
          generalize vK k = v1 at *
          generalize AK k = A1k at *
          generalize cK k = c1k at *
          clear hc0
          go_wp2_with (at_builtin; refine wpList_append_any _ rfl _ _ 22 rfl w.heap.size 53 i0 _ 1 24 Try.underlying22 hi0 hz0 hz1 hz2 rfl (by omega) (.slice A' t c') t rr rfl HO.out w.heap.size A1k s1 c1k v1 rfl RA.out HX.out (by unfold maxLen; omega) (by omega) hzr ?_; intro v3 w3 ho3 hg3 hv3; obtain ⟨A3, c3, rfl⟩ := own_shape ho3; have HB3 := Lib.hid (hbr.grown hg3 hzr (fun q hq => (HO.out.lt q hq).1)); have HO3 := Lib.hid ho3; clear ho3 hg3 hv3)
          go_roundw
          case rel => exact ⟨k + 1, A3, c3, by omega, by go_num, by rw [HN.out.1], by rw [HN.out.1, HN.out.2]; exact HO3.out, HB3.out⟩
          case measure => simp [intOf]; omega
        · obtain rfl : k = 2 := by omega
          rw [HTT.out] at HO ⊢
          go_wp2
          go_ret
          exact ⟨A', c', by rw [HTT.out]; rfl, by rw [HTT.out]; exact HO.out, hbr⟩
theorem Concat_any (g : Nat) (A B : Option Addr) (n c m d : Nat) (xs ys : List Value) (w : World) (h0 : w.cell? ⟨g, 0, none⟩ = some (.slice A n c)) (h1 : w.cell? ⟨g, 1, none⟩ = some (.slice B m d)) (hA : Reads w w.heap.size 1 A n xs) (hB : Reads w w.heap.size 1 B m ys)
    (hx : ∀ u ∈ xs, u.oneCell' = true) (hy : ∀ u ∈ ys, u.oneCell' = true) (hn : 1 ≤ n ∧ n ≤ 1000) (hm : 1 ≤ m ∧ m ≤ 1000) :
    Calls Try.prog 85 #[.slice (some ⟨g, 0, none⟩) 2 2] w fun e w' => ∃ (A' : Option Addr) (c' : Nat), e = .returned (.slice A' (n + m) c') ∧ w'.ownsRow w.heap.size 53 1 (.slice A' (n + m) c') (n + m) (xs ++ ys) ∧ Below w.heap.size w w' := by
  have h := Concat_gen g (fun k => if k = 0 then A else B) (fun k => if k = 0 then n else m) (fun k => if k = 0 then c else d) (fun k => if k = 0 then xs else ys) w
    (fun k hk => by obtain rfl | rfl : k = 0 ∨ k = 1 := by omega
                    · exact h0
                    · exact h1)
    (fun k hk => by obtain rfl | rfl : k = 0 ∨ k = 1 := by omega
                    · exact hA
                    · exact hB)
    (fun k hk => by obtain rfl | rfl : k = 0 ∨ k = 1 := by omega
                    · exact hx
                    · exact hy)
    (fun k hk => by obtain rfl | rfl : k = 0 ∨ k = 1 := by omega
                    · exact hn.2
                    · exact hm.2) (by simp [tS]; omega)
  rw [show tS (fun k => if k = 0 then n else m) 2 = n + m by simp [tS], show rS (fun k => if k = 0 then xs else ys) 2 = xs ++ ys by simp [rS]] at h
  exact h
def colS (rs : List Row) (j : Nat) : List Int := rs.map fun r => r.xs.getD j 0
theorem row_one {rs : List Row} : ∀ u ∈ rowsV rs, u.oneCell' = true := fun u hu => by
  obtain ⟨r, _, rfl⟩ := List.mem_map.1 hu
  rfl
set_option maxHeartbeats 1600000 in
set_option maxRecDepth 100000 in
theorem curveNumbers_any (sa sb : ByteArray) (xa xb : Int) (A B : Option Addr) (n c m d : Nat) (ra rb : List Row) (j : Nat) (ji : Int) (hj : (j : Int) = ji) (hj2 : j < 2) (w : World) (hra : RSS w w.heap.size A n ra) (hrb : RSS w w.heap.size B m rb)
    (ha : ∀ r ∈ ra, r.xs.length = 2) (hb : ∀ r ∈ rb, r.xs.length = 2) (hn : 1 ≤ n ∧ n ≤ 100) (hm : 1 ≤ m ∧ m ≤ 100) :
    Calls Try.prog 61 #[.agg #[.string sa, .int .i64 xa, .slice A n c], .agg #[.string sb, .int .i64 xb, .slice B m d], .int .i64 ji] w fun e w' => ∃ (A' : Option Addr) (N c' : Nat), e = .returned (.slice A' N c') ∧ w'.ownsRow w.heap.size 2 1 (.slice A' N c') N (ints (putAll (colS ra j ++ colS rb j))) ∧ Below w.heap.size w w' := by
  subst hj
  obtain ⟨i0, hi0, hz0, hz1, hz2⟩ := info_parts info_Int64S
  have HLa : ra.length = n := hra.len
  have HLb : rb.length = m := hrb.len
  have hb3 : Below w.heap.size w (((w.alloc (.cells #[.string sa, .int .i64 xa, .slice A n c] 26)).alloc (.cells #[.string sb, .int .i64 xb, .slice B m d] 26)).alloc (.cells #[.slice A n c, .slice B m d] 22)) := (((Below.refl _ _).alloc (Nat.le_refl _) _).alloc (by simp) _).alloc (by simp; omega) _
  have K3 := Blk.new ((w.alloc (.cells #[.string sa, .int .i64 xa, .slice A n c] 26)).alloc (.cells #[.string sb, .int .i64 xb, .slice B m d] 26)) 22 #[.slice A n c, .slice B m d]
  rw [show ((w.alloc (.cells #[.string sa, .int .i64 xa, .slice A n c] 26)).alloc (.cells #[.string sb, .int .i64 xb, .slice B m d] 26)).heap.size = w.heap.size + 2 by simp] at K3
  have HC := Lib.hid (Concat_any (w.heap.size + 2) A B n c m d (rowsV ra) (rowsV rb) _ ((K3.cell 0).trans rfl) ((K3.cell 1).trans rfl) ((hra.out.below hb3).more hb3.size) ((hrb.out.below hb3).more hb3.size) row_one row_one (by omega) (by omega))
  have HRW : Hid (∀ r ∈ ra ++ rb, r.xs.length = 2 ∧ Reads w w.heap.size 1 r.A r.n (ints r.xs)) := fun r hr => by
    rcases List.mem_append.1 hr with h | h
    · exact ⟨ha r h, hra.row r h⟩
    · exact ⟨hb r h, hrb.row r h⟩
  have HLL : Hid ((ra ++ rb).length = n + m) := show _ = _ by rw [List.length_append, HLa, HLb]
  have HCA : Hid (colS (ra ++ rb) j = colS ra j ++ colS rb j) := show _ = _ by unfold colS; rw [List.map_append]
  have HAP : Hid (rowsV ra ++ rowsV rb = rowsV (ra ++ rb)) := show _ = _ by unfold rowsV; rw [List.map_append]
  have HB3 := Lib.hid hb3
  have hs3 := hb3.size
  have hNM : 2 ≤ n + m ∧ n + m ≤ 200 := by omega
  rw [← HCA.out]
  generalize hrs : ra ++ rb = rs at *
  rw [HAP.out] at HC
  generalize hNN : n + m = N at *
  clear hra hrb ha hb hn hm HLa HLb K3 hb3 HCA HAP hrs hNN
  obtain ⟨hN1, hN2⟩ := hNM
  go_enter Try.func61, Try.ntmps61
  go_wp2_with fail; ((with_reducible refine HC.out.mono ?_); rintro e w4 ⟨A1, c1, rfl, ho4, hb4⟩)
  have B4 := HB3.out.trans (hb4.mono HB3.out.size)
  have HR4 := Lib.hid (Reads.of_own ho4)
  clear ho4 hb4 HC
  go_wp2
  go_loopw [7, 17] (fun o i wr => ∃ (k : Nat) (A' : Option Addr) (c' : Nat), k ≤ N ∧ i = .int .i64 k ∧ o = .slice A' k c' ∧ Hid (wr.ownsRow w4.heap.size 2 1 (.slice A' k c') k (ints ((colS rs j).take k))) ∧ Below w4.heap.size w4 wr) (fun _ i _ => N - (intOf i).toNat)
  case atStart => exact ⟨0, none, 0, by omega, rfl, rfl, own_nil _ _ _ _, Below.refl _ _⟩
  case round =>
    obtain ⟨k, A', c', hk, rfl, rfl, HO, hbr⟩ := hrel
    obtain ⟨wo, rfl⟩ : ∃ wo : World, wo = wr := ⟨_, rfl⟩
    have hzr := hbr.size
    have Bo := B4.trans (hbr.mono B4.size)
    by_cases hlt : k < N
    · obtain ⟨ad, u, rfl, had, hx, hc⟩ := (HR4.out.below hbr).at_ hlt
      obtain ⟨r, hr, rfl⟩ : ∃ r, rs[k]? = some r ∧ u = r.val := by
        unfold rowsV at hx
        rw [List.getElem?_map] at hx
        obtain ⟨r, h1, h2⟩ := Option.map_eq_some_iff.1 hx
        exact ⟨r, h1, h2.symm⟩
      obtain ⟨hl2, hrd⟩ := HRW.out r (List.mem_of_getElem? hr)
      have hn2 : r.n = 2 := by have h := ints_len hrd; omega
      obtain ⟨ad2, u2, hA2, _, hx2, hc2⟩ := (hrd.below Bo).at_ (k := j) (by omega)
      obtain ⟨y, hy, rfl⟩ := ints_at hx2
      have hcr : wo.cell? (ad.add k) = some (.slice (some ad2) r.n r.c) := by
        have h : wo.cell? (ad.add k) = some (.slice r.A r.n r.c) := hc
        rw [hA2] at h; exact h
      have HN : Hid ((colS rs j).take (k + 1) = (colS rs j).take k ++ [y]) := show _ = _ by
        rw [List.take_add_one]
        congr 1
        unfold colS
        rw [List.getElem?_map, hr]
        show [r.xs.getD j 0] = [y]
        rw [List.getD_eq_getElem?_getD, hy]; rfl
      have hjr : (j : Int) < (r.n : Int) := by omega
      have hkI : (k : Int) < (N : Int) := by omega
      clear hx hr hl2 hrd hx2 hy hA2 hc
      go_wp2_with (at_builtin; (refine wpList_app _ rfl _ _ 53 rfl w4.heap.size 2 i0 _ 1 8 Try.underlying53 hi0 hz0 hz1 hz2 rfl (by omega) A' _ c' _ rfl ((HO.out).alloc _) ⟨_, 0, none⟩ 1 1 [.int .i64 y] rfl rfl (cell_one_at (by simp) _ _) (by simp [Value.oneCell']) (by unfold maxLen; omega) (by omega) (by have hz := (hbr).size; simp at hz ⊢; omega) ?_); intro A3 c3 w5 ho5 hb5)
      go_roundw
      case rel => exact ⟨k + 1, A3, c3, by omega, by go_num, by first | rfl | go_num, by rw [HN.out]; unfold Hid; simpa [ints] using ho5, (hbr.alloc hbr.size _).trans hb5⟩
      case measure => simp [intOf]; omega
    · have e : k = N := by omega
      have htk : (colS rs j).take k = colS rs j := List.take_of_length_le (by unfold colS; rw [List.length_map, HLL.out]; omega)
      rw [htk, e] at HO
      subst e
      have HS := Lib.hid (Sort_own w4.heap.size A' k c' (colS rs j) wo HO.out (by omega) (by omega) hzr)
      have HE := Lib.hid (sorted_once (colS rs j))
      generalize ((colS rs j).mergeSort fun x y => decide (x ≤ y)) = zs at *
      clear htk HO
      go_wp2_with fail; ((with_reducible refine HS.out.mono ?_); rintro e w6 ⟨rfl, ho6, hb6⟩)
      have B6 := hbr.trans hb6
      have HK := Lib.hid (Compact_own w4.heap.size A' k c' zs w6 ho6 (by omega) (by omega) B6.size)
      rw [HE.out] at HK
      clear ho6 HS
      go_wp2_with fail; ((with_reducible refine HK.out.mono ?_); rintro e w7 ⟨rfl, ho7, hb7⟩)
      go_wp2
      go_ret
      exact ⟨A', _, c', rfl, own_base ho7 B4.size, B4.trans ((B6.trans hb7).mono B4.size)⟩
end Go.Proofs.Ytapophggndlhaaa
