/- Contracts of a fan's pressure, power, surge flow and working point. -/
import Derived.Test.YtapophggndlhaaaWrk
namespace Go.Proofs.Ytapophggndlhaaa
set_option linter.unusedVariables false
set_option linter.unusedSimpArgs false
open Go.RowKit
def prR (s : ByteArray) (a : Int) (cs : List (List Int)) (q : Int) : Int × Int := if fanOk s a cs = true then (if isFlow q = true then (prT cs q, 0) else (0, 2)) else (0, 1)
def pwR (s : ByteArray) (a : Int) (cs : List (List Int)) (q : Int) : Int × Int := if fanOk s a cs = true then (if isFlow q = true then (pwr cs q, 0) else (0, 2)) else (0, 1)
def sgR (s : ByteArray) (a : Int) (cs : List (List Int)) : Int × Int := if fanOk s a cs = true then (lastP cs (lockB cs 0) - 1, 0) else (0, 1)
def wpR (s : ByteArray) (a : Int) (cs : List (List Int)) (r : Int) : Int × Int × Int := if fanOk s a cs = true then (if isRes r = true then (wrkV cs r, prT cs (wrkV cs r), 0) else (0, 0, 2)) else (0, 0, 1)
theorem lastP_surge {cs : List (List Int)} (h : crvOk cs = true) : 1 ≤ lastP cs (lockB cs 0) := by
  have h2 := (crvOk_t h).1
  have h3 := crv_num h (k := 0) (by omega)
  have h0 : lastB cs (lockB cs 0) 0 = false := decide_eq_false (by rw [prT_low h h3.1.1]; omega)
  exact (firstP_pos 100000 h0).1
theorem isFlow_in {q : Int} (h : isFlow q = true) : -100000 ≤ q ∧ q ≤ 100000 := of_decide_eq_true h
theorem ret_int3 {k k' k'' : IntKind} {a b c d e f : Int} (h : a = b) (h' : c = d) (h'' : e = f) : Ending.returned (.tuple #[.int k a, .int k' c, .int k'' e]) = .returned (.tuple #[.int k b, .int k' d, .int k'' f]) := by rw [h, h', h'']
set_option maxHeartbeats 1600000 in
set_option maxRecDepth 100000 in
theorem specPressureAt_any (s : ByteArray) (a : Int) (A : Option Addr) (n c : Nat) (rs : List Row) (q : Int) (w : World) (hs : s.size ≤ maxLen) (hr : RSS w w.heap.size A n rs) (hn : n ≤ 1048576) (hrn : ∀ r ∈ rs, r.n ≤ 1048576) :
    Calls Try.prog 18 #[.agg #[.string s, .int .i64 a, .slice A n c], .int .i64 q] w fun e w' => e = .returned (.tuple #[.int .i64 (prR s a (dat rs) q).1, .int .i64 (prR s a (dat rs) q).2]) ∧ Below w.heap.size w w' := by
  have hb0 : Below w.heap.size w (w.alloc (.cells #[.string s, .int .i64 a, .slice A n c] 26)) := (Below.refl _ _).alloc (Nat.le_refl _) _
  have hr1 : RSS (w.alloc (.cells #[.string s, .int .i64 a, .slice A n c] 26)) (w.alloc (.cells #[.string s, .int .i64 a, .slice A n c] 26)).heap.size A n rs := (hr.below hb0).more hb0.size
  have p0 : (w.alloc (.cells #[.string s, .int .i64 a, .slice A n c] 26)).cell? ⟨w.heap.size, 0, none⟩ = some (.string s) := ((Blk.new w _ _).cell 0).trans rfl
  have p1 : (w.alloc (.cells #[.string s, .int .i64 a, .slice A n c] 26)).cell? ⟨w.heap.size, 1, none⟩ = some (.int .i64 a) := ((Blk.new w _ _).cell 1).trans rfl
  have p2 : (w.alloc (.cells #[.string s, .int .i64 a, .slice A n c] 26)).cell? ⟨w.heap.size, 2, none⟩ = some (.slice A n c) := ((Blk.new w _ _).cell 2).trans rfl
  have zb : w.heap.size < (w.alloc (.cells #[.string s, .int .i64 a, .slice A n c] 26)).heap.size := by simp
  have cc := l06Ok_any s a A n c rs ⟨w.heap.size, 0, none⟩ _ hs hr1 hn hrn (Cells.new w _ _)
  clear hrn
  rcases Bool.eq_false_or_eq_true (fanOk s a (dat rs)) with k0 | k0
  · have HOK := Lib.hid (fanOk_t k0).2.2
    have HLn : Hid ((dat rs).length = n) := show (dat rs).length = n by rw [dat_len]; exact hr.len
    have hn2 : 2 ≤ n := by have h := (crvOk_t HOK.out).1; have h2 := HLn.out; omega
    rw [k0] at cc
    have HC := Lib.hid cc
    clear cc
    rcases Bool.eq_false_or_eq_true (isFlow q) with k1 | k1
    · have HV : Hid (prR s a (dat rs) q = (prT (dat rs) q, 0)) := show _ = _ by unfold prR; rw [if_pos k0, if_pos k1]
      have K1 := Lib.hid k1
      obtain ⟨g1, g2⟩ := isFlow_in k1
      go_enter Try.func18, Try.ntmps18
      go_wp2_with fail; ((with_reducible refine HC.out.mono ?_); rintro e w1 ⟨rfl, hb1⟩)
      have B1 : Below w.heap.size w w1 := hb0.trans (hb1.mono hb0.size)
      have q0 := (hb1.cell (p := ⟨w.heap.size, 0, none⟩) zb).trans p0
      have q1 := (hb1.cell (p := ⟨w.heap.size, 1, none⟩) zb).trans p1
      have q2 := (hb1.cell (p := ⟨w.heap.size, 2, none⟩) zb).trans p2
      have hr2 := (hr.below B1).more B1.size
      go_wp2_with fail; ((with_reducible refine (l03Flow_any q _).mono ?_); rintro e w' ⟨rfl, rfl⟩)
      rw [K1.out]
      clear k1
      go_wp2_with fail; ((with_reducible refine (l06Pressure_any A n c rs q ⟨w.heap.size, 0, none⟩ w1 hr2 HOK.out (by omega) q2).mono ?_); rintro e w2 ⟨rfl, hb2⟩)
      go_wp2
      go_ret2
      exact ⟨ret_int2 (by rw [HV.out]) (by rw [HV.out]), B1.trans (hb2.mono B1.size)⟩
    · have HV : Hid (prR s a (dat rs) q = (0, 2)) := show _ = _ by unfold prR; rw [if_pos k0, if_neg (by rw [k1]; exact Bool.false_ne_true)]
      have K1 := Lib.hid k1
      go_enter Try.func18, Try.ntmps18
      go_wp2_with fail; ((with_reducible refine HC.out.mono ?_); rintro e w1 ⟨rfl, hb1⟩)
      have B1 : Below w.heap.size w w1 := hb0.trans (hb1.mono hb0.size)
      have q0 := (hb1.cell (p := ⟨w.heap.size, 0, none⟩) zb).trans p0
      have q1 := (hb1.cell (p := ⟨w.heap.size, 1, none⟩) zb).trans p1
      have q2 := (hb1.cell (p := ⟨w.heap.size, 2, none⟩) zb).trans p2
      have hr2 := (hr.below B1).more B1.size
      go_wp2_with fail; ((with_reducible refine (l03Flow_any q _).mono ?_); rintro e w' ⟨rfl, rfl⟩)
      rw [K1.out]
      go_wp2
      go_ret2
      exact ⟨ret_int2 (by rw [HV.out]) (by rw [HV.out]), B1⟩
  · have HV : Hid (prR s a (dat rs) q = (0, 1)) := show _ = _ by unfold prR; rw [if_neg (by rw [k0]; exact Bool.false_ne_true)]
    rw [k0] at cc
    have HC := Lib.hid cc
    clear cc k0
    go_enter Try.func18, Try.ntmps18
    go_wp2_with fail; ((with_reducible refine HC.out.mono ?_); rintro e w1 ⟨rfl, hb1⟩)
    have B1 : Below w.heap.size w w1 := hb0.trans (hb1.mono hb0.size)
    have q0 := (hb1.cell (p := ⟨w.heap.size, 0, none⟩) zb).trans p0
    have q1 := (hb1.cell (p := ⟨w.heap.size, 1, none⟩) zb).trans p1
    have q2 := (hb1.cell (p := ⟨w.heap.size, 2, none⟩) zb).trans p2
    have hr2 := (hr.below B1).more B1.size
    go_wp2
    go_ret2
    exact ⟨ret_int2 (by rw [HV.out]) (by rw [HV.out]), B1⟩
set_option maxHeartbeats 1600000 in
set_option maxRecDepth 100000 in
theorem specFanPower_any (s : ByteArray) (a : Int) (A : Option Addr) (n c : Nat) (rs : List Row) (q : Int) (w : World) (hs : s.size ≤ maxLen) (hr : RSS w w.heap.size A n rs) (hn : n ≤ 1048576) (hrn : ∀ r ∈ rs, r.n ≤ 1048576) :
    Calls Try.prog 20 #[.agg #[.string s, .int .i64 a, .slice A n c], .int .i64 q] w fun e w' => e = .returned (.tuple #[.int .i64 (pwR s a (dat rs) q).1, .int .i64 (pwR s a (dat rs) q).2]) ∧ Below w.heap.size w w' := by
  have hb0 : Below w.heap.size w (w.alloc (.cells #[.string s, .int .i64 a, .slice A n c] 26)) := (Below.refl _ _).alloc (Nat.le_refl _) _
  have hr1 : RSS (w.alloc (.cells #[.string s, .int .i64 a, .slice A n c] 26)) (w.alloc (.cells #[.string s, .int .i64 a, .slice A n c] 26)).heap.size A n rs := (hr.below hb0).more hb0.size
  have p0 : (w.alloc (.cells #[.string s, .int .i64 a, .slice A n c] 26)).cell? ⟨w.heap.size, 0, none⟩ = some (.string s) := ((Blk.new w _ _).cell 0).trans rfl
  have p1 : (w.alloc (.cells #[.string s, .int .i64 a, .slice A n c] 26)).cell? ⟨w.heap.size, 1, none⟩ = some (.int .i64 a) := ((Blk.new w _ _).cell 1).trans rfl
  have p2 : (w.alloc (.cells #[.string s, .int .i64 a, .slice A n c] 26)).cell? ⟨w.heap.size, 2, none⟩ = some (.slice A n c) := ((Blk.new w _ _).cell 2).trans rfl
  have zb : w.heap.size < (w.alloc (.cells #[.string s, .int .i64 a, .slice A n c] 26)).heap.size := by simp
  have cc := l06Ok_any s a A n c rs ⟨w.heap.size, 0, none⟩ _ hs hr1 hn hrn (Cells.new w _ _)
  clear hrn
  rcases Bool.eq_false_or_eq_true (fanOk s a (dat rs)) with k0 | k0
  · have HOK := Lib.hid (fanOk_t k0).2.2
    have HLn : Hid ((dat rs).length = n) := show (dat rs).length = n by rw [dat_len]; exact hr.len
    have hn2 : 2 ≤ n := by have h := (crvOk_t HOK.out).1; have h2 := HLn.out; omega
    rw [k0] at cc
    have HC := Lib.hid cc
    clear cc
    rcases Bool.eq_false_or_eq_true (isFlow q) with k1 | k1
    · have HV : Hid (pwR s a (dat rs) q = (pwr (dat rs) q, 0)) := show _ = _ by unfold pwR; rw [if_pos k0, if_pos k1]
      have K1 := Lib.hid k1
      obtain ⟨g1, g2⟩ := isFlow_in k1
      go_enter Try.func20, Try.ntmps20
      go_wp2_with fail; ((with_reducible refine HC.out.mono ?_); rintro e w1 ⟨rfl, hb1⟩)
      have B1 : Below w.heap.size w w1 := hb0.trans (hb1.mono hb0.size)
      have q0 := (hb1.cell (p := ⟨w.heap.size, 0, none⟩) zb).trans p0
      have q1 := (hb1.cell (p := ⟨w.heap.size, 1, none⟩) zb).trans p1
      have q2 := (hb1.cell (p := ⟨w.heap.size, 2, none⟩) zb).trans p2
      have hr2 := (hr.below B1).more B1.size
      go_wp2_with fail; ((with_reducible refine (l03Flow_any q _).mono ?_); rintro e w' ⟨rfl, rfl⟩)
      rw [K1.out]
      clear k1
      go_wp2_with fail; ((with_reducible refine (l06Power_any A n c rs q ⟨w.heap.size, 0, none⟩ w1 hr2 HOK.out g1 g2 q2).mono ?_); rintro e w2 ⟨rfl, hb2⟩)
      go_wp2
      go_ret2
      exact ⟨ret_int2 (by rw [HV.out]) (by rw [HV.out]), B1.trans (hb2.mono B1.size)⟩
    · have HV : Hid (pwR s a (dat rs) q = (0, 2)) := show _ = _ by unfold pwR; rw [if_pos k0, if_neg (by rw [k1]; exact Bool.false_ne_true)]
      have K1 := Lib.hid k1
      go_enter Try.func20, Try.ntmps20
      go_wp2_with fail; ((with_reducible refine HC.out.mono ?_); rintro e w1 ⟨rfl, hb1⟩)
      have B1 : Below w.heap.size w w1 := hb0.trans (hb1.mono hb0.size)
      have q0 := (hb1.cell (p := ⟨w.heap.size, 0, none⟩) zb).trans p0
      have q1 := (hb1.cell (p := ⟨w.heap.size, 1, none⟩) zb).trans p1
      have q2 := (hb1.cell (p := ⟨w.heap.size, 2, none⟩) zb).trans p2
      have hr2 := (hr.below B1).more B1.size
      go_wp2_with fail; ((with_reducible refine (l03Flow_any q _).mono ?_); rintro e w' ⟨rfl, rfl⟩)
      rw [K1.out]
      go_wp2
      go_ret2
      exact ⟨ret_int2 (by rw [HV.out]) (by rw [HV.out]), B1⟩
  · have HV : Hid (pwR s a (dat rs) q = (0, 1)) := show _ = _ by unfold pwR; rw [if_neg (by rw [k0]; exact Bool.false_ne_true)]
    rw [k0] at cc
    have HC := Lib.hid cc
    clear cc k0
    go_enter Try.func20, Try.ntmps20
    go_wp2_with fail; ((with_reducible refine HC.out.mono ?_); rintro e w1 ⟨rfl, hb1⟩)
    have B1 : Below w.heap.size w w1 := hb0.trans (hb1.mono hb0.size)
    have q0 := (hb1.cell (p := ⟨w.heap.size, 0, none⟩) zb).trans p0
    have q1 := (hb1.cell (p := ⟨w.heap.size, 1, none⟩) zb).trans p1
    have q2 := (hb1.cell (p := ⟨w.heap.size, 2, none⟩) zb).trans p2
    have hr2 := (hr.below B1).more B1.size
    go_wp2
    go_ret2
    exact ⟨ret_int2 (by rw [HV.out]) (by rw [HV.out]), B1⟩
set_option maxHeartbeats 1600000 in
set_option maxRecDepth 100000 in
theorem specSurgeFlow_any (s : ByteArray) (a : Int) (A : Option Addr) (n c : Nat) (rs : List Row) (w : World) (hs : s.size ≤ maxLen) (hr : RSS w w.heap.size A n rs) (hn : n ≤ 1048576) (hrn : ∀ r ∈ rs, r.n ≤ 1048576) :
    Calls Try.prog 22 #[.agg #[.string s, .int .i64 a, .slice A n c]] w fun e w' => e = .returned (.tuple #[.int .i64 (sgR s a (dat rs)).1, .int .i64 (sgR s a (dat rs)).2]) ∧ Below w.heap.size w w' := by
  have hb0 : Below w.heap.size w (w.alloc (.cells #[.string s, .int .i64 a, .slice A n c] 26)) := (Below.refl _ _).alloc (Nat.le_refl _) _
  have hr1 : RSS (w.alloc (.cells #[.string s, .int .i64 a, .slice A n c] 26)) (w.alloc (.cells #[.string s, .int .i64 a, .slice A n c] 26)).heap.size A n rs := (hr.below hb0).more hb0.size
  have p0 : (w.alloc (.cells #[.string s, .int .i64 a, .slice A n c] 26)).cell? ⟨w.heap.size, 0, none⟩ = some (.string s) := ((Blk.new w _ _).cell 0).trans rfl
  have p1 : (w.alloc (.cells #[.string s, .int .i64 a, .slice A n c] 26)).cell? ⟨w.heap.size, 1, none⟩ = some (.int .i64 a) := ((Blk.new w _ _).cell 1).trans rfl
  have p2 : (w.alloc (.cells #[.string s, .int .i64 a, .slice A n c] 26)).cell? ⟨w.heap.size, 2, none⟩ = some (.slice A n c) := ((Blk.new w _ _).cell 2).trans rfl
  have zb : w.heap.size < (w.alloc (.cells #[.string s, .int .i64 a, .slice A n c] 26)).heap.size := by simp
  have cc := l06Ok_any s a A n c rs ⟨w.heap.size, 0, none⟩ _ hs hr1 hn hrn (Cells.new w _ _)
  clear hrn
  rcases Bool.eq_false_or_eq_true (fanOk s a (dat rs)) with k0 | k0
  · have HOK := Lib.hid (fanOk_t k0).2.2
    have HLn : Hid ((dat rs).length = n) := show (dat rs).length = n by rw [dat_len]; exact hr.len
    have hn2 : 2 ≤ n := by have h := (crvOk_t HOK.out).1; have h2 := HLn.out; omega
    rw [k0] at cc
    have HC := Lib.hid cc
    clear cc
    have HV : Hid (sgR s a (dat rs) = (lastP (dat rs) (lockB (dat rs) 0) - 1, 0)) := show _ = _ by unfold sgR; rw [if_pos k0]
    obtain ⟨ad, ra, cc0, rfl, f0, f1, f2, f3⟩ := pt_at hr HOK.out (k := 0) (by omega)
    have HF0 := Lib.hid f0
    have HF1 := Lib.hid f1
    have HF3 := Lib.hid f3
    have hn0 : (0 : Int) < (n : Int) := by omega
    clear f0 f1 f2 f3
    go_enter Try.func22, Try.ntmps22
    go_wp2_with fail; ((with_reducible refine HC.out.mono ?_); rintro e w1 ⟨rfl, hb1⟩)
    have B1 : Below w.heap.size w w1 := hb0.trans (hb1.mono hb0.size)
    have q0 := (hb1.cell (p := ⟨w.heap.size, 0, none⟩) zb).trans p0
    have q1 := (hb1.cell (p := ⟨w.heap.size, 1, none⟩) zb).trans p1
    have q2 := (hb1.cell (p := ⟨w.heap.size, 2, none⟩) zb).trans p2
    have hr2 := (hr.below B1).more B1.size
    have g0 : w1.cell? ad = some (.slice (some ra) 2 cc0) := (B1.cell (block_lt_of_cell HF0.out)).trans HF0.out
    have g3 : w1.cell? ⟨ra.block, ra.off + 1, none⟩ = _ := (B1.cell (block_lt_of_cell HF3.out)).trans HF3.out
    go_wp2_with fail; ((with_reducible refine (l06Last_any (some ad) n c rs (lockB (dat rs) 0) ⟨w.heap.size, 0, none⟩ w1 hr2 HOK.out q2).mono ?_); rintro e w2 ⟨rfl, hb2⟩)
    go_wp2
    go_ret2
    exact ⟨ret_int2 (by rw [HV.out]) (by rw [HV.out]), B1.trans (hb2.mono B1.size)⟩
  · have HV : Hid (sgR s a (dat rs) = (0, 1)) := show _ = _ by unfold sgR; rw [if_neg (by rw [k0]; exact Bool.false_ne_true)]
    rw [k0] at cc
    have HC := Lib.hid cc
    clear cc k0
    go_enter Try.func22, Try.ntmps22
    go_wp2_with fail; ((with_reducible refine HC.out.mono ?_); rintro e w1 ⟨rfl, hb1⟩)
    have B1 : Below w.heap.size w w1 := hb0.trans (hb1.mono hb0.size)
    have q0 := (hb1.cell (p := ⟨w.heap.size, 0, none⟩) zb).trans p0
    have q1 := (hb1.cell (p := ⟨w.heap.size, 1, none⟩) zb).trans p1
    have q2 := (hb1.cell (p := ⟨w.heap.size, 2, none⟩) zb).trans p2
    have hr2 := (hr.below B1).more B1.size
    go_wp2
    go_ret2
    exact ⟨ret_int2 (by rw [HV.out]) (by rw [HV.out]), B1⟩
set_option maxHeartbeats 1600000 in
set_option maxRecDepth 100000 in
theorem specWorkingPoint_any (s : ByteArray) (a : Int) (A : Option Addr) (n c : Nat) (rs : List Row) (r : Int) (w : World) (hs : s.size ≤ maxLen) (hr : RSS w w.heap.size A n rs) (hn : n ≤ 1048576) (hrn : ∀ r ∈ rs, r.n ≤ 1048576) :
    Calls Try.prog 24 #[.agg #[.string s, .int .i64 a, .slice A n c], .int .i64 r] w fun e w' => e = .returned (.tuple #[.int .i64 (wpR s a (dat rs) r).1, .int .i64 (wpR s a (dat rs) r).2.1, .int .i64 (wpR s a (dat rs) r).2.2]) ∧ Below w.heap.size w w' := by
  have hb0 : Below w.heap.size w (w.alloc (.cells #[.string s, .int .i64 a, .slice A n c] 26)) := (Below.refl _ _).alloc (Nat.le_refl _) _
  have hr1 : RSS (w.alloc (.cells #[.string s, .int .i64 a, .slice A n c] 26)) (w.alloc (.cells #[.string s, .int .i64 a, .slice A n c] 26)).heap.size A n rs := (hr.below hb0).more hb0.size
  have p0 : (w.alloc (.cells #[.string s, .int .i64 a, .slice A n c] 26)).cell? ⟨w.heap.size, 0, none⟩ = some (.string s) := ((Blk.new w _ _).cell 0).trans rfl
  have p1 : (w.alloc (.cells #[.string s, .int .i64 a, .slice A n c] 26)).cell? ⟨w.heap.size, 1, none⟩ = some (.int .i64 a) := ((Blk.new w _ _).cell 1).trans rfl
  have p2 : (w.alloc (.cells #[.string s, .int .i64 a, .slice A n c] 26)).cell? ⟨w.heap.size, 2, none⟩ = some (.slice A n c) := ((Blk.new w _ _).cell 2).trans rfl
  have zb : w.heap.size < (w.alloc (.cells #[.string s, .int .i64 a, .slice A n c] 26)).heap.size := by simp
  have cc := l06Ok_any s a A n c rs ⟨w.heap.size, 0, none⟩ _ hs hr1 hn hrn (Cells.new w _ _)
  clear hrn
  rcases Bool.eq_false_or_eq_true (fanOk s a (dat rs)) with k0 | k0
  · have HOK := Lib.hid (fanOk_t k0).2.2
    have HLn : Hid ((dat rs).length = n) := show (dat rs).length = n by rw [dat_len]; exact hr.len
    have hn2 : 2 ≤ n := by have h := (crvOk_t HOK.out).1; have h2 := HLn.out; omega
    rw [k0] at cc
    have HC := Lib.hid cc
    clear cc
    rcases Bool.eq_false_or_eq_true (isRes r) with k1 | k1
    · have HV : Hid (wpR s a (dat rs) r = (wrkV (dat rs) r, prT (dat rs) (wrkV (dat rs) r), 0)) := show _ = _ by unfold wpR; rw [if_pos k0, if_pos k1]
      have K1 := Lib.hid k1
      have HWV := Lib.hid (wrkV_bnd HOK.out r)
      go_enter Try.func24, Try.ntmps24
      go_wp2_with fail; ((with_reducible refine HC.out.mono ?_); rintro e w1 ⟨rfl, hb1⟩)
      have B1 : Below w.heap.size w w1 := hb0.trans (hb1.mono hb0.size)
      have q0 := (hb1.cell (p := ⟨w.heap.size, 0, none⟩) zb).trans p0
      have q1 := (hb1.cell (p := ⟨w.heap.size, 1, none⟩) zb).trans p1
      have q2 := (hb1.cell (p := ⟨w.heap.size, 2, none⟩) zb).trans p2
      have hr2 := (hr.below B1).more B1.size
      go_wp2_with fail; ((with_reducible refine (l03Res_any r _).mono ?_); rintro e w' ⟨rfl, rfl⟩)
      rw [K1.out]
      clear k1
      go_wp2_with fail; ((with_reducible refine (l06Point_any A n c rs r ⟨w.heap.size, 0, none⟩ w1 hr2 HOK.out K1.out q2).mono ?_); rintro e w2 ⟨rfl, hb2⟩)
      have B2 := B1.trans (hb2.mono B1.size)
      have zb1 : w.heap.size < w1.heap.size := Nat.lt_of_lt_of_le zb hb1.size
      have r0 := (hb2.cell (p := ⟨w.heap.size, 0, none⟩) zb1).trans q0
      have r1 := (hb2.cell (p := ⟨w.heap.size, 1, none⟩) zb1).trans q1
      have r2 := (hb2.cell (p := ⟨w.heap.size, 2, none⟩) zb1).trans q2
      clear q0 q1 q2
      have hr3 := (hr.below B2).more B2.size
      go_wp2_with fail; ((with_reducible refine (l06Pressure_any A n c rs (wrkV (dat rs) r) ⟨w.heap.size, 0, none⟩ w2 hr3 HOK.out (by have := HWV.out; omega) r2).mono ?_); rintro e w3 ⟨rfl, hb3⟩)
      go_wp2
      go_ret3
      exact ⟨ret_int3 (by rw [HV.out]) (by rw [HV.out]) (by rw [HV.out]), B2.trans (hb3.mono B2.size)⟩
    · have HV : Hid (wpR s a (dat rs) r = (0, 0, 2)) := show _ = _ by unfold wpR; rw [if_pos k0, if_neg (by rw [k1]; exact Bool.false_ne_true)]
      have K1 := Lib.hid k1
      go_enter Try.func24, Try.ntmps24
      go_wp2_with fail; ((with_reducible refine HC.out.mono ?_); rintro e w1 ⟨rfl, hb1⟩)
      have B1 : Below w.heap.size w w1 := hb0.trans (hb1.mono hb0.size)
      have q0 := (hb1.cell (p := ⟨w.heap.size, 0, none⟩) zb).trans p0
      have q1 := (hb1.cell (p := ⟨w.heap.size, 1, none⟩) zb).trans p1
      have q2 := (hb1.cell (p := ⟨w.heap.size, 2, none⟩) zb).trans p2
      have hr2 := (hr.below B1).more B1.size
      go_wp2_with fail; ((with_reducible refine (l03Res_any r _).mono ?_); rintro e w' ⟨rfl, rfl⟩)
      rw [K1.out]
      go_wp2
      go_ret3
      exact ⟨ret_int3 (by rw [HV.out]) (by rw [HV.out]) (by rw [HV.out]), B1⟩
  · have HV : Hid (wpR s a (dat rs) r = (0, 0, 1)) := show _ = _ by unfold wpR; rw [if_neg (by rw [k0]; exact Bool.false_ne_true)]
    rw [k0] at cc
    have HC := Lib.hid cc
    clear cc k0
    go_enter Try.func24, Try.ntmps24
    go_wp2_with fail; ((with_reducible refine HC.out.mono ?_); rintro e w1 ⟨rfl, hb1⟩)
    have B1 : Below w.heap.size w w1 := hb0.trans (hb1.mono hb0.size)
    have q0 := (hb1.cell (p := ⟨w.heap.size, 0, none⟩) zb).trans p0
    have q1 := (hb1.cell (p := ⟨w.heap.size, 1, none⟩) zb).trans p1
    have q2 := (hb1.cell (p := ⟨w.heap.size, 2, none⟩) zb).trans p2
    have hr2 := (hr.below B1).more B1.size
    go_wp2
    go_ret3
    exact ⟨ret_int3 (by rw [HV.out]) (by rw [HV.out]) (by rw [HV.out]), B1⟩
set_option maxHeartbeats 1600000 in
set_option maxRecDepth 100000 in
theorem implPressureAt_any (s : ByteArray) (a : Int) (A : Option Addr) (n c : Nat) (rs : List Row) (q : Int) (w : World) (hs : s.size ≤ maxLen) (hr : RSS w w.heap.size A n rs) (hn : n ≤ 1048576) (hrn : ∀ r ∈ rs, r.n ≤ 1048576) :
    Calls Try.prog 19 #[.agg #[.string s, .int .i64 a, .slice A n c], .int .i64 q] w fun e w' => e = .returned (.tuple #[.int .i64 (prR s a (dat rs) q).1, .int .i64 (prR s a (dat rs) q).2]) ∧ Below w.heap.size w w' := by
  have hb0 : Below w.heap.size w (w.alloc (.cells #[.string s, .int .i64 a, .slice A n c] 26)) := (Below.refl _ _).alloc (Nat.le_refl _) _
  have hr1 : RSS (w.alloc (.cells #[.string s, .int .i64 a, .slice A n c] 26)) (w.alloc (.cells #[.string s, .int .i64 a, .slice A n c] 26)).heap.size A n rs := (hr.below hb0).more hb0.size
  have p0 : (w.alloc (.cells #[.string s, .int .i64 a, .slice A n c] 26)).cell? ⟨w.heap.size, 0, none⟩ = some (.string s) := ((Blk.new w _ _).cell 0).trans rfl
  have p1 : (w.alloc (.cells #[.string s, .int .i64 a, .slice A n c] 26)).cell? ⟨w.heap.size, 1, none⟩ = some (.int .i64 a) := ((Blk.new w _ _).cell 1).trans rfl
  have p2 : (w.alloc (.cells #[.string s, .int .i64 a, .slice A n c] 26)).cell? ⟨w.heap.size, 2, none⟩ = some (.slice A n c) := ((Blk.new w _ _).cell 2).trans rfl
  have zb : w.heap.size < (w.alloc (.cells #[.string s, .int .i64 a, .slice A n c] 26)).heap.size := by simp
  have cc := implValidFan_any s a A n c rs (w.alloc (.cells #[.string s, .int .i64 a, .slice A n c] 26)) hs hr1 hn hrn
  clear hrn
  rcases Bool.eq_false_or_eq_true (fanOk s a (dat rs)) with k0 | k0
  · have HOK := Lib.hid (fanOk_t k0).2.2
    have HLn : Hid ((dat rs).length = n) := show (dat rs).length = n by rw [dat_len]; exact hr.len
    have hn2 : 2 ≤ n := by have h := (crvOk_t HOK.out).1; have h2 := HLn.out; omega
    rw [k0] at cc
    have HC := Lib.hid cc
    clear cc
    rcases Bool.eq_false_or_eq_true (isFlow q) with k1 | k1
    · have HV : Hid (prR s a (dat rs) q = (prT (dat rs) q, 0)) := show _ = _ by unfold prR; rw [if_pos k0, if_pos k1]
      have K1 := Lib.hid k1
      obtain ⟨g1, g2⟩ := isFlow_in k1
      go_enter Try.func19, Try.ntmps19
      go_wp2_with fail; ((with_reducible refine HC.out.mono ?_); rintro e w1 ⟨rfl, hb1⟩)
      have B1 : Below w.heap.size w w1 := hb0.trans (hb1.mono hb0.size)
      have q0 := (hb1.cell (p := ⟨w.heap.size, 0, none⟩) zb).trans p0
      have q1 := (hb1.cell (p := ⟨w.heap.size, 1, none⟩) zb).trans p1
      have q2 := (hb1.cell (p := ⟨w.heap.size, 2, none⟩) zb).trans p2
      have hr2 := (hr.below B1).more B1.size
      go_wp2_with fail; ((with_reducible refine (flowOk_any q _).mono ?_); rintro e w' ⟨rfl, rfl⟩)
      rw [K1.out]
      clear k1
      go_wp2_with fail; ((with_reducible refine (pressure_any s a A n c rs q w1 hr2 HOK.out (by omega)).mono ?_); rintro e w2 ⟨rfl, hb2⟩)
      go_wp2
      go_ret2
      exact ⟨ret_int2 (by rw [HV.out]) (by rw [HV.out]), B1.trans (hb2.mono B1.size)⟩
    · have HV : Hid (prR s a (dat rs) q = (0, 2)) := show _ = _ by unfold prR; rw [if_pos k0, if_neg (by rw [k1]; exact Bool.false_ne_true)]
      have K1 := Lib.hid k1
      go_enter Try.func19, Try.ntmps19
      go_wp2_with fail; ((with_reducible refine HC.out.mono ?_); rintro e w1 ⟨rfl, hb1⟩)
      have B1 : Below w.heap.size w w1 := hb0.trans (hb1.mono hb0.size)
      have q0 := (hb1.cell (p := ⟨w.heap.size, 0, none⟩) zb).trans p0
      have q1 := (hb1.cell (p := ⟨w.heap.size, 1, none⟩) zb).trans p1
      have q2 := (hb1.cell (p := ⟨w.heap.size, 2, none⟩) zb).trans p2
      have hr2 := (hr.below B1).more B1.size
      go_wp2_with fail; ((with_reducible refine (flowOk_any q _).mono ?_); rintro e w' ⟨rfl, rfl⟩)
      rw [K1.out]
      go_wp2
      go_ret2
      exact ⟨ret_int2 (by rw [HV.out]) (by rw [HV.out]), B1⟩
  · have HV : Hid (prR s a (dat rs) q = (0, 1)) := show _ = _ by unfold prR; rw [if_neg (by rw [k0]; exact Bool.false_ne_true)]
    rw [k0] at cc
    have HC := Lib.hid cc
    clear cc k0
    go_enter Try.func19, Try.ntmps19
    go_wp2_with fail; ((with_reducible refine HC.out.mono ?_); rintro e w1 ⟨rfl, hb1⟩)
    have B1 : Below w.heap.size w w1 := hb0.trans (hb1.mono hb0.size)
    have q0 := (hb1.cell (p := ⟨w.heap.size, 0, none⟩) zb).trans p0
    have q1 := (hb1.cell (p := ⟨w.heap.size, 1, none⟩) zb).trans p1
    have q2 := (hb1.cell (p := ⟨w.heap.size, 2, none⟩) zb).trans p2
    have hr2 := (hr.below B1).more B1.size
    go_wp2
    go_ret2
    exact ⟨ret_int2 (by rw [HV.out]) (by rw [HV.out]), B1⟩
set_option maxHeartbeats 1600000 in
set_option maxRecDepth 100000 in
theorem implFanPower_any (s : ByteArray) (a : Int) (A : Option Addr) (n c : Nat) (rs : List Row) (q : Int) (w : World) (hs : s.size ≤ maxLen) (hr : RSS w w.heap.size A n rs) (hn : n ≤ 1048576) (hrn : ∀ r ∈ rs, r.n ≤ 1048576) :
    Calls Try.prog 21 #[.agg #[.string s, .int .i64 a, .slice A n c], .int .i64 q] w fun e w' => e = .returned (.tuple #[.int .i64 (pwR s a (dat rs) q).1, .int .i64 (pwR s a (dat rs) q).2]) ∧ Below w.heap.size w w' := by
  have hb0 : Below w.heap.size w (w.alloc (.cells #[.string s, .int .i64 a, .slice A n c] 26)) := (Below.refl _ _).alloc (Nat.le_refl _) _
  have hr1 : RSS (w.alloc (.cells #[.string s, .int .i64 a, .slice A n c] 26)) (w.alloc (.cells #[.string s, .int .i64 a, .slice A n c] 26)).heap.size A n rs := (hr.below hb0).more hb0.size
  have p0 : (w.alloc (.cells #[.string s, .int .i64 a, .slice A n c] 26)).cell? ⟨w.heap.size, 0, none⟩ = some (.string s) := ((Blk.new w _ _).cell 0).trans rfl
  have p1 : (w.alloc (.cells #[.string s, .int .i64 a, .slice A n c] 26)).cell? ⟨w.heap.size, 1, none⟩ = some (.int .i64 a) := ((Blk.new w _ _).cell 1).trans rfl
  have p2 : (w.alloc (.cells #[.string s, .int .i64 a, .slice A n c] 26)).cell? ⟨w.heap.size, 2, none⟩ = some (.slice A n c) := ((Blk.new w _ _).cell 2).trans rfl
  have zb : w.heap.size < (w.alloc (.cells #[.string s, .int .i64 a, .slice A n c] 26)).heap.size := by simp
  have cc := implValidFan_any s a A n c rs (w.alloc (.cells #[.string s, .int .i64 a, .slice A n c] 26)) hs hr1 hn hrn
  clear hrn
  rcases Bool.eq_false_or_eq_true (fanOk s a (dat rs)) with k0 | k0
  · have HOK := Lib.hid (fanOk_t k0).2.2
    have HLn : Hid ((dat rs).length = n) := show (dat rs).length = n by rw [dat_len]; exact hr.len
    have hn2 : 2 ≤ n := by have h := (crvOk_t HOK.out).1; have h2 := HLn.out; omega
    rw [k0] at cc
    have HC := Lib.hid cc
    clear cc
    rcases Bool.eq_false_or_eq_true (isFlow q) with k1 | k1
    · have HV : Hid (pwR s a (dat rs) q = (pwr (dat rs) q, 0)) := show _ = _ by unfold pwR; rw [if_pos k0, if_pos k1]
      have K1 := Lib.hid k1
      obtain ⟨g1, g2⟩ := isFlow_in k1
      go_enter Try.func21, Try.ntmps21
      go_wp2_with fail; ((with_reducible refine HC.out.mono ?_); rintro e w1 ⟨rfl, hb1⟩)
      have B1 : Below w.heap.size w w1 := hb0.trans (hb1.mono hb0.size)
      have q0 := (hb1.cell (p := ⟨w.heap.size, 0, none⟩) zb).trans p0
      have q1 := (hb1.cell (p := ⟨w.heap.size, 1, none⟩) zb).trans p1
      have q2 := (hb1.cell (p := ⟨w.heap.size, 2, none⟩) zb).trans p2
      have hr2 := (hr.below B1).more B1.size
      go_wp2_with fail; ((with_reducible refine (flowOk_any q _).mono ?_); rintro e w' ⟨rfl, rfl⟩)
      rw [K1.out]
      clear k1
      go_wp2_with fail; ((with_reducible refine (power_any s a A n c rs q w1 hr2 HOK.out g1 g2).mono ?_); rintro e w2 ⟨rfl, hb2⟩)
      go_wp2
      go_ret2
      exact ⟨ret_int2 (by rw [HV.out]) (by rw [HV.out]), B1.trans (hb2.mono B1.size)⟩
    · have HV : Hid (pwR s a (dat rs) q = (0, 2)) := show _ = _ by unfold pwR; rw [if_pos k0, if_neg (by rw [k1]; exact Bool.false_ne_true)]
      have K1 := Lib.hid k1
      go_enter Try.func21, Try.ntmps21
      go_wp2_with fail; ((with_reducible refine HC.out.mono ?_); rintro e w1 ⟨rfl, hb1⟩)
      have B1 : Below w.heap.size w w1 := hb0.trans (hb1.mono hb0.size)
      have q0 := (hb1.cell (p := ⟨w.heap.size, 0, none⟩) zb).trans p0
      have q1 := (hb1.cell (p := ⟨w.heap.size, 1, none⟩) zb).trans p1
      have q2 := (hb1.cell (p := ⟨w.heap.size, 2, none⟩) zb).trans p2
      have hr2 := (hr.below B1).more B1.size
      go_wp2_with fail; ((with_reducible refine (flowOk_any q _).mono ?_); rintro e w' ⟨rfl, rfl⟩)
      rw [K1.out]
      go_wp2
      go_ret2
      exact ⟨ret_int2 (by rw [HV.out]) (by rw [HV.out]), B1⟩
  · have HV : Hid (pwR s a (dat rs) q = (0, 1)) := show _ = _ by unfold pwR; rw [if_neg (by rw [k0]; exact Bool.false_ne_true)]
    rw [k0] at cc
    have HC := Lib.hid cc
    clear cc k0
    go_enter Try.func21, Try.ntmps21
    go_wp2_with fail; ((with_reducible refine HC.out.mono ?_); rintro e w1 ⟨rfl, hb1⟩)
    have B1 : Below w.heap.size w w1 := hb0.trans (hb1.mono hb0.size)
    have q0 := (hb1.cell (p := ⟨w.heap.size, 0, none⟩) zb).trans p0
    have q1 := (hb1.cell (p := ⟨w.heap.size, 1, none⟩) zb).trans p1
    have q2 := (hb1.cell (p := ⟨w.heap.size, 2, none⟩) zb).trans p2
    have hr2 := (hr.below B1).more B1.size
    go_wp2
    go_ret2
    exact ⟨ret_int2 (by rw [HV.out]) (by rw [HV.out]), B1⟩
set_option maxHeartbeats 1600000 in
set_option maxRecDepth 100000 in
theorem implSurgeFlow_any (s : ByteArray) (a : Int) (A : Option Addr) (n c : Nat) (rs : List Row) (w : World) (hs : s.size ≤ maxLen) (hr : RSS w w.heap.size A n rs) (hn : n ≤ 1048576) (hrn : ∀ r ∈ rs, r.n ≤ 1048576) :
    Calls Try.prog 23 #[.agg #[.string s, .int .i64 a, .slice A n c]] w fun e w' => e = .returned (.tuple #[.int .i64 (sgR s a (dat rs)).1, .int .i64 (sgR s a (dat rs)).2]) ∧ Below w.heap.size w w' := by
  have hb0 : Below w.heap.size w (w.alloc (.cells #[.string s, .int .i64 a, .slice A n c] 26)) := (Below.refl _ _).alloc (Nat.le_refl _) _
  have hr1 : RSS (w.alloc (.cells #[.string s, .int .i64 a, .slice A n c] 26)) (w.alloc (.cells #[.string s, .int .i64 a, .slice A n c] 26)).heap.size A n rs := (hr.below hb0).more hb0.size
  have p0 : (w.alloc (.cells #[.string s, .int .i64 a, .slice A n c] 26)).cell? ⟨w.heap.size, 0, none⟩ = some (.string s) := ((Blk.new w _ _).cell 0).trans rfl
  have p1 : (w.alloc (.cells #[.string s, .int .i64 a, .slice A n c] 26)).cell? ⟨w.heap.size, 1, none⟩ = some (.int .i64 a) := ((Blk.new w _ _).cell 1).trans rfl
  have p2 : (w.alloc (.cells #[.string s, .int .i64 a, .slice A n c] 26)).cell? ⟨w.heap.size, 2, none⟩ = some (.slice A n c) := ((Blk.new w _ _).cell 2).trans rfl
  have zb : w.heap.size < (w.alloc (.cells #[.string s, .int .i64 a, .slice A n c] 26)).heap.size := by simp
  have cc := implValidFan_any s a A n c rs (w.alloc (.cells #[.string s, .int .i64 a, .slice A n c] 26)) hs hr1 hn hrn
  clear hrn
  rcases Bool.eq_false_or_eq_true (fanOk s a (dat rs)) with k0 | k0
  · have HOK := Lib.hid (fanOk_t k0).2.2
    have HLn : Hid ((dat rs).length = n) := show (dat rs).length = n by rw [dat_len]; exact hr.len
    have hn2 : 2 ≤ n := by have h := (crvOk_t HOK.out).1; have h2 := HLn.out; omega
    rw [k0] at cc
    have HC := Lib.hid cc
    clear cc
    have HV : Hid (sgR s a (dat rs) = (lastP (dat rs) (lockB (dat rs) 0) - 1, 0)) := show _ = _ by unfold sgR; rw [if_pos k0]
    obtain ⟨ad, ra, cc0, rfl, f0, f1, f2, f3⟩ := pt_at hr HOK.out (k := 0) (by omega)
    have HF0 := Lib.hid f0
    have HF1 := Lib.hid f1
    have HF3 := Lib.hid f3
    have hn0 : (0 : Int) < (n : Int) := by omega
    clear f0 f1 f2 f3
    go_enter Try.func23, Try.ntmps23
    go_wp2_with fail; ((with_reducible refine HC.out.mono ?_); rintro e w1 ⟨rfl, hb1⟩)
    have B1 : Below w.heap.size w w1 := hb0.trans (hb1.mono hb0.size)
    have q0 := (hb1.cell (p := ⟨w.heap.size, 0, none⟩) zb).trans p0
    have q1 := (hb1.cell (p := ⟨w.heap.size, 1, none⟩) zb).trans p1
    have q2 := (hb1.cell (p := ⟨w.heap.size, 2, none⟩) zb).trans p2
    have hr2 := (hr.below B1).more B1.size
    have g0 : w1.cell? ad = some (.slice (some ra) 2 cc0) := (B1.cell (block_lt_of_cell HF0.out)).trans HF0.out
    have g3 : w1.cell? ⟨ra.block, ra.off + 1, none⟩ = _ := (B1.cell (block_lt_of_cell HF3.out)).trans HF3.out
    have HS := Lib.hid (lastP_surge HOK.out)
    have HA : Hid (∀ t : NB w1, Calls Try.prog 52 #[.agg #[.string s, .int .i64 a, .slice (some ad) n c], .int .i64 (lockB (dat rs) 0)] t.w fun e w' => e = .returned (.tuple #[.int .i64 (lastV (dat rs) (lockB (dat rs) 0)), .bool (decide (0 < lastP (dat rs) (lockB (dat rs) 0)))]) ∧ Below t.w.heap.size t.w w') :=
      fun t => lastFlow_any s a (some ad) n c rs _ t.w ((hr2.below t.h).more t.h.size) HOK.out
    go_wp2
    have m0 := nb_cell q0 (block_lt_of_cell q0)
    have m1 := nb_cell q1 (block_lt_of_cell q1)
    have m2 := nb_cell q2 (block_lt_of_cell q2)
    have m3 := nb_cell g0 (block_lt_of_cell g0)
    have m4 := nb_cell g3 (block_lt_of_cell g3)
    refine wp_region_nb (by kernel_rfl) (by kernel_rfl) ?_
    repeat (go_big_quiet_step ((go_at_call 52; exact nb_call (HA.out _))))
    refine wpQuiet_nil ?_
    intro w3 hw3
    have hb3 := nb_out hw3
    clear hw3 m0 m1 m2 m3 m4
    go_wp2
    go_ret2
    exact ⟨ret_int2 (by rw [HV.out]; unfold lastV; rw [if_neg (by have := HS.out; omega)]) (by rw [HV.out]), B1.trans (hb3.mono B1.size)⟩
  · have HV : Hid (sgR s a (dat rs) = (0, 1)) := show _ = _ by unfold sgR; rw [if_neg (by rw [k0]; exact Bool.false_ne_true)]
    rw [k0] at cc
    have HC := Lib.hid cc
    clear cc k0
    go_enter Try.func23, Try.ntmps23
    go_wp2_with fail; ((with_reducible refine HC.out.mono ?_); rintro e w1 ⟨rfl, hb1⟩)
    have B1 : Below w.heap.size w w1 := hb0.trans (hb1.mono hb0.size)
    have q0 := (hb1.cell (p := ⟨w.heap.size, 0, none⟩) zb).trans p0
    have q1 := (hb1.cell (p := ⟨w.heap.size, 1, none⟩) zb).trans p1
    have q2 := (hb1.cell (p := ⟨w.heap.size, 2, none⟩) zb).trans p2
    have hr2 := (hr.below B1).more B1.size
    go_wp2
    go_ret2
    exact ⟨ret_int2 (by rw [HV.out]) (by rw [HV.out]), B1⟩
set_option maxHeartbeats 1600000 in
set_option maxRecDepth 100000 in
theorem implWorkingPoint_any (s : ByteArray) (a : Int) (A : Option Addr) (n c : Nat) (rs : List Row) (r : Int) (w : World) (hs : s.size ≤ maxLen) (hr : RSS w w.heap.size A n rs) (hn : n ≤ 1048576) (hrn : ∀ r ∈ rs, r.n ≤ 1048576) :
    Calls Try.prog 25 #[.agg #[.string s, .int .i64 a, .slice A n c], .int .i64 r] w fun e w' => e = .returned (.tuple #[.int .i64 (wpR s a (dat rs) r).1, .int .i64 (wpR s a (dat rs) r).2.1, .int .i64 (wpR s a (dat rs) r).2.2]) ∧ Below w.heap.size w w' := by
  have hb0 : Below w.heap.size w (w.alloc (.cells #[.string s, .int .i64 a, .slice A n c] 26)) := (Below.refl _ _).alloc (Nat.le_refl _) _
  have hr1 : RSS (w.alloc (.cells #[.string s, .int .i64 a, .slice A n c] 26)) (w.alloc (.cells #[.string s, .int .i64 a, .slice A n c] 26)).heap.size A n rs := (hr.below hb0).more hb0.size
  have p0 : (w.alloc (.cells #[.string s, .int .i64 a, .slice A n c] 26)).cell? ⟨w.heap.size, 0, none⟩ = some (.string s) := ((Blk.new w _ _).cell 0).trans rfl
  have p1 : (w.alloc (.cells #[.string s, .int .i64 a, .slice A n c] 26)).cell? ⟨w.heap.size, 1, none⟩ = some (.int .i64 a) := ((Blk.new w _ _).cell 1).trans rfl
  have p2 : (w.alloc (.cells #[.string s, .int .i64 a, .slice A n c] 26)).cell? ⟨w.heap.size, 2, none⟩ = some (.slice A n c) := ((Blk.new w _ _).cell 2).trans rfl
  have zb : w.heap.size < (w.alloc (.cells #[.string s, .int .i64 a, .slice A n c] 26)).heap.size := by simp
  have cc := implValidFan_any s a A n c rs (w.alloc (.cells #[.string s, .int .i64 a, .slice A n c] 26)) hs hr1 hn hrn
  clear hrn
  rcases Bool.eq_false_or_eq_true (fanOk s a (dat rs)) with k0 | k0
  · have HOK := Lib.hid (fanOk_t k0).2.2
    have HLn : Hid ((dat rs).length = n) := show (dat rs).length = n by rw [dat_len]; exact hr.len
    have hn2 : 2 ≤ n := by have h := (crvOk_t HOK.out).1; have h2 := HLn.out; omega
    rw [k0] at cc
    have HC := Lib.hid cc
    clear cc
    rcases Bool.eq_false_or_eq_true (isRes r) with k1 | k1
    · have HV : Hid (wpR s a (dat rs) r = (wrkV (dat rs) r, prT (dat rs) (wrkV (dat rs) r), 0)) := show _ = _ by unfold wpR; rw [if_pos k0, if_pos k1]
      have K1 := Lib.hid k1
      have HWV := Lib.hid (wrkV_bnd HOK.out r)
      go_enter Try.func25, Try.ntmps25
      go_wp2_with fail; ((with_reducible refine HC.out.mono ?_); rintro e w1 ⟨rfl, hb1⟩)
      have B1 : Below w.heap.size w w1 := hb0.trans (hb1.mono hb0.size)
      have q0 := (hb1.cell (p := ⟨w.heap.size, 0, none⟩) zb).trans p0
      have q1 := (hb1.cell (p := ⟨w.heap.size, 1, none⟩) zb).trans p1
      have q2 := (hb1.cell (p := ⟨w.heap.size, 2, none⟩) zb).trans p2
      have hr2 := (hr.below B1).more B1.size
      go_wp2_with fail; ((with_reducible refine (resistanceOk_any r _).mono ?_); rintro e w' ⟨rfl, rfl⟩)
      rw [K1.out]
      clear k1
      go_wp2_with fail; ((with_reducible refine (workingFlow_any s a A n c rs r w1 hr2 HOK.out K1.out).mono ?_); rintro e w2 ⟨rfl, hb2⟩)
      have B2 := B1.trans (hb2.mono B1.size)
      have zb1 : w.heap.size < w1.heap.size := Nat.lt_of_lt_of_le zb hb1.size
      have r0 := (hb2.cell (p := ⟨w.heap.size, 0, none⟩) zb1).trans q0
      have r1 := (hb2.cell (p := ⟨w.heap.size, 1, none⟩) zb1).trans q1
      have r2 := (hb2.cell (p := ⟨w.heap.size, 2, none⟩) zb1).trans q2
      clear q0 q1 q2
      have hr3 := (hr.below B2).more B2.size
      go_wp2_with fail; ((with_reducible refine (pressure_any s a A n c rs (wrkV (dat rs) r) w2 hr3 HOK.out (by have := HWV.out; omega)).mono ?_); rintro e w3 ⟨rfl, hb3⟩)
      go_wp2
      go_ret3
      exact ⟨ret_int3 (by rw [HV.out]) (by rw [HV.out]) (by rw [HV.out]), B2.trans (hb3.mono B2.size)⟩
    · have HV : Hid (wpR s a (dat rs) r = (0, 0, 2)) := show _ = _ by unfold wpR; rw [if_pos k0, if_neg (by rw [k1]; exact Bool.false_ne_true)]
      have K1 := Lib.hid k1
      go_enter Try.func25, Try.ntmps25
      go_wp2_with fail; ((with_reducible refine HC.out.mono ?_); rintro e w1 ⟨rfl, hb1⟩)
      have B1 : Below w.heap.size w w1 := hb0.trans (hb1.mono hb0.size)
      have q0 := (hb1.cell (p := ⟨w.heap.size, 0, none⟩) zb).trans p0
      have q1 := (hb1.cell (p := ⟨w.heap.size, 1, none⟩) zb).trans p1
      have q2 := (hb1.cell (p := ⟨w.heap.size, 2, none⟩) zb).trans p2
      have hr2 := (hr.below B1).more B1.size
      go_wp2_with fail; ((with_reducible refine (resistanceOk_any r _).mono ?_); rintro e w' ⟨rfl, rfl⟩)
      rw [K1.out]
      go_wp2
      go_ret3
      exact ⟨ret_int3 (by rw [HV.out]) (by rw [HV.out]) (by rw [HV.out]), B1⟩
  · have HV : Hid (wpR s a (dat rs) r = (0, 0, 1)) := show _ = _ by unfold wpR; rw [if_neg (by rw [k0]; exact Bool.false_ne_true)]
    rw [k0] at cc
    have HC := Lib.hid cc
    clear cc k0
    go_enter Try.func25, Try.ntmps25
    go_wp2_with fail; ((with_reducible refine HC.out.mono ?_); rintro e w1 ⟨rfl, hb1⟩)
    have B1 : Below w.heap.size w w1 := hb0.trans (hb1.mono hb0.size)
    have q0 := (hb1.cell (p := ⟨w.heap.size, 0, none⟩) zb).trans p0
    have q1 := (hb1.cell (p := ⟨w.heap.size, 1, none⟩) zb).trans p1
    have q2 := (hb1.cell (p := ⟨w.heap.size, 2, none⟩) zb).trans p2
    have hr2 := (hr.below B1).more B1.size
    go_wp2
    go_ret3
    exact ⟨ret_int3 (by rw [HV.out]) (by rw [HV.out]) (by rw [HV.out]), B1⟩
end Go.Proofs.Ytapophggndlhaaa
