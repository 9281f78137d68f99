/- Contracts of the searches along a fan's curve: the last flow at a pressure, the working flow, the power. -/
import Derived.Test.YtapophggndlhaaaPrs
import Derived.Test.YtapophggndlhaaaReg
import Derived.Test.YtapophggndlhaaaNb
namespace Go.Proofs.Ytapophggndlhaaa
set_option linter.unusedVariables false
set_option linter.unusedSimpArgs false
open Go.RowKit
def lastB (cs : List (List Int)) (p x : Int) : Bool := decide (prT cs x < p)
/-- The first flow at which the pressure is below p; 100001 if there is none. -/
def lastP (cs : List (List Int)) (p : Int) : Int := firstP (lastB cs p) 0 100001
def lastV (cs : List (List Int)) (p : Int) : Int := if lastP cs p = 0 then 0 else lastP cs p - 1
theorem firstP_ge {p : Int → Bool} : ∀ (n : Nat) (lo : Int), lo ≤ firstP p lo n ∧ firstP p lo n ≤ lo + n
  | 0, lo => by simp only [firstP]; omega
  | n + 1, lo => by
    have h := firstP_ge (p := p) n (lo + 1)
    simp only [firstP]
    split <;> omega
theorem firstP_pos {p : Int → Bool} (n : Nat) (h0 : p 0 = false) : 1 ≤ firstP p 0 (n + 1) ∧ firstP p 0 (n + 1) ≤ (n : Int) + 1 := by
  have h1 := firstP_ge (p := p) n (0 + 1)
  simp only [firstP]
  rw [if_neg (by rw [h0]; exact Bool.false_ne_true)]
  omega
theorem ret_ib {k : IntKind} {a b : Int} {c d : Bool} (h : a = b) (h' : c = d) : Ending.returned (.tuple #[.int k a, .bool c]) = .returned (.tuple #[.int k b, .bool d]) := by rw [h, h']
theorem lastP_bnd (cs : List (List Int)) (p : Int) : 0 ≤ lastP cs p ∧ lastP cs p ≤ 100001 := by
  have h := firstP_ge (p := lastB cs p) 100001 0
  unfold lastP; omega
theorem last_mono {cs : List (List Int)} (h : crvOk cs = true) (p : Int) : ∀ a b, 0 ≤ a → a ≤ b → b ≤ 100000 → lastB cs p a = true → lastB cs p b = true := by
  intro a b _ hab _ ha
  have h1 := of_decide_eq_true ha
  have h2 := prT_mono h hab
  exact decide_eq_true (by omega)
def wrkB (cs : List (List Int)) (r x : Int) : Bool := decide (prT cs x < drop r x)
def wrkP (cs : List (List Int)) (r : Int) : Int := firstP (wrkB cs r) 0 100001
def wrkV (cs : List (List Int)) (r : Int) : Int := wrkP cs r - 1
theorem drop_mono {r : Int} (hr : isRes r = true) {a b : Int} (ha : 0 ≤ a) (hab : a ≤ b) : drop r a ≤ drop r b := by
  have h0 := isRes_t hr
  unfold drop
  apply dr_mono (by omega)
  have hA : absI a = a := by unfold absI; omega
  have hB : absI b = b := by unfold absI; omega
  rw [hA, hB]
  have h1 : r * a ≤ r * b := Int.mul_le_mul_of_nonneg_left hab (by omega)
  have h2 : 0 ≤ r * a := Int.mul_nonneg (by omega) ha
  exact Int.mul_le_mul h1 hab ha (by omega)
theorem wrk_mono {cs : List (List Int)} (h : crvOk cs = true) {r : Int} (hr : isRes r = true) : ∀ a b, 0 ≤ a → a ≤ b → b ≤ 100000 → wrkB cs r a = true → wrkB cs r b = true := by
  intro a b ha0 hab _ ha
  have h1 := of_decide_eq_true ha
  have h2 := prT_mono h hab
  have h3 := drop_mono hr ha0 hab
  exact decide_eq_true (by omega)
theorem drop_zero (r : Int) : drop r 0 = 0 := by
  unfold drop; rw [Int.mul_zero, Int.zero_mul]; rfl
theorem wrk_zero {cs : List (List Int)} (h : crvOk cs = true) (r : Int) : wrkB cs r 0 = false := by
  have h1 := prT_bnd h 0
  have h2 := drop_zero r
  exact decide_eq_false (by omega)
theorem wrkP_bnd {cs : List (List Int)} (h : crvOk cs = true) (r : Int) : 1 ≤ wrkP cs r ∧ wrkP cs r ≤ 100001 := by
  have h1 : 1 ≤ wrkP cs r ∧ wrkP cs r ≤ (100000 : Nat) + 1 := firstP_pos 100000 (wrk_zero h r)
  omega
theorem wrkV_bnd {cs : List (List Int)} (h : crvOk cs = true) (r : Int) : 0 ≤ wrkV cs r ∧ wrkV cs r ≤ 100000 := by
  have := wrkP_bnd h r
  unfold wrkV; omega
theorem isFlow_of {x : Int} (h1 : -100000 ≤ x) (h2 : x ≤ 100000) : isFlow x = true := decide_eq_true (by omega)
def pwr (cs : List (List Int)) (q : Int) : Int := dr (prT cs q * absI q) 100
theorem pwr_in {cs : List (List Int)} (h : crvOk cs = true) {q : Int} (h1 : -100000 ≤ q) (h2 : q ≤ 100000) : 0 ≤ prT cs q * absI q ∧ prT cs q * absI q ≤ 1000000000 := by
  have h3 := prT_bnd h q
  exact mul_pos_bnd (X := 10000) (Y := 100000) h3.1 h3.2 (absI_nonneg q) (absI_le (by omega) h2) (by omega)
theorem lastClosure_any (s : ByteArray) (a : Int) (A : Option Addr) (n c : Nat) (rs : List Row) (p x : Int) (b1 b2 : Nat) (w : World) (hr : RSS w w.heap.size A n rs) (hok : crvOk (dat rs) = true) (h1 : 0 ≤ x) (h2 : x ≤ 100000)
    (c0 : w.cell? ⟨b1, 0, none⟩ = some (.string s)) (c1 : w.cell? ⟨b1, 1, none⟩ = some (.int .i64 a)) (c2 : w.cell? ⟨b1, 2, none⟩ = some (.slice A n c)) (c3 : w.cell? ⟨b2, 0, none⟩ = some (.int .i64 p)) :
    Calls Try.prog 81 #[.int .i64 x, .pointer (some ⟨b1, 0, none⟩), .pointer (some ⟨b2, 0, none⟩)] w fun e w' => e = .returned (.bool (lastB (dat rs) p x)) ∧ Below w.heap.size w w' := by
  have HA : Hid (∀ t : NB w, Calls Try.prog 48 #[.agg #[.string s, .int .i64 a, .slice A n c], .int .i64 x] t.w fun e w' => e = .returned (.int .i64 (prT (dat rs) x)) ∧ Below t.w.heap.size t.w w') :=
    fun t => pressure_any s a A n c rs x t.w ((hr.below t.h).more t.h.size) hok (by omega)
  clear hok
  go_enter Try.func81, Try.ntmps81
  go_wp2
  have m0 := nb_cell c0 (block_lt_of_cell c0)
  have m1 := nb_cell c1 (block_lt_of_cell c1)
  have m2 := nb_cell c2 (block_lt_of_cell c2)
  have m3 := nb_cell c3 (block_lt_of_cell c3)
  refine wp_region_nb (by kernel_rfl) (by kernel_rfl) ?_
  repeat (go_big_quiet_step ((go_at_call 48; exact nb_call (HA.out _))))
  refine wpQuiet_nil ?_
  intro w3 hw3
  have hb3 := nb_out hw3
  clear hw3 m0 m1 m2 m3
  go_wp2
  go_ret
  exact ⟨rfl, hb3⟩
set_option maxHeartbeats 800000 in
set_option maxRecDepth 100000 in
theorem lastFlow_any (s : ByteArray) (a : Int) (A : Option Addr) (n c : Nat) (rs : List Row) (p : Int) (w : World) (hr : RSS w w.heap.size A n rs) (hok : crvOk (dat rs) = true) :
    Calls Try.prog 52 #[.agg #[.string s, .int .i64 a, .slice A n c], .int .i64 p] w fun e w' => e = .returned (.tuple #[.int .i64 (lastV (dat rs) p), .bool (decide (0 < lastP (dat rs) p))]) ∧ Below w.heap.size w w' := by
  have HS : Hid (∀ (W : World) (b1 b2 : Nat), Below w.heap.size w W → b1 < W.heap.size → b2 < W.heap.size → W.cell? ⟨b1, 0, none⟩ = some (.string s) → W.cell? ⟨b1, 1, none⟩ = some (.int .i64 a) → W.cell? ⟨b1, 2, none⟩ = some (.slice A n c) → W.cell? ⟨b2, 0, none⟩ = some (.int .i64 p) →
      Calls Try.prog 80 #[.int .i64 0, .int .i64 100000, .func (.func 81) #[] #[.pointer (some ⟨b1, 0, none⟩), .pointer (some ⟨b2, 0, none⟩)]] W fun e w' =>
        e = .returned (.tuple #[.int .i64 (lastP (dat rs) p), .bool (decide (lastP (dat rs) p ≤ 100000))]) ∧ Below W.heap.size W w') := by
    intro W b1 b2 hbW l1 l2 c0 c1 c2 c3
    refine firstIn_any 0 100000 _ _ (lastB (dat rs) p) 100001 W (fun _ _ => rfl) (by omega) (by omega) (by omega) (by omega) ?_ (last_mono hok p)
    intro W' x hb hx1 hx2
    have hb' := hbW.trans (hb.mono hbW.size)
    exact lastClosure_any s a A n c rs p x b1 b2 W' ((hr.below hb').more hb'.size) hok hx1 hx2 ((hb.cell l1).trans c0) ((hb.cell l1).trans c1) ((hb.cell l1).trans c2) ((hb.cell l2).trans c3)
  obtain ⟨p0, p1⟩ := lastP_bnd (dat rs) p
  have HV : Hid (lastV (dat rs) p = if lastP (dat rs) p = 0 then 0 else lastP (dat rs) p - 1) := rfl
  clear hok
  by_cases k1 : 100000 < lastP (dat rs) p
  · have d1 : decide (lastP (dat rs) p ≤ 100000) = false := decide_eq_false (by omega)
    go_enter Try.func52, Try.ntmps52
    go_wp2_with fail; ((with_reducible refine (HS.out _ _ _ (by (repeat (first | exact Below.refl _ _ | assumption | (refine Below.alloc ?_ (by first | exact Nat.le_refl _ | (simp; done) | (simp; omega)) _) | (refine below_drewN ?_ _) | (refine Below.trans ?_ (Below.mono (by assumption) (by first | exact Nat.le_refl _ | (simp; done) | (simp; omega) | omega)))))) (by first | exact Nat.le_refl _ | (simp; done) | (simp; omega) | omega) (by first | exact Nat.le_refl _ | (simp; done) | (simp; omega) | omega) (by go_simp) (by go_simp) (by go_simp) (by go_simp)).mono ?_); rintro e w1 ⟨rfl, hb1⟩)
    rw [d1]
    obtain ⟨hc1, hf1⟩ := bcell hb1
    go_wp2
    go_ret2
    exact ⟨ret_ib (by rw [HV.out, if_neg (by omega)]; omega) (decide_eq_true (by omega)).symm, (show Below w.heap.size w _ by (repeat (first | exact Below.refl _ _ | assumption | (refine Below.alloc ?_ (by first | exact Nat.le_refl _ | (simp; done) | (simp; omega)) _) | (refine below_drewN ?_ _) | (refine Below.trans ?_ (Below.mono (by assumption) (by first | exact Nat.le_refl _ | (simp; done) | (simp; omega) | omega)))))).trans (hb1.mono (by simp; omega))⟩
  · have d1 : decide (lastP (dat rs) p ≤ 100000) = true := decide_eq_true (by omega)
    by_cases k2 : lastP (dat rs) p = 0
    · go_enter Try.func52, Try.ntmps52
      have K2 := Lib.hid k2
      clear k2
      go_wp2_with fail; ((with_reducible refine (HS.out _ _ _ (by (repeat (first | exact Below.refl _ _ | assumption | (refine Below.alloc ?_ (by first | exact Nat.le_refl _ | (simp; done) | (simp; omega)) _) | (refine below_drewN ?_ _) | (refine Below.trans ?_ (Below.mono (by assumption) (by first | exact Nat.le_refl _ | (simp; done) | (simp; omega) | omega)))))) (by first | exact Nat.le_refl _ | (simp; done) | (simp; omega) | omega) (by first | exact Nat.le_refl _ | (simp; done) | (simp; omega) | omega) (by go_simp) (by go_simp) (by go_simp) (by go_simp)).mono ?_); rintro e w1 ⟨rfl, hb1⟩)
      rw [d1, K2.out]
      obtain ⟨hc1, hf1⟩ := bcell hb1
      go_wp2
      go_ret2
      exact ⟨ret_ib (by rw [HV.out, if_pos K2.out]) (decide_eq_false (by rw [K2.out]; omega)).symm, (show Below w.heap.size w _ by (repeat (first | exact Below.refl _ _ | assumption | (refine Below.alloc ?_ (by first | exact Nat.le_refl _ | (simp; done) | (simp; omega)) _) | (refine below_drewN ?_ _) | (refine Below.trans ?_ (Below.mono (by assumption) (by first | exact Nat.le_refl _ | (simp; done) | (simp; omega) | omega)))))).trans (hb1.mono (by simp; omega))⟩
    · have k3 : ((lastP (dat rs) p) == 0) = false := by simpa using k2
      go_enter Try.func52, Try.ntmps52
      go_wp2_with fail; ((with_reducible refine (HS.out _ _ _ (by (repeat (first | exact Below.refl _ _ | assumption | (refine Below.alloc ?_ (by first | exact Nat.le_refl _ | (simp; done) | (simp; omega)) _) | (refine below_drewN ?_ _) | (refine Below.trans ?_ (Below.mono (by assumption) (by first | exact Nat.le_refl _ | (simp; done) | (simp; omega) | omega)))))) (by first | exact Nat.le_refl _ | (simp; done) | (simp; omega) | omega) (by first | exact Nat.le_refl _ | (simp; done) | (simp; omega) | omega) (by go_simp) (by go_simp) (by go_simp) (by go_simp)).mono ?_); rintro e w1 ⟨rfl, hb1⟩)
      rw [d1]
      obtain ⟨hc1, hf1⟩ := bcell hb1
      go_wp2
      go_ret2
      exact ⟨ret_ib (by rw [HV.out, if_neg (by omega)]) (decide_eq_true (by omega)).symm, (show Below w.heap.size w _ by (repeat (first | exact Below.refl _ _ | assumption | (refine Below.alloc ?_ (by first | exact Nat.le_refl _ | (simp; done) | (simp; omega)) _) | (refine below_drewN ?_ _) | (refine Below.trans ?_ (Below.mono (by assumption) (by first | exact Nat.le_refl _ | (simp; done) | (simp; omega) | omega)))))).trans (hb1.mono (by simp; omega))⟩
set_option maxHeartbeats 800000 in
theorem l06Last_any (A : Option Addr) (n c : Nat) (rs : List Row) (q : Int) (p : Addr) (w : World) (hr : RSS w w.heap.size A n rs) (hok : crvOk (dat rs) = true) (hp2 : w.cell? ⟨p.block, p.off + 2, none⟩ = some (.slice A n c)) :
    Calls Try.prog 51 #[.pointer (some p), .int .i64 q] w fun e w' => e = .returned (.int .i64 (lastP (dat rs) q - 1)) ∧ Below w.heap.size w w' := by
  have hpl : p.block < w.heap.size := block_lt_of_cell (a := ⟨p.block, p.off + 2, none⟩) hp2
  have HC : Hid (∀ (W : World) (x : Int), Below w.heap.size w W → 0 ≤ x → x ≤ 100000 → Calls Try.prog 46 #[.pointer (some p), .int .i64 x] W fun e w' => e = .returned (.int .i64 (prT (dat rs) x)) ∧ Below W.heap.size W w') :=
    fun W x hb h1 h2 => l06Pressure_any A n c rs x p W ((hr.below hb).more hb.size) hok (by omega) ((hb.cell (p := ⟨p.block, p.off + 2, none⟩) hpl).trans hp2)
  have HM := Lib.hid (last_mono hok q)
  clear hok hp2
  by_cases h0 : prT (dat rs) 0 < q
  · have HV : Hid (lastP (dat rs) q = 0) := firstP_eq (Int.le_refl _) (by omega) (fun x h1 h2 => by omega) (fun _ => decide_eq_true h0)
    go_enter Try.func51, Try.ntmps51
    go_wp2_with fail; ((with_reducible refine (HC.out _ _ (Below.refl _ _) (by omega) (by omega)).mono ?_); rintro e w1 ⟨rfl, hb1⟩)
    go_wp2
    go_ret
    exact ⟨ret_int (by rw [HV.out]; rfl), hb1⟩
  · have HZ : Hid (lastB (dat rs) q 0 = false) := decide_eq_false h0
    go_enter Try.func51, Try.ntmps51
    go_wp2_with fail; ((with_reducible refine (HC.out _ _ (Below.refl _ _) (by omega) (by omega)).mono ?_); rintro e w1 ⟨rfl, hb1⟩)
    go_wp2
    go_loopw [5, 6] (fun l h wr => ∃ lo hi : Int, l = .int .i64 lo ∧ h = .int .i64 hi ∧ 0 ≤ lo ∧ lo < hi ∧ hi ≤ 100001 ∧ Hid ((∀ x, 0 ≤ x → x ≤ lo → lastB (dat rs) q x = false) ∧ (∀ x, hi ≤ x → x ≤ 100000 → lastB (dat rs) q x = true)) ∧ Below w.heap.size w wr) (fun l h _ => (intOf h - intOf l).toNat)
    case atStart => exact ⟨0, 100001, rfl, rfl, by omega, by omega, by omega, ⟨fun x h1 h2 => by rw [show x = 0 by omega]; exact HZ.out, fun x h1 h2 => by omega⟩, hb1⟩
    case round =>
      obtain ⟨lo, hi, rfl, rfl, h1, h2, h3, I, hbw⟩ := hrel
      by_cases hlt : 1 < hi - lo
      · cases hp : lastB (dat rs) q ((lo + hi) / 2)
        · have HP := Lib.hid hp
          have hp' : q ≤ prT (dat rs) ((lo + hi) / 2) := by have := of_decide_eq_false hp; omega
          clear hp
          go_wp2_with fail; ((with_reducible refine (HC.out _ _ hbw (by omega) (by omega)).mono ?_); rintro e w2 ⟨rfl, hb2⟩)
          go_wp2
          go_roundw
          case rel =>
            refine ⟨(lo + hi) / 2, hi, rfl, rfl, by omega, by omega, by omega, ⟨fun x g1 g2 => ?_, I.out.2⟩, hbw.trans (hb2.mono hbw.size)⟩
            cases hx : lastB (dat rs) q x with
            | false => rfl
            | true =>
              have := HM.out x ((lo + hi) / 2) g1 g2 (by omega) hx
              rw [HP.out] at this; cases this
          case measure => simp [intOf]; omega
        · have HP := Lib.hid hp
          have hp' : prT (dat rs) ((lo + hi) / 2) < q := of_decide_eq_true hp
          clear hp
          go_wp2_with fail; ((with_reducible refine (HC.out _ _ hbw (by omega) (by omega)).mono ?_); rintro e w2 ⟨rfl, hb2⟩)
          go_wp2
          go_roundw
          case rel => exact ⟨lo, (lo + hi) / 2, rfl, rfl, by omega, by omega, by omega, ⟨I.out.1, fun x g1 g2 => HM.out _ x (by omega) g1 g2 HP.out⟩, hbw.trans (hb2.mono hbw.size)⟩
          case measure => simp [intOf]; omega
      · have HV : Hid (lastP (dat rs) q = hi) := firstP_eq (by omega) (by omega) (fun x g1 g2 => I.out.1 x g1 (by omega)) (fun g => I.out.2 hi (Int.le_refl _) (by omega))
        go_wp2
        go_ret
        exact ⟨ret_int (by rw [HV.out]; omega), hbw⟩
theorem wrkClosure_any (s : ByteArray) (a : Int) (A : Option Addr) (n c : Nat) (rs : List Row) (r x : Int) (b1 b2 : Nat) (w : World) (hr : RSS w w.heap.size A n rs) (hok : crvOk (dat rs) = true) (hres : isRes r = true) (h1 : 0 ≤ x) (h2 : x ≤ 100000)
    (c0 : w.cell? ⟨b1, 0, none⟩ = some (.string s)) (c1 : w.cell? ⟨b1, 1, none⟩ = some (.int .i64 a)) (c2 : w.cell? ⟨b1, 2, none⟩ = some (.slice A n c)) (c3 : w.cell? ⟨b2, 0, none⟩ = some (.int .i64 r)) :
    Calls Try.prog 83 #[.int .i64 x, .pointer (some ⟨b2, 0, none⟩), .pointer (some ⟨b1, 0, none⟩)] w fun e w' => e = .returned (.bool (wrkB (dat rs) r x)) ∧ Below w.heap.size w w' := by
  have HA : Hid (∀ t : NB w, Calls Try.prog 48 #[.agg #[.string s, .int .i64 a, .slice A n c], .int .i64 x] t.w fun e w' => e = .returned (.int .i64 (prT (dat rs) x)) ∧ Below t.w.heap.size t.w w') :=
    fun t => pressure_any s a A n c rs x t.w ((hr.below t.h).more t.h.size) hok (by omega)
  have HD : Hid (∀ t : NB w, Calls Try.prog 84 #[.int .i64 r, .int .i64 x] t.w fun e w' => e = .returned (.int .i64 (drop r x)) ∧ Below t.w.heap.size t.w w') :=
    fun t => (dropOf_any r x t.w hres (isFlow_of (by omega) h2)).mono fun _ _ ⟨he, n, hn⟩ => ⟨he, hn ▸ below_drewN (Below.refl _ _) _⟩
  clear hok hres
  go_enter Try.func83, Try.ntmps83
  go_wp2
  have m0 := nb_cell c0 (block_lt_of_cell c0)
  have m1 := nb_cell c1 (block_lt_of_cell c1)
  have m2 := nb_cell c2 (block_lt_of_cell c2)
  have m3 := nb_cell c3 (block_lt_of_cell c3)
  refine wp_region_nb (by kernel_rfl) (by kernel_rfl) ?_
  repeat (go_big_quiet_step ((first | (go_at_call 48; exact nb_call (HA.out _)) | (go_at_call 84; exact nb_call (HD.out _)))))
  refine wpQuiet_nil ?_
  intro w3 hw3
  have hb3 := nb_out hw3
  clear hw3 m0 m1 m2 m3
  go_wp2
  go_ret
  exact ⟨rfl, hb3⟩
set_option maxHeartbeats 800000 in
set_option maxRecDepth 100000 in
theorem workingFlow_any (s : ByteArray) (a : Int) (A : Option Addr) (n c : Nat) (rs : List Row) (r : Int) (w : World) (hr : RSS w w.heap.size A n rs) (hok : crvOk (dat rs) = true) (hres : isRes r = true) :
    Calls Try.prog 56 #[.agg #[.string s, .int .i64 a, .slice A n c], .int .i64 r] w fun e w' => e = .returned (.int .i64 (wrkV (dat rs) r)) ∧ Below w.heap.size w w' := by
  have HS : Hid (∀ (W : World) (b1 b2 : Nat), Below w.heap.size w W → b1 < W.heap.size → b2 < W.heap.size → W.cell? ⟨b1, 0, none⟩ = some (.string s) → W.cell? ⟨b1, 1, none⟩ = some (.int .i64 a) → W.cell? ⟨b1, 2, none⟩ = some (.slice A n c) → W.cell? ⟨b2, 0, none⟩ = some (.int .i64 r) →
      Calls Try.prog 80 #[.int .i64 0, .int .i64 100000, .func (.func 83) #[] #[.pointer (some ⟨b2, 0, none⟩), .pointer (some ⟨b1, 0, none⟩)]] W fun e w' =>
        e = .returned (.tuple #[.int .i64 (wrkP (dat rs) r), .bool (decide (wrkP (dat rs) r ≤ 100000))]) ∧ Below W.heap.size W w') := by
    intro W b1 b2 hbW l1 l2 c0 c1 c2 c3
    refine firstIn_any 0 100000 _ _ (wrkB (dat rs) r) 100001 W (fun _ _ => rfl) (by omega) (by omega) (by omega) (by omega) ?_ (wrk_mono hok hres)
    intro W' x hb hx1 hx2
    have hb' := hbW.trans (hb.mono hbW.size)
    exact wrkClosure_any s a A n c rs r x b1 b2 W' ((hr.below hb').more hb'.size) hok hres hx1 hx2 ((hb.cell l1).trans c0) ((hb.cell l1).trans c1) ((hb.cell l1).trans c2) ((hb.cell l2).trans c3)
  obtain ⟨p0, p1⟩ := wrkP_bnd hok r
  have HV : Hid (wrkV (dat rs) r = wrkP (dat rs) r - 1) := rfl
  clear hok hres
  by_cases k1 : 100000 < wrkP (dat rs) r
  · have d1 : decide (wrkP (dat rs) r ≤ 100000) = false := decide_eq_false (by omega)
    go_enter Try.func56, Try.ntmps56
    go_wp2_with fail; ((with_reducible refine (HS.out _ _ _ (by (repeat (first | exact Below.refl _ _ | assumption | (refine Below.alloc ?_ (by first | exact Nat.le_refl _ | (simp; done) | (simp; omega)) _) | (refine below_drewN ?_ _) | (refine Below.trans ?_ (Below.mono (by assumption) (by first | exact Nat.le_refl _ | (simp; done) | (simp; omega) | omega)))))) (by first | exact Nat.le_refl _ | (simp; done) | (simp; omega) | omega) (by first | exact Nat.le_refl _ | (simp; done) | (simp; omega) | omega) (by go_simp) (by go_simp) (by go_simp) (by go_simp)).mono ?_); rintro e w1 ⟨rfl, hb1⟩)
    rw [d1]
    go_wp2
    go_ret
    exact ⟨ret_int (by rw [HV.out]; omega), (show Below w.heap.size w _ by (repeat (first | exact Below.refl _ _ | assumption | (refine Below.alloc ?_ (by first | exact Nat.le_refl _ | (simp; done) | (simp; omega)) _) | (refine below_drewN ?_ _) | (refine Below.trans ?_ (Below.mono (by assumption) (by first | exact Nat.le_refl _ | (simp; done) | (simp; omega) | omega)))))).trans (hb1.mono (by simp; omega))⟩
  · have d1 : decide (wrkP (dat rs) r ≤ 100000) = true := decide_eq_true (by omega)
    go_enter Try.func56, Try.ntmps56
    go_wp2_with fail; ((with_reducible refine (HS.out _ _ _ (by (repeat (first | exact Below.refl _ _ | assumption | (refine Below.alloc ?_ (by first | exact Nat.le_refl _ | (simp; done) | (simp; omega)) _) | (refine below_drewN ?_ _) | (refine Below.trans ?_ (Below.mono (by assumption) (by first | exact Nat.le_refl _ | (simp; done) | (simp; omega) | omega)))))) (by first | exact Nat.le_refl _ | (simp; done) | (simp; omega) | omega) (by first | exact Nat.le_refl _ | (simp; done) | (simp; omega) | omega) (by go_simp) (by go_simp) (by go_simp) (by go_simp)).mono ?_); rintro e w1 ⟨rfl, hb1⟩)
    rw [d1]
    go_wp2
    go_ret
    exact ⟨ret_int HV.out.symm, (show Below w.heap.size w _ by (repeat (first | exact Below.refl _ _ | assumption | (refine Below.alloc ?_ (by first | exact Nat.le_refl _ | (simp; done) | (simp; omega)) _) | (refine below_drewN ?_ _) | (refine Below.trans ?_ (Below.mono (by assumption) (by first | exact Nat.le_refl _ | (simp; done) | (simp; omega) | omega)))))).trans (hb1.mono (by simp; omega))⟩
set_option maxHeartbeats 800000 in
theorem l06Point_any (A : Option Addr) (n c : Nat) (rs : List Row) (r : Int) (p : Addr) (w : World) (hr : RSS w w.heap.size A n rs) (hok : crvOk (dat rs) = true) (hres : isRes r = true) (hp2 : w.cell? ⟨p.block, p.off + 2, none⟩ = some (.slice A n c)) :
    Calls Try.prog 54 #[.pointer (some p), .int .i64 r] w fun e w' => e = .returned (.int .i64 (wrkV (dat rs) r)) ∧ Below w.heap.size w w' := by
  have hpl : p.block < w.heap.size := block_lt_of_cell (a := ⟨p.block, p.off + 2, none⟩) hp2
  have HC : Hid (∀ (W : World) (x : Int), Below w.heap.size w W → 0 ≤ x → x ≤ 100000 → Calls Try.prog 46 #[.pointer (some p), .int .i64 x] W fun e w' => e = .returned (.int .i64 (prT (dat rs) x)) ∧ Below W.heap.size W w') :=
    fun W x hb h1 h2 => l06Pressure_any A n c rs x p W ((hr.below hb).more hb.size) hok (by omega) ((hb.cell (p := ⟨p.block, p.off + 2, none⟩) hpl).trans hp2)
  have HD : Hid (∀ (W : World) (x : Int), 0 ≤ x → x ≤ 100000 → Calls Try.prog 82 #[.int .i64 r, .int .i64 x] W fun e w' => e = .returned (.int .i64 (drop r x)) ∧ W = w') :=
    fun W x h1 h2 => l03Drop_any r x W hres (isFlow_of (by omega) h2)
  have HM := Lib.hid (wrk_mono hok hres)
  have HZ := Lib.hid (wrk_zero hok r)
  clear hok hp2 hres
  go_enter Try.func54, Try.ntmps54
  go_wp2
  go_loopw [5, 6] (fun l h wr => ∃ lo hi : Int, l = .int .i64 lo ∧ h = .int .i64 hi ∧ 0 ≤ lo ∧ lo < hi ∧ hi ≤ 100001 ∧ Hid ((∀ x, 0 ≤ x → x ≤ lo → wrkB (dat rs) r x = false) ∧ (∀ x, hi ≤ x → x ≤ 100000 → wrkB (dat rs) r x = true)) ∧ Below w.heap.size w wr) (fun l h _ => (intOf h - intOf l).toNat)
  case atStart => exact ⟨0, 100001, rfl, rfl, by omega, by omega, by omega, ⟨fun x h1 h2 => by rw [show x = 0 by omega]; exact HZ.out, fun x h1 h2 => by omega⟩, Below.refl _ _⟩
  case round =>
    obtain ⟨lo, hi, rfl, rfl, h1, h2, h3, I, hbw⟩ := hrel
    by_cases hlt : 1 < hi - lo
    · cases hp : wrkB (dat rs) r ((lo + hi) / 2)
      · have HP := Lib.hid hp
        have hp' : drop r ((lo + hi) / 2) ≤ prT (dat rs) ((lo + hi) / 2) := by have := of_decide_eq_false hp; omega
        clear hp
        go_wp2_with fail; ((with_reducible refine (HD.out _ _ (by omega) (by omega)).mono ?_); rintro e w' ⟨rfl, rfl⟩)
        go_wp2_with fail; ((with_reducible refine (HC.out _ _ hbw (by omega) (by omega)).mono ?_); rintro e w2 ⟨rfl, hb2⟩)
        go_wp2
        go_roundw
        case rel =>
          refine ⟨(lo + hi) / 2, hi, rfl, rfl, by omega, by omega, by omega, ⟨fun x g1 g2 => ?_, I.out.2⟩, hbw.trans (hb2.mono hbw.size)⟩
          cases hx : wrkB (dat rs) r x with
          | false => rfl
          | true =>
            have := HM.out x ((lo + hi) / 2) g1 g2 (by omega) hx
            rw [HP.out] at this; cases this
        case measure => simp [intOf]; omega
      · have HP := Lib.hid hp
        have hp' : prT (dat rs) ((lo + hi) / 2) < drop r ((lo + hi) / 2) := of_decide_eq_true hp
        clear hp
        go_wp2_with fail; ((with_reducible refine (HD.out _ _ (by omega) (by omega)).mono ?_); rintro e w' ⟨rfl, rfl⟩)
        go_wp2_with fail; ((with_reducible refine (HC.out _ _ hbw (by omega) (by omega)).mono ?_); rintro e w2 ⟨rfl, hb2⟩)
        go_wp2
        go_roundw
        case rel => exact ⟨lo, (lo + hi) / 2, rfl, rfl, by omega, by omega, by omega, ⟨I.out.1, fun x g1 g2 => HM.out _ x (by omega) g1 g2 HP.out⟩, hbw.trans (hb2.mono hbw.size)⟩
        case measure => simp [intOf]; omega
    · have HV : Hid (wrkP (dat rs) r = hi) := firstP_eq (by omega) (by omega) (fun x g1 g2 => I.out.1 x g1 (by omega)) (fun g => I.out.2 hi (Int.le_refl _) (by omega))
      go_wp2
      go_ret
      exact ⟨ret_int (by unfold wrkV; rw [HV.out]; omega), hbw⟩
theorem power_any (s : ByteArray) (a : Int) (A : Option Addr) (n c : Nat) (rs : List Row) (q : Int) (w : World) (hr : RSS w w.heap.size A n rs) (hok : crvOk (dat rs) = true) (h1 : -100000 ≤ q) (h2 : q ≤ 100000) :
    Calls Try.prog 50 #[.agg #[.string s, .int .i64 a, .slice A n c], .int .i64 q] w fun e w' => e = .returned (.int .i64 (pwr (dat rs) q)) ∧ Below w.heap.size w w' := by
  have HR : Hid (∀ W, Below w.heap.size w W → Calls Try.prog 48 #[.agg #[.string s, .int .i64 a, .slice A n c], .int .i64 q] W fun e w' => e = .returned (.int .i64 (prT (dat rs) q)) ∧ Below W.heap.size W w') :=
    fun W hb => pressure_any s a A n c rs q W ((hr.below hb).more hb.size) hok (by omega)
  obtain ⟨p1, p2⟩ := pwr_in hok h1 h2
  clear hok
  go_enter Try.func50, Try.ntmps50
  go_wp2_with fail; ((with_reducible refine (HR.out _ (by (repeat (first | exact Below.refl _ _ | assumption | (refine Below.alloc ?_ (by first | exact Nat.le_refl _ | (simp; done) | (simp; omega)) _) | (refine below_drewN ?_ _) | (refine Below.trans ?_ (Below.mono (by assumption) (by first | exact Nat.le_refl _ | (simp; done) | (simp; omega) | omega))))))).mono ?_); rintro e w1 ⟨rfl, hb1⟩)
  have B1 := (show Below w.heap.size w _ by (repeat (first | exact Below.refl _ _ | assumption | (refine Below.alloc ?_ (by first | exact Nat.le_refl _ | (simp; done) | (simp; omega)) _) | (refine below_drewN ?_ _) | (refine Below.trans ?_ (Below.mono (by assumption) (by first | exact Nat.le_refl _ | (simp; done) | (simp; omega) | omega)))))).trans (hb1.mono (by simp))
  go_wp2_with fail; ((with_reducible refine (abs_any _ _ (by omega) (by omega)).mono ?_); rintro e w' ⟨rfl, rfl⟩)
  go_wp2_with fail; ((with_reducible refine (divRound_any (prT (dat rs) q * absI q) 100 _ (by omega) (by omega) (by omega) (by omega)).mono ?_); rintro e w' ⟨rfl, n3, rfl⟩)
  go_wp2
  go_ret
  exact ⟨rfl, below_drewN B1 _⟩
theorem l06Power_any (A : Option Addr) (n c : Nat) (rs : List Row) (q : Int) (p : Addr) (w : World) (hr : RSS w w.heap.size A n rs) (hok : crvOk (dat rs) = true) (h1 : -100000 ≤ q) (h2 : q ≤ 100000) (hp2 : w.cell? ⟨p.block, p.off + 2, none⟩ = some (.slice A n c)) :
    Calls Try.prog 49 #[.pointer (some p), .int .i64 q] w fun e w' => e = .returned (.int .i64 (pwr (dat rs) q)) ∧ Below w.heap.size w w' := by
  have HC := Lib.hid (l06Pressure_any A n c rs q p w hr hok (by omega) hp2)
  obtain ⟨p1, p2⟩ := pwr_in hok h1 h2
  clear hok hp2
  go_enter Try.func49, Try.ntmps49
  go_wp2_with fail; ((with_reducible refine HC.out.mono ?_); rintro e w1 ⟨rfl, hb1⟩)
  go_wp2_with fail; ((with_reducible refine (l03Abs_any _ _ (by omega) (by omega)).mono ?_); rintro e w' ⟨rfl, rfl⟩)
  go_wp2_with fail; ((with_reducible refine (l01Div_any (prT (dat rs) q * absI q) 100 _ (by omega) (by omega) (by omega) (by omega)).mono ?_); rintro e w' ⟨rfl, rfl⟩)
  go_wp2
  go_ret
  exact ⟨rfl, hb1⟩
end Go.Proofs.Ytapophggndlhaaa
