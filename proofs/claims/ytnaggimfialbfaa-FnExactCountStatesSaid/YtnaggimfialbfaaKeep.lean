/- Sets of open doors as numbers, and the contracts that test locks. -/
import Derived.Test.YtnaggimfialbfaaLkI
import Derived.Test.YtnaggimfialbfaaStates
import Derived.Laws.BitsAllLaws
import Derived.Laws.BitsLemmas
namespace Go.Proofs.Ytnaggimfialbfaa
set_option linter.unusedVariables false
set_option linter.unusedSimpArgs false
open Go.RowKit
theorem ofInt_i64 (a : Nat) (ha : a < 9223372036854775808) : (BitVec.ofInt 64 (a : Int)).toNat = a := by
  rw [BitVec.ofInt_natCast, BitVec.toNat_ofNat]; exact Nat.mod_eq_of_lt (by omega)
theorem i64_and_nat (a b : Nat) (ha : a < 9223372036854775808) (hb : b < 9223372036854775808) : bits .and .i64 (a : Int) (b : Int) = ((a &&& b : Nat) : Int) := by
  have hx : a &&& b < 2 ^ 63 := Nat.and_lt_two_pow _ (by omega)
  show IntKind.i64.wrap ((BitVec.ofInt 64 (a : Int) &&& BitVec.ofInt 64 (b : Int)).toNat : Int) = _
  rw [BitVec.toNat_and, ofInt_i64 a ha, ofInt_i64 b hb, IntKind.wrap_i64]
  omega
theorem i64_or_nat (a b : Nat) (ha : a < 9223372036854775808) (hb : b < 9223372036854775808) : bits .or .i64 (a : Int) (b : Int) = ((a ||| b : Nat) : Int) := by
  have hx : a ||| b < 2 ^ 63 := Nat.or_lt_two_pow (by omega) (by omega)
  show IntKind.i64.wrap ((BitVec.ofInt 64 (a : Int) ||| BitVec.ofInt 64 (b : Int)).toNat : Int) = _
  rw [BitVec.toNat_or, ofInt_i64 a ha, ofInt_i64 b hb, IntKind.wrap_i64]
  omega
theorem bit_eq (s a : Nat) (hs : s < 9223372036854775808) : (bits BinOp.and .i64 ((s : Int) / 2 ^ a) 1 == 1) = s.testBit a := by
  have e : ((s : Int) / 2 ^ a) = ((s / 2 ^ a : Nat) : Int) := by simp
  have hl : s / 2 ^ a ≤ s := Nat.div_le_self _ _
  have h := i64_and_nat (s / 2 ^ a) 1 (by omega) (by omega)
  rw [e]
  rw [show ((1 : Nat) : Int) = 1 from rfl] at h
  rw [h, Nat.testBit_eq_decide_div_mod_eq, Nat.and_one_is_mod]
  rw [Bool.eq_iff_iff]
  simp only [beq_iff_eq, decide_eq_true_eq]
  omega
theorem or_bit (s k : Nat) (hs : s < 256) (hk : k < 8) : bits BinOp.or .i64 (s : Int) (wrap64 (2 ^ k)) = ((s ||| 2 ^ k : Nat) : Int) := by
  have hp : 2 ^ k ≤ 2 ^ 8 := Nat.pow_le_pow_right (by omega) (by omega)
  rw [show ((2 : Int) ^ k) = ((2 ^ k : Nat) : Int) by simp]
  generalize 2 ^ k = p at *
  rw [IntWalk.wrap64_in _ (by omega)]
  exact i64_or_nat _ _ (by omega) (by omega)
def bitsN : List Bool → Nat
  | [] => 0
  | b :: t => b.toNat + 2 * bitsN t
theorem bitsN_lt : ∀ xs : List Bool, bitsN xs < 2 ^ xs.length
  | [] => by simp [bitsN]
  | b :: t => by
    have h := bitsN_lt t
    have hb : b.toNat ≤ 1 := Bool.toNat_le b
    simp only [bitsN, List.length_cons, Nat.pow_succ]
    omega
theorem bitsN_bit : ∀ (xs : List Bool) (i : Nat), (bitsN xs).testBit i = xs.getD i false
  | [], i => by simp [bitsN]
  | b :: t, 0 => by
    have hb : b.toNat ≤ 1 := Bool.toNat_le b
    rw [Nat.testBit_zero]
    simp only [bitsN, List.getD_cons_zero]
    cases b <;> simp <;> omega
  | b :: t, i + 1 => by
    have hb : b.toNat ≤ 1 := Bool.toNat_le b
    rw [Nat.testBit_succ]
    simp only [bitsN, List.getD_cons_succ]
    rw [show (b.toNat + 2 * bitsN t) / 2 = bitsN t by omega]
    exact bitsN_bit t i
theorem bitsN_one {xs : List Bool} {k : Nat} {b : Bool} (h : xs[k]? = some b) : bitsN (xs.take (k + 1)) = if b then bitsN (xs.take k) ||| 2 ^ k else bitsN (xs.take k) := by
  have hk : k < xs.length := by
    rcases Nat.lt_or_ge k xs.length with h1 | h1
    · exact h1
    · rw [List.getElem?_eq_none h1] at h; cases h
  have hg : ∀ m i, (xs.take m).getD i false = if i < m then xs.getD i false else false := by
    intro m i
    rw [List.getD_eq_getElem?_getD, List.getElem?_take]
    by_cases hi : i < m
    · rw [if_pos hi, if_pos hi, List.getD_eq_getElem?_getD]
    · rw [if_neg hi, if_neg hi]; rfl
  have hx : xs.getD k false = b := by rw [List.getD_eq_getElem?_getD, h]; rfl
  apply Nat.eq_of_testBit_eq
  intro i
  rw [bitsN_bit, hg]
  cases b with
  | true =>
    rw [if_pos rfl, Nat.testBit_or, bitsN_bit, hg, Nat.testBit_two_pow]
    by_cases h1 : i = k
    · subst h1; rw [if_pos (by omega), hx]; simp
    · by_cases h2 : i < k
      · rw [if_pos (by omega), if_pos h2, decide_eq_false (by omega)]; simp
      · rw [if_neg (by omega), if_neg h2, decide_eq_false (by omega)]; simp
  | false =>
    simp only [Bool.false_eq_true, if_false]
    rw [bitsN_bit, hg]
    by_cases h1 : i = k
    · subst h1; rw [if_pos (by omega), hx]; simp
    · by_cases h2 : i < k
      · rw [if_pos (by omega), if_pos h2]
      · rw [if_neg (by omega), if_neg h2]
/-- Whether the door at a place is open. -/
def bAt (xs : List Bool) (i : Nat) : Bool := xs.getD i false
/-- No lock has both of its doors open. -/
def keep1 (f : Nat → Bool) (l : List Int) : Bool := !(f (l.getD 0 0).toNat && f (l.getD 1 0).toNat)
def keepsB (f : Nat → Bool) (ls : List (List Int)) : Bool := ls.all (keep1 f)
theorem allUpto_of {n : Nat} {p : Nat → Bool} (h : allUpto n p = true) : ∀ k, k < n → p k = true := fun k hk => allUpto_get h hk
theorem locks_row {d : Int} {ls : List (List Int)} {l : List Int} (h : locksOk d ls = true) (hl : l ∈ ls) : l.length = 2 ∧ 0 ≤ l.getD 0 0 ∧ l.getD 0 0 < d ∧ 0 ≤ l.getD 1 0 ∧ l.getD 1 0 < d := by
  obtain ⟨k, hk⟩ := List.getElem?_of_mem hl
  have hkl : k < ls.length := by
    rcases Nat.lt_or_ge k ls.length with h1 | h1
    · exact h1
    · rw [List.getElem?_eq_none h1] at hk; cases hk
  unfold locksOk at h
  simp only [Bool.and_eq_true, decide_eq_true_eq] at h
  obtain ⟨a1, a2, a3⟩ := lk_two (allUpto_get h.2 hkl)
  obtain ⟨b1, b2, b3⟩ := lock_row hk
  have c1 := inB_t a2
  have c2 := inB_t a3
  rw [b1] at a1
  rw [b2, b3] at c2
  rw [b3] at c1
  omega
theorem locks_d {d : Int} {ls : List (List Int)} (h : locksOk d ls = true) : 0 ≤ d ∧ d ≤ 8 ∧ ls.length ≤ 12 := by
  unfold locksOk at h
  simp only [Bool.and_eq_true, decide_eq_true_eq] at h
  have := inB_t h.1.1
  omega
theorem keeps_congr {d : Nat} {ls : List (List Int)} {f g : Nat → Bool} (h : locksOk d ls = true) (hfg : ∀ i, i < d → f i = g i) : keepsB f ls = keepsB g ls := by
  unfold keepsB
  rw [Bool.eq_iff_iff, List.all_eq_true, List.all_eq_true]
  constructor
  all_goals
    intro hk l hl
    have h1 := hk l hl
    obtain ⟨_, h2, h3, h4, h5⟩ := locks_row h hl
    unfold keep1 at h1 ⊢
    have e1 := hfg (l.getD 0 0).toNat (by omega)
    have e2 := hfg (l.getD 1 0).toNat (by omega)
    first | (rw [← e1, ← e2]; exact h1) | (rw [e1, e2]; exact h1)
set_option maxHeartbeats 800000 in
theorem indexRows_any (A : Option Addr) (n c : Nat) (rs : List Row) (g : Nat) (cb : Array Value) (p : Row → Bool) (w : World) (eg : ∀ args W, (callFunc g args).run Try.prog W = .ok (.enter g args) W)
    (hr : RSS w w.heap.size A n rs) (hn : n ≤ 1099511627776)
    (hf : ∀ (W : World) (x : Row), Below w.heap.size w W → x ∈ rs → Calls Try.prog g (#[.slice x.A x.n x.c] ++ cb) W fun e w' => e = .returned (.bool (p x)) ∧ Below W.heap.size W w') :
    Calls Try.prog 99 #[.slice A n c, .func (.func g) #[] cb] w fun e w' => e = .returned (.int .i64 (idxI p rs)) ∧ Below w.heap.size w w' := by
  have HF := Lib.hid hf
  have HL := Lib.hid hr.len
  clear hf
  go_enter Try.func99, Try.ntmps99
  go_wp2
  go_loopw [8] (fun i wr => ∃ k : Nat, k ≤ n ∧ i = .int .i64 k ∧ Hid ((rs.take k).any p = false) ∧ Below w.heap.size w wr) (fun i _ => n - (intOf i).toNat)
  case atStart => exact ⟨0, by omega, rfl, by simp [Hid], Below.refl _ _⟩
  case round =>
    obtain ⟨k, hk, rfl, HK, hbw⟩ := hrel
    by_cases hlt : k < n
    · obtain ⟨ad, x, rfl, hx, hc, hrr⟩ := (hr.below hbw).at_ hlt
      have hcall := HF.out wr x hbw (mem_of_at hx)
      have HX := Lib.hid hx
      clear hx
      cases hp : p x <;> rw [hp] at hcall
      · have HP := Lib.hid hp
        clear hp
        go_wp2_with (go_at_fn g; refine hcall.mono ?_; rintro e w' ⟨rfl, hb1⟩)
        go_roundw
        case rel => exact ⟨k + 1, by omega, by go_num, any_take HX.out HK.out HP.out, hbw.trans (hb1.mono hbw.size)⟩
        case measure => simp [intOf]; omega
      · have HP := Lib.hid hp
        clear hp
        go_wp2_with (go_at_fn g; refine hcall.mono ?_; rintro e w' ⟨rfl, hb1⟩)
        go_ret
        exact ⟨ret_int (idx_at HX.out HP.out HK.out).symm, hbw.trans (hb1.mono hbw.size)⟩
    · have e : k = n := by omega
      subst e
      go_wp2
      go_ret
      have hall : rs.any p = false := by have := HK.out; rwa [List.take_of_length_le (by rw [HL.out]; omega)] at this
      exact ⟨ret_int (idx_none hall).symm, hbw⟩
theorem containsRows_any (A : Option Addr) (n c : Nat) (rs : List Row) (g : Nat) (cb : Array Value) (p : Row → Bool) (w : World) (eg : ∀ args W, (callFunc g args).run Try.prog W = .ok (.enter g args) W)
    (hr : RSS w w.heap.size A n rs) (hn : n ≤ 1099511627776)
    (hf : ∀ (W : World) (x : Row), Below w.heap.size w W → x ∈ rs → Calls Try.prog g (#[.slice x.A x.n x.c] ++ cb) W fun e w' => e = .returned (.bool (p x)) ∧ Below W.heap.size W w') :
    Calls Try.prog 80 #[.slice A n c, .func (.func g) #[] cb] w fun e w' => e = .returned (.bool (rs.any p)) ∧ Below w.heap.size w w' := by
  have hc := indexRows_any A n c rs g cb p w eg hr hn hf
  have HD := Lib.hid (idx_any (p := p) (xs := rs))
  clear hf
  go_enter Try.func80, Try.ntmps80
  go_wp2_with fail; ((with_reducible refine hc.mono ?_); rintro e w1 ⟨rfl, hb1⟩)
  go_wp2
  go_ret
  exact ⟨ret_bool HD.out, hb1⟩
theorem lockClosure_any (a b : Nat) (ra : Addr) (n c s bs : Nat) (w : World) (hs : s < 256) (ha : a ≤ 7) (hb : b ≤ 7) (hn : n = 2)
    (h0 : w.cell? ⟨bs, 0, none⟩ = some (.int .i64 s)) (c0 : w.cell? ra = some (.int .i64 a)) (c1 : w.cell? ⟨ra.block, ra.off + 1, none⟩ = some (.int .i64 b)) :
    Calls Try.prog 81 #[.slice (some ra) n c, .pointer (some ⟨bs, 0, none⟩)] w fun e w' => e = .returned (.bool (s.testBit a && s.testBit b)) ∧ Below w.heap.size w w' := by
  subst hn
  have g1 := bit_eq s a (by omega)
  have g2 := bit_eq s b (by omega)
  cases t1 : s.testBit a <;> cases t2 : s.testBit b <;> rw [t1] at g1 <;> rw [t2] at g2
  all_goals
    clear t1 t2
    go_enter Try.func81, Try.ntmps81
    go_wp2
    go_quiet (fail)
    go_wp2
    go_ret
    exact ⟨rfl, below_drewN (Below.refl _ _) _⟩
set_option maxHeartbeats 400000 in
set_option maxRecDepth 100000 in
theorem locked_any (d : Int) (s : Nat) (A : Option Addr) (n c : Nat) (rs : List Row) (w : World) (hs : s < 256) (hr : RSS w w.heap.size A n rs) (hn : n ≤ 1048576) (hok : locksOk d (dat rs) = true) :
    Calls Try.prog 55 #[.int .i64 s, .slice A n c] w fun e w' => e = .returned (.bool (keepsB s.testBit (dat rs))) ∧ Below w.heap.size w w' := by
  have hgen : ∀ (W : World) (b1 : Nat), W.cell? ⟨b1, 0, none⟩ = some (.int .i64 s) → b1 < W.heap.size → RSS W W.heap.size A n rs →
      Calls Try.prog 80 #[.slice A n c, .func (.func 81) #[] #[.pointer (some ⟨b1, 0, none⟩)]] W fun e w' => e = .returned (.bool (rs.any fun x => !keep1 s.testBit x.xs)) ∧ Below W.heap.size W w' := by
    intro W b1 h1 l1 hrW
    refine containsRows_any A n c rs 81 #[.pointer (some ⟨b1, 0, none⟩)] (fun x => !keep1 s.testBit x.xs) W (fun _ _ => rfl) hrW (by omega) fun W' x hb hx => ?_
    have hd := locks_d hok
    obtain ⟨k, hk⟩ := List.getElem?_of_mem hx
    obtain ⟨e1, e2, e3, e4, e5⟩ := locks_row hok (List.mem_of_getElem? (dat_at hk))
    obtain ⟨ra, hA, hn2, c0, _, c1⟩ := open_two ((hrW.row x hx).below hb) e1
    have i0 : x.xs.getD 0 0 = (((x.xs.getD 0 0).toNat : Nat) : Int) := by omega
    have i1 : x.xs.getD 1 0 = (((x.xs.getD 1 0).toNat : Nat) : Int) := by omega
    rw [i0] at c0
    rw [i1] at c1
    rw [hA]
    refine (lockClosure_any (x.xs.getD 0 0).toNat (x.xs.getD 1 0).toNat ra x.n x.c s b1 W' hs (by omega) (by omega) hn2 (by rw [hb.cell l1]; exact h1) c0 c1).mono ?_
    rintro e w' ⟨rfl, hb2⟩
    exact ⟨ret_bool (by unfold keep1; simp), hb2⟩
  have HG := Lib.hid hgen
  have HR := Lib.hid hr
  clear hgen hok
  go_enter Try.func55, Try.ntmps55
  go_wp2_with fail; ((with_reducible refine (HG.out _ _ (by go_simp) (by simp) (HR.out.below ((Below.refl _ _).alloc (Nat.le_refl _) _) |>.more (by simp))).mono ?_); rintro e w1 ⟨rfl, hb1⟩)
  go_wp2
  go_ret
  refine ⟨ret_bool ?_, ((Below.refl _ _).alloc (Nat.le_refl _) _).trans (hb1.mono (by simp))⟩
  rw [any_not]
  unfold keepsB dat
  rw [List.all_map]; rfl
set_option maxHeartbeats 400000 in
theorem doorSet_any (A : Option Addr) (n c : Nat) (xs : List Bool) (w : World) (hr : Reads w w.heap.size 1 A n (bools xs)) (hn : n ≤ 8) :
    Calls Try.prog 54 #[.slice A n c] w fun e w' => e = .returned (.int .i64 (bitsN xs)) ∧ w = w' := by
  have HL := Lib.hid (bools_len hr)
  go_enter Try.func54, Try.ntmps54
  go_wp2
  go_loop [3, 8] (fun s i => ∃ (k : Nat), k ≤ n ∧ i = .int .i64 k ∧ s = .int .i64 (bitsN (xs.take k))) (fun _ i => n - (intOf i).toNat)
  case atStart => exact ⟨0, by omega, rfl, by simp [bitsN]⟩
  case round =>
    obtain ⟨k, hk, rfl, rfl⟩ := hrel
    by_cases hlt : k < n
    · obtain ⟨ad, u, rfl, had, hx, hc⟩ := hr.at_ hlt
      obtain ⟨b, hb, rfl⟩ := bools_at hx
      have HX := Lib.hid (bitsN_one hb)
      have hlt2 := bitsN_lt (xs.take k)
      have hp1 : 2 ^ (xs.take k).length ≤ 2 ^ 8 := Nat.pow_le_pow_right (by omega) (by rw [List.length_take]; omega)
      have HB := Lib.hid (or_bit (bitsN (xs.take k)) k (by omega) (by omega))
      clear hb hx hlt2 hp1
      cases b
      · go_wp2
        go_round
        case rel => exact ⟨k + 1, by omega, by go_num, by rw [HX.out]; rfl⟩
        case measure => simp [intOf]; omega
      · go_wp2
        go_round
        case rel => exact ⟨k + 1, by omega, by go_num, by rw [HX.out, if_pos rfl]; exact congrArg _ HB.out⟩
        case measure => simp [intOf]; omega
    · have e : k = n := by omega
      subst e
      go_wp2
      go_ret
      exact ⟨ret_int (by rw [List.take_of_length_le (by rw [HL.out]; omega)]), rfl⟩
set_option maxHeartbeats 1600000 in
theorem l10Keeps_any (d : Int) (B : Option Addr) (m e : Nat) (xs : List Bool) (A : Option Addr) (n c : Nat) (rs : List Row) (w : World) (hs : Reads w w.heap.size 1 B m (bools xs)) (hr : RSS w w.heap.size A n rs) (hn : n ≤ 1048576) (hok : locksOk d (dat rs) = true) (hm : d = m) :
    Calls Try.prog 57 #[.slice B m e, .slice A n c] w fun e w' => e = .returned (.bool (keepsB (bAt xs) (dat rs))) ∧ w = w' := by
  subst hm
  have HO := Lib.hid hok
  have HL := Lib.hid hr.len
  have hd := locks_d hok
  clear hok
  go_enter Try.func57, Try.ntmps57
  go_wp2
  go_loop [5] (fun i => ∃ (k : Nat), k ≤ n ∧ i = .int .i64 k ∧ Hid (((dat rs).take k).all (keep1 (bAt xs)) = true)) (fun i => n - (intOf i).toNat)
  case atStart => exact ⟨0, by omega, rfl, rfl⟩
  case round =>
    obtain ⟨k, hk, rfl, HK⟩ := hrel
    by_cases hlt : k < n
    · obtain ⟨ad, x, rfl, hx, hc, hrr⟩ := hr.at_ hlt
      have hdx := dat_at hx
      obtain ⟨e1, e2, e3, e4, e5⟩ := locks_row HO.out (List.mem_of_getElem? hdx)
      obtain ⟨ra, hA, hn2, c0, c0', c1⟩ := open_two hrr e1
      obtain ⟨a, i0⟩ : ∃ a : Nat, x.xs.getD 0 0 = a := ⟨(x.xs.getD 0 0).toNat, by omega⟩
      obtain ⟨b, i1⟩ : ∃ b : Nat, x.xs.getD 1 0 = b := ⟨(x.xs.getD 1 0).toNat, by omega⟩
      rw [i0] at c0 c0' e2 e3
      rw [i1] at c1 e4 e5
      rw [hA, hn2] at hc
      obtain ⟨sd, u, rfl, hsd, hu, hcu⟩ := hs.at_ (k := a) (by omega)
      obtain ⟨sd', v, q1, hsd', hv, hcv⟩ := hs.at_ (k := b) (by omega)
      injection q1 with q1
      subst q1
      obtain ⟨p, hp, rfl⟩ := bools_at hu
      obtain ⟨q, hq, rfl⟩ := bools_at hv
      have ha : a < m := by omega
      have hb : b < m := by omega
      have HD := Lib.hid hdx
      have HV : Hid (keep1 (bAt xs) x.xs = !(p && q)) := by
        show keep1 _ _ = _
        unfold keep1
        rw [i0, i1, Int.toNat_natCast, Int.toNat_natCast]
        show (!(xs.getD a false && xs.getD b false)) = _
        rw [getD_at hp, getD_at hq]
      clear hx hdx hu hv hp hq i0 i1 hA hn2 e1
      cases p <;> cases q
      all_goals
        go_wp2
        first
        | (go_round
           case rel => exact ⟨k + 1, by omega, by go_num, all_take HD.out HK.out HV.out⟩
           case measure => simp [intOf]; omega)
        | (go_ret
           exact ⟨ret_bool (by unfold keepsB; rw [all_false HD.out HV.out]), rfl⟩)
    · have e : k = n := by omega
      subst e
      go_wp2
      go_ret
      exact ⟨ret_bool (by unfold keepsB; rw [all_whole (by rw [dat_len]; exact HL.out) HK.out]), rfl⟩
def lockedB (xs : List Bool) (ls : List (List Int)) : Bool := locksOk xs.length ls && keepsB (bAt xs) ls
theorem lockedB_t {xs : List Bool} {ls : List (List Int)} (h : locksOk xs.length ls = true) : lockedB xs ls = keepsB (bAt xs) ls := by unfold lockedB; rw [h]; rfl
theorem lockedB_f {xs : List Bool} {ls : List (List Int)} (h : locksOk xs.length ls = false) : lockedB xs ls = false := by unfold lockedB; rw [h]; rfl
theorem l10Locked_any (B : Option Addr) (m e : Nat) (xs : List Bool) (A : Option Addr) (n c : Nat) (rs : List Row) (w : World) (hs : Reads w w.heap.size 1 B m (bools xs)) (hm : m ≤ 1048576) (hr : RSS w w.heap.size A n rs) (hn : n ≤ 1048576) (hrn : ∀ r ∈ rs, r.n ≤ 1048576) :
    Calls Try.prog 53 #[.slice B m e, .slice A n c] w fun e w' => e = .returned (.bool (lockedB xs (dat rs))) ∧ Below w.heap.size w w' := by
  have HM := Lib.hid hrn
  have hl := bools_len hs
  obtain rfl := hl.symm
  clear hrn
  have c1 := l10Locks_any (xs.length : Int) A n c rs w hr hn HM.out
  rcases Bool.eq_false_or_eq_true (locksOk xs.length (dat rs)) with h | h
  · have HV := Lib.hid (lockedB_t h)
    have HO := Lib.hid h
    rw [h] at c1
    clear h
    go_enter Try.func53, Try.ntmps53
    go_wp2_with fail; ((with_reducible refine c1.mono ?_); rintro e w1 ⟨rfl, hb1⟩)
    go_wp2_with fail; ((with_reducible refine (l10Keeps_any _ B xs.length _ xs A n c rs _ ((hs.below hb1).more hb1.size) ((hr.below hb1).more hb1.size) hn HO.out rfl).mono ?_); rintro e w' ⟨rfl, rfl⟩)
    go_wp2
    go_ret
    exact ⟨ret_bool HV.out.symm, hb1⟩
  · have HV := Lib.hid (lockedB_f h)
    rw [h] at c1
    clear h
    go_enter Try.func53, Try.ntmps53
    go_wp2_with fail; ((with_reducible refine c1.mono ?_); rintro e w1 ⟨rfl, hb1⟩)
    go_wp2
    go_ret
    exact ⟨ret_bool HV.out.symm, hb1⟩
theorem specAreLocked_any (B : Option Addr) (m e : Nat) (xs : List Bool) (A : Option Addr) (n c : Nat) (rs : List Row) (w : World) (hs : Reads w w.heap.size 1 B m (bools xs)) (hm : m ≤ 1048576) (hr : RSS w w.heap.size A n rs) (hn : n ≤ 1048576) (hrn : ∀ r ∈ rs, r.n ≤ 1048576) :
    Calls Try.prog 17 #[.slice B m e, .slice A n c] w fun e w' => e = .returned (.bool (lockedB xs (dat rs))) ∧ Below w.heap.size w w' := by
  have c1 := l10Locked_any B m e xs A n c rs w hs hm hr hn hrn
  clear hrn
  go_enter Try.func17, Try.ntmps17
  go_wp2_with fail; ((with_reducible refine c1.mono ?_); rintro e w1 ⟨rfl, hb1⟩)
  go_wp2
  go_ret
  exact ⟨rfl, hb1⟩
theorem bits_small {xs : List Bool} (h : xs.length ≤ 8) : bitsN xs < 256 := by
  have h1 := bitsN_lt xs
  have h2 : 2 ^ xs.length ≤ 2 ^ 8 := Nat.pow_le_pow_right (by omega) h
  omega
theorem implAreLocked_any (B : Option Addr) (m e : Nat) (xs : List Bool) (A : Option Addr) (n c : Nat) (rs : List Row) (w : World) (hs : Reads w w.heap.size 1 B m (bools xs)) (hm : m ≤ 1048576) (hr : RSS w w.heap.size A n rs) (hn : n ≤ 1048576) (hrn : ∀ r ∈ rs, r.n ≤ 1048576) :
    Calls Try.prog 19 #[.slice B m e, .slice A n c] w fun e w' => e = .returned (.bool (lockedB xs (dat rs))) ∧ Below w.heap.size w w' := by
  have HM := Lib.hid hrn
  have hl := bools_len hs
  obtain rfl := hl.symm
  clear hrn
  have c1 := implLocks_any (xs.length : Int) A n c rs w hr hn HM.out
  rcases Bool.eq_false_or_eq_true (locksOk xs.length (dat rs)) with h | h
  · have HV := Lib.hid (lockedB_t h)
    have HO := Lib.hid h
    have hd := locks_d h
    have hx : xs.length ≤ 8 := by omega
    have HE : Hid (keepsB (bitsN xs).testBit (dat rs) = keepsB (bAt xs) (dat rs)) := by
      show keepsB _ _ = _
      rw [show (bitsN xs).testBit = bAt xs from funext fun i => bitsN_bit xs i]
    rw [h] at c1
    clear h
    go_enter Try.func19, Try.ntmps19
    go_wp2_with fail; ((with_reducible refine c1.mono ?_); rintro e w1 ⟨rfl, hb1⟩)
    go_wp2_with fail; ((with_reducible refine (doorSet_any B xs.length _ xs _ ((hs.below hb1).more hb1.size) hx).mono ?_); rintro e w' ⟨rfl, rfl⟩)
    go_wp2_with fail; ((with_reducible refine (locked_any _ (bitsN xs) A n c rs _ (bits_small hx) ((hr.below hb1).more hb1.size) hn HO.out).mono ?_); rintro e w2 ⟨rfl, hb2⟩)
    go_wp2
    go_ret
    exact ⟨ret_bool (by rw [HV.out, HE.out]), hb1.trans (hb2.mono hb1.size)⟩
  · have HV := Lib.hid (lockedB_f h)
    rw [h] at c1
    clear h
    go_enter Try.func19, Try.ntmps19
    go_wp2_with fail; ((with_reducible refine c1.mono ?_); rintro e w1 ⟨rfl, hb1⟩)
    go_wp2
    go_ret
    exact ⟨ret_bool HV.out.symm, hb1⟩
def stL (d s : Nat) : List Bool := (List.range d).map s.testBit
theorem stL_len (d s : Nat) : (stL d s).length = d := by simp [stL]
theorem stL_snoc (k s : Nat) : bools (stL (k + 1) s) = bools (stL k s) ++ [.bool (s.testBit k)] := by simp [stL, bools, List.range_succ]
theorem stL_at {d s i : Nat} (h : i < d) : bAt (stL d s) i = s.testBit i := by
  unfold bAt stL
  rw [List.getD_eq_getElem?_getD, List.getElem?_map, List.getElem?_range h]; rfl
set_option maxHeartbeats 800000 in
theorem l10States_any (d s : Nat) (w : World) (hd : d ≤ 8) (hs : s < 256) :
    Calls Try.prog 58 #[.int .i64 d, .int .i64 s] w fun e w' => ∃ A' c', e = .returned (.slice A' d c') ∧ w'.ownsRow w.heap.size 4 1 (.slice A' d c') d (bools (stL d s)) ∧ Below w.heap.size w w' := by
  obtain ⟨i0, hi0, hz0, hz1, hz2⟩ := info_parts info_BoolS
  go_enter Try.func58, Try.ntmps58
  go_wp2
  go_loopw [5, 6] (fun o i wr => ∃ (k : Nat) (A' : Option Addr) (c' : Nat), k ≤ d ∧ o = .slice A' k c' ∧ i = .int .i64 k ∧ wr.ownsRow w.heap.size 4 1 (.slice A' k c') k (bools (stL k s)) ∧ Below w.heap.size w wr) (fun _ i _ => d - (intOf i).toNat)
  case atStart => exact ⟨0, _, 0, by omega, rfl, rfl, own_empty _ _ _, by (repeat (first | exact Below.refl _ _ | assumption | (refine Below.alloc ?_ (by first | exact Nat.le_refl _ | (simp; done) | (simp; omega)) _) | (refine below_drewN ?_ _) | (refine Below.trans ?_ (Below.mono (by assumption) (by first | exact Nat.le_refl _ | (simp; done) | (simp; omega) | omega)))))⟩
  case round =>
    obtain ⟨k, A', c', hk, rfl, rfl, hown, hbr⟩ := hrel
    by_cases hlt : k < d
    · have e1 := bit_eq s k (by omega)
      go_wp2_with (at_builtin; (refine wpList_app _ rfl _ _ 27 rfl w.heap.size 4 i0 _ 1 1 Try.underlying27 hi0 hz0 hz1 hz2 rfl (by omega) A' _ c' _ rfl ((hown).alloc _) ⟨_, 0, none⟩ 1 1 [.bool (s.testBit k)] rfl rfl (cell_one_new _ _ _) (by simp [Value.oneCell']) (by unfold maxLen; omega) (by omega) (by have hz := (hbr).size; simp at hz ⊢; omega) ?_); intro A1 c1 w2 ho2 hb2)
      go_roundw
      case rel => exact ⟨k + 1, A1, c1, by omega, by first | rfl | go_num, by go_num, by rw [stL_snoc]; exact ho2, (hbr.alloc hbr.size _).trans hb2⟩
      case measure => simp [intOf]; omega
    · have e : k = d := by omega
      subst e
      go_wp2
      go_ret
      exact ⟨A', c', rfl, hown, hbr⟩
def cntN (p : Nat → Bool) : Nat → Nat
  | 0 => 0
  | k + 1 => cntN p k + (p k).toNat
theorem cntN_le (p : Nat → Bool) : ∀ n, cntN p n ≤ n
  | 0 => by simp [cntN]
  | k + 1 => by
    have h := cntN_le p k
    have hb := Bool.toNat_le (p k)
    simp only [cntN]; omega
theorem cntN_y {p : Nat → Bool} {k : Nat} (h : p k = true) : ((cntN p (k + 1) : Nat) : Int) = (cntN p k : Int) + 1 := by simp [cntN, h]
theorem cntN_n {p : Nat → Bool} {k : Nat} (h : p k = false) : ((cntN p (k + 1) : Nat) : Int) = (cntN p k : Int) := by simp [cntN, h]
def kpN (ls : List (List Int)) (s : Nat) : Bool := keepsB s.testBit ls
def csR (d : Int) (ls : List (List Int)) : Int × Int := if inB d 0 8 = true then (if locksOk d ls = true then (((cntN (kpN ls) (2 ^ d.toNat) : Nat) : Int), 0) else (0, 1)) else (0, 2)
theorem csR_n {d : Int} {ls : List (List Int)} (h : inB d 0 8 = false) : csR d ls = (0, 2) := by unfold csR; rw [h]; rfl
theorem csR_i {d : Int} {ls : List (List Int)} (h : inB d 0 8 = true) (h1 : locksOk d ls = false) : csR d ls = (0, 1) := by unfold csR; rw [h, h1]; rfl
theorem csR_y {d N : Nat} {ls : List (List Int)} (h : inB d 0 8 = true) (h1 : locksOk d ls = true) (hN : N = 2 ^ d) : csR d ls = (((cntN (kpN ls) N : Nat) : Int), 0) := by
  unfold csR; rw [if_pos h, if_pos h1, hN, Int.toNat_natCast]
theorem shl_one {d N : Nat} (hd : d ≤ 8) (hN : N = 2 ^ d) : N ≤ 256 ∧ wrap64 (2 ^ d) = (N : Int) := by
  have hp : 2 ^ d ≤ 2 ^ 8 := Nat.pow_le_pow_right (by omega) hd
  rw [show ((2 : Int) ^ d) = ((2 ^ d : Nat) : Int) by simp, ← hN, IntWalk.wrap64_in _ (by omega)]
  exact ⟨by omega, rfl⟩
theorem shl_one' {d N : Nat} (hd : d ≤ 8) (hN : N = 2 ^ d) : IntKind.i64.wrap (2 ^ d) = (N : Int) := by rw [IntWalk.i64_left]; exact (shl_one hd hN).2
set_option maxHeartbeats 1600000 in
theorem specCountStates_any (d : Int) (A : Option Addr) (n c : Nat) (rs : List Row) (w : World) (hr : RSS w w.heap.size A n rs) (hn : n ≤ 1048576) (hrn : ∀ r ∈ rs, r.n ≤ 1048576) :
    Calls Try.prog 21 #[.int .i64 d, .slice A n c] w fun e w' => e = .returned (.tuple #[.int .i64 (csR d (dat rs)).1, .int .i64 (csR d (dat rs)).2]) ∧ Below w.heap.size w w' := by
  have HM := Lib.hid hrn
  clear hrn
  have c1 := l10Locks_any d A n c rs w hr hn HM.out
  rcases Bool.eq_false_or_eq_true (inB d 0 8) with hd | hd
  · rcases Bool.eq_false_or_eq_true (locksOk d (dat rs)) with h | h
    · have h08 := inB_t hd
      obtain ⟨D, rfl⟩ : ∃ D : Nat, d = D := ⟨d.toNat, by omega⟩
      obtain ⟨N, HN⟩ : ∃ N : Nat, Hid (N = 2 ^ D) := ⟨_, rfl⟩
      obtain ⟨N1, N2⟩ := shl_one (by omega : D ≤ 8) HN.out
      have N3 := shl_one' (by omega : D ≤ 8) HN.out
      have HE := Lib.hid (csR_y hd h HN.out)
      have HO := Lib.hid h
      rw [h] at c1
      clear h
      go_enter Try.func21, Try.ntmps21
      go_wp2_with fail; ((with_reducible refine (l00In_any _ _ _ _).mono ?_); rintro e w' ⟨rfl, rfl⟩)
      rw [hd]
      go_wp2_with fail; ((with_reducible refine c1.mono ?_); rintro e w1 ⟨rfl, hb1⟩)
      go_wp2
      go_loopw [6, 7] (fun m b wr => ∃ (k : Nat), k ≤ N ∧ b = .int .i64 k ∧ m = .int .i64 (cntN (kpN (dat rs)) k : Nat) ∧ Below w.heap.size w wr) (fun _ b _ => N - (intOf b).toNat)
      case atStart => exact ⟨0, by omega, rfl, rfl, hb1⟩
      case round =>
        obtain ⟨k, hk, rfl, rfl, hbr⟩ := hrel
        by_cases hlt : k < N
        · have hcl := cntN_le (kpN (dat rs)) k
          have HK : Hid (keepsB (bAt (stL D k)) (dat rs) = kpN (dat rs) k) := show _ = _ from keeps_congr HO.out fun i hi => stL_at hi
          go_wp2_with fail; ((with_reducible refine (l10States_any D k _ (by omega) (by omega)).mono ?_); rintro e w2 ⟨A2, c2, rfl, ho2, hb2⟩)
          have B2 := hbr.trans (hb2.mono hbr.size)
          go_wp2_with fail; ((with_reducible refine (l10Keeps_any D _ D c2 (stL D k) A n c rs _ (Reads.of_own ho2) ((hr.below B2).more B2.size) hn HO.out rfl).mono ?_); rintro e w' ⟨rfl, rfl⟩)
          rw [HK.out]
          cases hp : kpN (dat rs) k
          · have HP := Lib.hid (cntN_n hp)
            clear hp
            go_wp2
            go_roundw
            case rel => exact ⟨k + 1, by omega, by go_num, by rw [HP.out], B2⟩
            case measure => simp [intOf]; omega
          · have HP := Lib.hid (cntN_y hp)
            clear hp
            go_wp2
            go_roundw
            case rel => exact ⟨k + 1, by omega, by go_num, by rw [HP.out], B2⟩
            case measure => simp [intOf]; omega
        · have e : k = N := by omega
          subst e
          go_wp2
          go_ret2
          exact ⟨by rw [HE.out]; try rfl, hbr⟩
    · have HE := Lib.hid (csR_i hd h)
      rw [h] at c1
      clear h
      go_enter Try.func21, Try.ntmps21
      go_wp2_with fail; ((with_reducible refine (l00In_any _ _ _ _).mono ?_); rintro e w' ⟨rfl, rfl⟩)
      rw [hd]
      go_wp2_with fail; ((with_reducible refine c1.mono ?_); rintro e w1 ⟨rfl, hb1⟩)
      go_wp2
      go_ret2
      exact ⟨by rw [HE.out]; try rfl, hb1⟩
  · have HE := Lib.hid (csR_n (ls := dat rs) hd)
    go_enter Try.func21, Try.ntmps21
    go_wp2_with fail; ((with_reducible refine (l00In_any _ _ _ _).mono ?_); rintro e w' ⟨rfl, rfl⟩)
    rw [hd]
    go_wp2
    go_ret2
    exact ⟨by rw [HE.out]; try rfl, Below.refl _ _⟩
set_option maxHeartbeats 1600000 in
theorem implCountStates_any (d : Int) (A : Option Addr) (n c : Nat) (rs : List Row) (w : World) (hr : RSS w w.heap.size A n rs) (hn : n ≤ 1048576) (hrn : ∀ r ∈ rs, r.n ≤ 1048576) :
    Calls Try.prog 22 #[.int .i64 d, .slice A n c] w fun e w' => e = .returned (.tuple #[.int .i64 (csR d (dat rs)).1, .int .i64 (csR d (dat rs)).2]) ∧ Below w.heap.size w w' := by
  have HM := Lib.hid hrn
  clear hrn
  have c1 := implLocks_any d A n c rs w hr hn HM.out
  rcases Bool.eq_false_or_eq_true (inB d 0 8) with hd | hd
  · rcases Bool.eq_false_or_eq_true (locksOk d (dat rs)) with h | h
    · have h08 := inB_t hd
      obtain ⟨D, rfl⟩ : ∃ D : Nat, d = D := ⟨d.toNat, by omega⟩
      obtain ⟨N, HN⟩ : ∃ N : Nat, Hid (N = 2 ^ D) := ⟨_, rfl⟩
      obtain ⟨N1, N2⟩ := shl_one (by omega : D ≤ 8) HN.out
      have N3 := shl_one' (by omega : D ≤ 8) HN.out
      have HE := Lib.hid (csR_y hd h HN.out)
      have HO := Lib.hid h
      rw [h] at c1
      clear h
      go_enter Try.func22, Try.ntmps22
      go_wp2_with fail; ((with_reducible refine (within_any _ _ _ _).mono ?_); rintro e w' ⟨rfl, rfl⟩)
      rw [hd]
      go_wp2_with fail; ((with_reducible refine c1.mono ?_); rintro e w1 ⟨rfl, hb1⟩)
      go_wp2
      go_loopw [6, 19] (fun m b wr => ∃ (k : Nat), k ≤ N ∧ b = .int .i64 k ∧ m = .int .i64 (cntN (kpN (dat rs)) k : Nat) ∧ Below w.heap.size w wr) (fun _ b _ => N - (intOf b).toNat)
      case atStart => exact ⟨0, by omega, rfl, rfl, hb1⟩
      case round =>
        obtain ⟨k, hk, rfl, rfl, hbr⟩ := hrel
        by_cases hlt : k < N
        · have hcl := cntN_le (kpN (dat rs)) k
          go_wp2_with fail; ((with_reducible refine (locked_any D k A n c rs _ (by omega) ((hr.below hbr).more hbr.size) hn HO.out).mono ?_); rintro e w2 ⟨rfl, hb2⟩)
          have B2 := hbr.trans (hb2.mono hbr.size)
          cases hp : kpN (dat rs) k
          · have HP := Lib.hid (cntN_n hp)
            rw [show keepsB k.testBit (dat rs) = false from hp]
            clear hp
            go_wp2
            go_roundw
            case rel => exact ⟨k + 1, by omega, by go_num, by rw [HP.out], B2⟩
            case measure => simp [intOf]; omega
          · have HP := Lib.hid (cntN_y hp)
            rw [show keepsB k.testBit (dat rs) = true from hp]
            clear hp
            go_wp2
            go_roundw
            case rel => exact ⟨k + 1, by omega, by go_num, by rw [HP.out], B2⟩
            case measure => simp [intOf]; omega
        · have e : k = N := by omega
          subst e
          go_wp2
          go_ret2
          exact ⟨by rw [HE.out]; try rfl, hbr⟩
    · have HE := Lib.hid (csR_i hd h)
      rw [h] at c1
      clear h
      go_enter Try.func22, Try.ntmps22
      go_wp2_with fail; ((with_reducible refine (within_any _ _ _ _).mono ?_); rintro e w' ⟨rfl, rfl⟩)
      rw [hd]
      go_wp2_with fail; ((with_reducible refine c1.mono ?_); rintro e w1 ⟨rfl, hb1⟩)
      go_wp2
      go_ret2
      exact ⟨by rw [HE.out]; try rfl, hb1⟩
  · have HE := Lib.hid (csR_n (ls := dat rs) hd)
    go_enter Try.func22, Try.ntmps22
    go_wp2_with fail; ((with_reducible refine (within_any _ _ _ _).mono ?_); rintro e w' ⟨rfl, rfl⟩)
    rw [hd]
    go_wp2
    go_ret2
    exact ⟨by rw [HE.out]; try rfl, Below.refl _ _⟩
end Go.Proofs.Ytnaggimfialbfaa
