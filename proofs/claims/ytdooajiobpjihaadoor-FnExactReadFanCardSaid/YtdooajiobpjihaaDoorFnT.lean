/- Contracts of fans as text, both sides. -/
import Derived.Test.YtdooajiobpjihaaDoorTxtC
import Derived.Test.YtdooajiobpjihaaDoorFanS
import Derived.Test.YtdooajiobpjihaaDoorNb
namespace Go.Proofs.YtdooajiobpjihaaDoor
set_option linter.unusedVariables false
set_option linter.unusedSimpArgs false
open Go.RowKit
/-- The text of a fan with its first points. -/
def fnP (s : ByteArray) (a : Int) (ls : List (List Int)) : Nat → ByteArray
  | 0 => s ++ ⟨#[32]⟩ ++ decS a
  | k + 1 => fnP s a ls k ++ (⟨#[32]⟩ ++ decS (lockA ls k) ++ ⟨#[58]⟩ ++ decS (lockB ls k))
def fnT (s : ByteArray) (a : Int) (ls : List (List Int)) : ByteArray := if fanOk s a ls = true then fnP s a ls ls.length else ⟨#[]⟩
theorem fnT_y {s : ByteArray} {a : Int} {ls : List (List Int)} (h : fanOk s a ls = true) : fnT s a ls = fnP s a ls ls.length := if_pos h
theorem fnT_n {s : ByteArray} {a : Int} {ls : List (List Int)} (h : fanOk s a ls = false) : fnT s a ls = ⟨#[]⟩ := if_neg (by rw [h]; simp)
theorem isName_le {s : ByteArray} (h : isName s = true) : s.size ≤ 10 := by
  by_cases h1 : s.size ≤ 10
  · exact h1
  · rw [isName_len (by omega)] at h; cases h
theorem fan_name {s : ByteArray} {a : Int} {ls : List (List Int)} (h : fanOk s a ls = true) : s.size ≤ 1048576 := by have := isName_le (fanOk_t h).1; omega
theorem fnP_z (s : ByteArray) (a : Int) (ls : List (List Int)) : fnP s a ls 0 = s ++ ⟨#[32]⟩ ++ decS a := rfl
theorem fnP_s (s : ByteArray) (a : Int) (ls : List (List Int)) (k : Nat) : fnP s a ls (k + 1) = fnP s a ls k ++ (⟨#[32]⟩ ++ decS (lockA ls k) ++ ⟨#[58]⟩ ++ decS (lockB ls k)) := rfl
theorem fnP_len {s : ByteArray} {a : Int} {ls : List (List Int)} (hs : s.size ≤ 1048576) (ha : 0 ≤ a ∧ a ≤ 23) (h : ∀ k, k < ls.length → crvAt ls k = true) : ∀ k, k ≤ ls.length → (fnP s a ls k).size ≤ 1048598 + 44 * k
  | 0, _ => by
    have hd := itoa_len (n := a) (by omega) (by omega)
    rw [fnP_z, ba_app_size, ba_app_size, show (⟨#[32]⟩ : ByteArray).size = 1 from rfl]; omega
  | k + 1, hk => by
    have ih := fnP_len hs ha h k (by omega)
    obtain ⟨_, b1, b2, b3, b4, _⟩ := crv_t (h k (by omega))
    have d0 := itoa_len (n := lockA ls k) (by omega) (by omega)
    have d1 := itoa_len (n := lockB ls k) (by omega) (by omega)
    rw [fnP_s, ba_app_size, ba_app_size, ba_app_size, ba_app_size, show (⟨#[32]⟩ : ByteArray).size = 1 from rfl, show (⟨#[58]⟩ : ByteArray).size = 1 from rfl]; omega
theorem four_sums {jk d0 d1 : ByteArray} (hj : jk.size ≤ 1049000) (h0 : d0.size ≤ 21) (h1 : d1.size ≤ 21) :
    (∀ W : World, (Op.stringOp .add ⟨#[32]⟩ d0).run Tryd.prog W = .ok (.string (⟨#[32]⟩ ++ d0)) W) ∧
    (∀ W : World, (Op.stringOp .add (⟨#[32]⟩ ++ d0) ⟨#[58]⟩).run Tryd.prog W = .ok (.string (⟨#[32]⟩ ++ d0 ++ ⟨#[58]⟩)) W) ∧
    (∀ W : World, (Op.stringOp .add (⟨#[32]⟩ ++ d0 ++ ⟨#[58]⟩) d1).run Tryd.prog W = .ok (.string (⟨#[32]⟩ ++ d0 ++ ⟨#[58]⟩ ++ d1)) W) ∧
    (∀ W : World, (Op.stringOp .add jk (⟨#[32]⟩ ++ d0 ++ ⟨#[58]⟩ ++ d1)).run Tryd.prog W = .ok (.string (jk ++ (⟨#[32]⟩ ++ d0 ++ ⟨#[58]⟩ ++ d1))) W) := by
  have e0 : (⟨#[32]⟩ : ByteArray).size = 1 := rfl
  have e1 : (⟨#[58]⟩ : ByteArray).size = 1 := rfl
  have s1 : (⟨#[32]⟩ ++ d0 : ByteArray).size ≤ 22 := by rw [ba_app_size, e0]; omega
  have s2 : (⟨#[32]⟩ ++ d0 ++ ⟨#[58]⟩ : ByteArray).size ≤ 23 := by rw [ba_app_size, e1]; omega
  have s3 : (⟨#[32]⟩ ++ d0 ++ ⟨#[58]⟩ ++ d1 : ByteArray).size ≤ 44 := by rw [ba_app_size]; omega
  refine ⟨fun W => run_string_add_sum W _ _ (by omega), fun W => run_string_add_sum W _ _ (by omega), fun W => run_string_add_sum W _ _ (by omega), fun W => run_string_add_sum W _ _ (by omega)⟩
theorem two_sums {s d : ByteArray} (hs : s.size ≤ 1048576) (h : d.size ≤ 21) :
    (∀ W : World, (Op.stringOp .add s ⟨#[32]⟩).run Tryd.prog W = .ok (.string (s ++ ⟨#[32]⟩)) W) ∧ (∀ W : World, (Op.stringOp .add (s ++ ⟨#[32]⟩) d).run Tryd.prog W = .ok (.string (s ++ ⟨#[32]⟩ ++ d)) W) := by
  have e0 : (⟨#[32]⟩ : ByteArray).size = 1 := rfl
  have s1 : (s ++ ⟨#[32]⟩ : ByteArray).size ≤ 1048577 := by rw [ba_app_size, e0]; omega
  exact ⟨fun W => run_string_add_sum W _ _ (by omega), fun W => run_string_add_sum W _ _ (by omega)⟩
set_option maxHeartbeats 3200000 in
set_option maxRecDepth 100000 in
theorem l06Text_any (s : ByteArray) (a : Int) (A : Option Addr) (n c : Nat) (rs : List Row) (p : Addr) (w : World) (hs : s.size ≤ 1048576) (hr : RSS w w.heap.size A n rs) (hc : Cells w p [.string s, .int .i64 a, .slice A n c]) (hok : fanOk s a (dat rs) = true) :
    Calls Tryd.prog 39 #[.pointer (some p)] w fun e w' => e = .returned (.string (fnT s a (dat rs))) ∧ Below w.heap.size w w' := by
  have h0 := hc.z rfl
  have h1 := hc.at_ 0 rfl
  have h2 := hc.at_ 1 rfl
  obtain ⟨_, ⟨a1, a2⟩, hcv⟩ := fanOk_t hok
  obtain ⟨l1, l2, hK⟩ := crvOk_t hcv
  have hln : (dat rs).length = n := by rw [dat_len]; exact hr.len
  rw [hln] at l1 l2
  have HV : Hid (fnT s a (dat rs) = fnP s a (dat rs) n) := show _ = _ by rw [fnT_y hok, hln]
  have HK : Hid (∀ k, k < n → crvAt (dat rs) k = true) := fun k hk => hK k (by rw [hln]; exact hk)
  have HP : Hid (∀ k, k ≤ n → (fnP s a (dat rs) k).size ≤ 1048598 + 44 * k) := fun k hk => fnP_len hs ⟨a1, a2⟩ hK k (by rw [hln]; exact hk)
  have HPz := Lib.hid (fnP_z s a (dat rs))
  have hda := itoa_len (n := a) (by omega) (by omega)
  have HD : Hid (∀ W : World, Calls Tryd.prog 62 #[.int .i64 a] W fun e w' => e = .returned (.string (decS a)) ∧ Below W.heap.size W w') := fun W => l01Dec_any a W (by omega) (by omega)
  obtain ⟨q1, q2⟩ := two_sums hs hda
  clear hc hok hcv hK hln
  generalize decS a = da at *
  go_enter Tryd.func39, Tryd.ntmps39
  go_wp2
  have m1_0 := nb_cell h0 (block_lt_of_cell h0); have m1_1 := nb_cell h1 (block_lt_of_cell h1); (refine wp_region_nb (by kernel_rfl) (by kernel_rfl) ?_); (repeat (go_big_quiet_step (((go_at_call 62; exact nb_call (HD.out _)))))); (refine wpQuiet_nil ?_); intro w1 hw1; have hb1 := nb_out hw1; clear hw1 m1_0 m1_1
  clear q1 q2 hda
  rw [← HPz.out]
  go_wp2
  go_loopw [3, 4] (fun o i wr => ∃ k : Nat, k ≤ n ∧ i = .int .i64 k ∧ o = .string (fnP s a (dat rs) k) ∧ Below w.heap.size w wr) (fun _ i _ => n - (intOf i).toNat)
  case atStart => exact ⟨0, by omega, rfl, rfl, hb1⟩
  case round =>
    obtain ⟨k, hk, rfl, rfl, hbr⟩ := hrel
    obtain ⟨wo, rfl⟩ : ∃ wo : World, wo = wr := ⟨_, rfl⟩
    have f2 := (hbr.cell (block_lt_of_cell h2)).trans h2
    by_cases hlt : k < n
    · obtain ⟨ad, r, rfl, hx, hc, hrr⟩ := (hr.below hbr).at_ hlt
      obtain ⟨x1, x2, x3⟩ := lock_row (dat_at hx)
      obtain ⟨e1, b1, b2, b3, b4, _⟩ := crv_t (HK.out k hlt)
      obtain ⟨ra, hra, hn2, c0, c0', c1⟩ := open_two hrr (by rw [← x1]; exact e1)
      rw [← x2] at c0 c0'
      rw [← x3] at c1
      rw [hra] at hc
      have hrn0 : (0 : Int) < (r.n : Int) := by omega
      have hrn1 : (1 : Int) < (r.n : Int) := by omega
      have hcz : wo.cell? (ad.add k) = some (.slice (some ra) r.n r.c) := hc
      have HS := Lib.hid (fnP_s s a (dat rs) k)
      have d0 := itoa_len (n := lockA (dat rs) k) (by omega) (by omega)
      have d1 := itoa_len (n := lockB (dat rs) k) (by omega) (by omega)
      have hj := HP.out k hk
      obtain ⟨q1, q2, q3, q4⟩ := four_sums (jk := fnP s a (dat rs) k) (by omega) d0 d1
      have HD0 : Hid (∀ t : NB wo, Calls Tryd.prog 62 #[.int .i64 (lockA (dat rs) k)] t.w fun e w' => e = .returned (.string (decS (lockA (dat rs) k))) ∧ Below t.w.heap.size t.w w') := fun t => l01Dec_any _ t.w (by omega) (by omega)
      have HD1 : Hid (∀ t : NB wo, Calls Tryd.prog 62 #[.int .i64 (lockB (dat rs) k)] t.w fun e w' => e = .returned (.string (decS (lockB (dat rs) k))) ∧ Below t.w.heap.size t.w w') := fun t => l01Dec_any _ t.w (by omega) (by omega)
      clear x1 x2 x3 hra e1 b1 b2 b3 b4 hx hc hj d0 d1
      generalize fnP s a (dat rs) k = jk at *
      generalize decS (lockA (dat rs) k) = dx at *
      generalize decS (lockB (dat rs) k) = dy at *
      generalize lockA (dat rs) k = vx at *
      generalize lockB (dat rs) k = vy at *
      go_wp2
      have m3_0 := nb_cell f2 (block_lt_of_cell f2); have m3_1 := nb_cell hcz (block_lt_of_cell hcz); have m3_2 := nb_cell c0 (block_lt_of_cell c0); have m3_3 := nb_cell c0' (block_lt_of_cell c0'); have m3_4 := nb_cell c1 (block_lt_of_cell c1); (refine wp_region_nb (by kernel_rfl) (by kernel_rfl) ?_); (repeat (go_big_quiet_step (((go_at_call 62; first | with_reducible exact nb_call (HD0.out _) | with_reducible exact nb_call (HD1.out _)))))); (refine wpQuiet_nil ?_); intro w3 hw3; have hb3 := nb_out hw3; clear hw3 m3_0 m3_1 m3_2 m3_3 m3_4
      go_wp2
      go_roundw
      case rel => exact ⟨k + 1, by omega, by go_num, by rw [HS.out], hbr.trans (hb3.mono hbr.size)⟩
      case measure => simp [intOf]; omega
    · have e : k = n := by omega
      rw [e, ← HV.out]
      clear e
      go_wp2
      go_ret
      exact ⟨rfl, hbr⟩
set_option maxHeartbeats 800000 in
theorem specFanText_any (s : ByteArray) (a : Int) (A : Option Addr) (n c : Nat) (rs : List Row) (w : World) (hs : s.size ≤ maxLen) (hr0 : RSS w w.heap.size A n rs) (hn : n ≤ 1048576) (hrn : ∀ r ∈ rs, r.n ≤ 1048576) :
    Calls Tryd.prog 16 #[.agg #[.string s, .int .i64 a, .slice A n c]] w fun e w' => e = .returned (.string (fnT s a (dat rs))) ∧ Below w.heap.size w w' := by
  have hb : Below w.heap.size w (w.alloc (.cells #[.string s, .int .i64 a, .slice A n c] 38)) := (Below.refl _ _).alloc (Nat.le_refl _) _
  have hr := (hr0.below hb).more hb.size
  have hc : Cells (w.alloc (.cells #[.string s, .int .i64 a, .slice A n c] 38)) ⟨w.heap.size, 0, none⟩ [.string s, .int .i64 a, .slice A n c] := Cells.new w _ _
  have c1 := l06Ok_any s a A n c rs ⟨w.heap.size, 0, none⟩ _ hs hr hn hrn hc
  have z0 : w.heap.size < (w.alloc (.cells #[.string s, .int .i64 a, .slice A n c] 38)).heap.size := by simp
  rcases Bool.eq_false_or_eq_true (fanOk s a (dat rs)) with k | k
  · have HT : Hid (∀ W, Below (w.alloc (.cells #[.string s, .int .i64 a, .slice A n c] 38)).heap.size (w.alloc (.cells #[.string s, .int .i64 a, .slice A n c] 38)) W → Calls Tryd.prog 39 #[.pointer (some ⟨w.heap.size, 0, none⟩)] W fun e w' => e = .returned (.string (fnT s a (dat rs))) ∧ Below w.heap.size w w') := fun W hbW =>
      (l06Text_any s a A n c rs ⟨w.heap.size, 0, none⟩ W (fan_name k) ((hr.below hbW).more hbW.size) (hc.below hbW z0) k).mono fun _ _ ⟨he, hb2⟩ => ⟨he, (hb.trans (hbW.mono hb.size)).trans (hb2.mono (hb.trans (hbW.mono hb.size)).size)⟩
    rw [k] at c1
    have HC := Lib.hid c1
    clear c1 k hc hrn
    go_enter Tryd.func16, Tryd.ntmps16
    go_wp2_with fail; ((with_reducible refine HC.out.mono ?_); rintro e w2 ⟨rfl, hb2⟩)
    go_wp2_with fail; ((with_reducible refine (HT.out _ hb2).mono ?_); rintro e w3 ⟨rfl, hb3⟩)
    go_wp2
    go_ret
    exact ⟨rfl, hb3⟩
  · have HV := Lib.hid (fnT_n k)
    rw [k] at c1
    have HC := Lib.hid c1
    clear c1 k hc hrn
    go_enter Tryd.func16, Tryd.ntmps16
    go_wp2_with fail; ((with_reducible refine HC.out.mono ?_); rintro e w2 ⟨rfl, hb2⟩)
    go_wp2
    go_ret
    exact ⟨by rw [HV.out]; rfl, hb.trans (hb2.mono hb.size)⟩
set_option maxHeartbeats 3200000 in
set_option maxRecDepth 100000 in
theorem implFanText_any (s : ByteArray) (a : Int) (A : Option Addr) (n c : Nat) (rs : List Row) (w : World) (hs : s.size ≤ maxLen) (hr0 : RSS w w.heap.size A n rs) (hn : n ≤ 1048576) (hrn : ∀ r ∈ rs, r.n ≤ 1048576) (ht : Pow w) :
    Calls Tryd.prog 18 #[.agg #[.string s, .int .i64 a, .slice A n c]] w fun e w' => e = .returned (.string (fnT s a (dat rs))) ∧ Below w.heap.size w w' := by
  have hb : Below w.heap.size w (w.alloc (.cells #[.string s, .int .i64 a, .slice A n c] 38)) := (Below.refl _ _).alloc (Nat.le_refl _) _
  have hr := (hr0.below hb).more hb.size
  have hc : Cells (w.alloc (.cells #[.string s, .int .i64 a, .slice A n c] 38)) ⟨w.heap.size, 0, none⟩ [.string s, .int .i64 a, .slice A n c] := Cells.new w _ _
  have c1 := implValidFan_any s a A n c rs (w.alloc (.cells #[.string s, .int .i64 a, .slice A n c] 38)) hs hr hn hrn
  have z0 : w.heap.size < (w.alloc (.cells #[.string s, .int .i64 a, .slice A n c] 38)).heap.size := by simp
  rcases Bool.eq_false_or_eq_true (fanOk s a (dat rs)) with k | k
  · replace hs := fan_name k
    obtain ⟨_, ⟨a1, a2⟩, hcv⟩ := fanOk_t k
    obtain ⟨l1, l2, hK⟩ := crvOk_t hcv
    have hln : (dat rs).length = n := by rw [dat_len]; exact hr.len
    rw [hln] at l1 l2
    have HV : Hid (fnT s a (dat rs) = fnP s a (dat rs) n) := show _ = _ by rw [fnT_y k, hln]
    have HK : Hid (∀ k, k < n → crvAt (dat rs) k = true) := fun k hk => hK k (by rw [hln]; exact hk)
    have HP : Hid (∀ k, k ≤ n → (fnP s a (dat rs) k).size ≤ 1048598 + 44 * k) := fun k hk => fnP_len hs ⟨a1, a2⟩ hK k (by rw [hln]; exact hk)
    have HPz := Lib.hid (fnP_z s a (dat rs))
    have hda := itoa_len (n := a) (by omega) (by omega)
    have HTP := Lib.hid (fun W (hb : Below w.heap.size w W) => pow_below ht hb)
    have HD : Hid (∀ W : World, Below w.heap.size w W → Calls Tryd.prog 42 #[.int .i64 a] W fun e w' => e = .returned (.string (decS a)) ∧ Below W.heap.size W w') := fun W hW => Decimal_any a W (by omega) (by omega) (HTP.out W hW)
    obtain ⟨q1, q2⟩ := two_sums hs hda
    rw [k] at c1
    have HC := Lib.hid c1
    clear c1 k hK hln hrn ht hcv
    generalize decS a = da at *
    go_enter Tryd.func18, Tryd.ntmps18
    go_wp2_with fail; ((with_reducible refine HC.out.mono ?_); rintro e w2 ⟨rfl, hb2⟩)
    have hB2 := hb.trans (hb2.mono hb.size)
    have hcw := hc.below hb2 z0
    have h0 := hcw.z rfl
    have h1 := hcw.at_ 0 rfl
    have h2 := hcw.at_ 1 rfl
    have HD2 : Hid (∀ t : NB w2, Calls Tryd.prog 42 #[.int .i64 a] t.w fun e w' => e = .returned (.string da) ∧ Below t.w.heap.size t.w w') := fun t => HD.out _ (hB2.trans (t.h.mono hB2.size))
    clear hc hcw
    go_wp2
    have m3_0 := nb_cell h0 (block_lt_of_cell h0); have m3_1 := nb_cell h1 (block_lt_of_cell h1); (refine wp_region_nb (by kernel_rfl) (by kernel_rfl) ?_); (repeat (go_big_quiet_step (((go_at_call 42; exact nb_call (HD2.out _)))))); (refine wpQuiet_nil ?_); intro w3 hw3; have hb3 := nb_out hw3; clear hw3 m3_0 m3_1
    clear q1 q2 hda
    have f2 := (hb3.cell (block_lt_of_cell h2)).trans h2
    have hB3 := hB2.trans (hb3.mono hB2.size)
    rw [← HPz.out]
    go_wp2
    go_loopw [3, 19] (fun o i wr => ∃ k : Nat, k ≤ n ∧ i = .int .i64 k ∧ o = .string (fnP s a (dat rs) k) ∧ Below w.heap.size w wr) (fun _ i _ => n - (intOf i).toNat)
    case atStart => exact ⟨0, by omega, rfl, rfl, hB3⟩
    case round =>
      obtain ⟨k, hk, rfl, rfl, hbr⟩ := hrel
      obtain ⟨wo, rfl⟩ : ∃ wo : World, wo = wr := ⟨_, rfl⟩
      by_cases hlt : k < n
      · obtain ⟨ad, r, rfl, hx, hc, hrr⟩ := (hr0.below hbr).at_ hlt
        obtain ⟨x1, x2, x3⟩ := lock_row (dat_at hx)
        obtain ⟨e1, b1, b2, b3, b4, _⟩ := crv_t (HK.out k hlt)
        obtain ⟨ra, hra, hn2, c0, c0', c1⟩ := open_two hrr (by rw [← x1]; exact e1)
        rw [← x2] at c0 c0'
        rw [← x3] at c1
        rw [hra] at hc
        have hrn0 : (0 : Int) < (r.n : Int) := by omega
        have hrn1 : (1 : Int) < (r.n : Int) := by omega
        have hcz : wo.cell? (ad.add k) = some (.slice (some ra) r.n r.c) := hc
        have HS := Lib.hid (fnP_s s a (dat rs) k)
        have d0 := itoa_len (n := lockA (dat rs) k) (by omega) (by omega)
        have d1 := itoa_len (n := lockB (dat rs) k) (by omega) (by omega)
        have hj := HP.out k hk
        obtain ⟨q1, q2, q3, q4⟩ := four_sums (jk := fnP s a (dat rs) k) (by omega) d0 d1
        have HD0 : Hid (∀ t : NB wo, Calls Tryd.prog 42 #[.int .i64 (lockA (dat rs) k)] t.w fun e w' => e = .returned (.string (decS (lockA (dat rs) k))) ∧ Below t.w.heap.size t.w w') := fun t => Decimal_any _ t.w (by omega) (by omega) (HTP.out _ (hbr.trans (t.h.mono hbr.size)))
        have HD1 : Hid (∀ t : NB wo, Calls Tryd.prog 42 #[.int .i64 (lockB (dat rs) k)] t.w fun e w' => e = .returned (.string (decS (lockB (dat rs) k))) ∧ Below t.w.heap.size t.w w') := fun t => Decimal_any _ t.w (by omega) (by omega) (HTP.out _ (hbr.trans (t.h.mono hbr.size)))
        clear x1 x2 x3 hra e1 b1 b2 b3 b4 hx hc hj d0 d1 f2
        generalize fnP s a (dat rs) k = jk at *
        generalize decS (lockA (dat rs) k) = dx at *
        generalize decS (lockB (dat rs) k) = dy at *
        generalize lockA (dat rs) k = vx at *
        generalize lockB (dat rs) k = vy at *
        go_wp2
        have m6_0 := nb_cell hcz (block_lt_of_cell hcz); have m6_1 := nb_cell c0 (block_lt_of_cell c0); have m6_2 := nb_cell c0' (block_lt_of_cell c0'); have m6_3 := nb_cell c1 (block_lt_of_cell c1); (refine wp_region_nb (by kernel_rfl) (by kernel_rfl) ?_); (repeat (go_big_quiet_step (((go_at_call 42; first | with_reducible exact nb_call (HD0.out _) | with_reducible exact nb_call (HD1.out _)))))); (refine wpQuiet_nil ?_); intro w6 hw6; have hb6 := nb_out hw6; clear hw6 m6_0 m6_1 m6_2 m6_3
        go_wp2
        go_roundw
        case rel => exact ⟨k + 1, by omega, by go_num, by rw [HS.out], hbr.trans (hb6.mono hbr.size)⟩
        case measure => simp [intOf]; omega
      · have e : k = n := by omega
        rw [e, ← HV.out]
        clear e
        go_wp2
        go_ret
        exact ⟨rfl, hbr⟩
  · have HV := Lib.hid (fnT_n k)
    rw [k] at c1
    have HC := Lib.hid c1
    clear c1 k hc hrn ht
    go_enter Tryd.func18, Tryd.ntmps18
    go_wp2_with fail; ((with_reducible refine HC.out.mono ?_); rintro e w2 ⟨rfl, hb2⟩)
    go_wp2
    go_ret
    exact ⟨by rw [HV.out]; rfl, hb.trans (hb2.mono hb.size)⟩
end Go.Proofs.YtdooajiobpjihaaDoor
