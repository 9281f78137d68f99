/- Contracts of ValidDoors, the program's side. -/
import Derived.Test.YtgbmpadlfcbcaaaDrs
import Derived.Test.YtgbmpadlfcbcaaaSlc
namespace Go.Proofs.Ytgbmpadlfcbcaaa
set_option linter.unusedVariables false
set_option linter.unusedSimpArgs false
open Go.RowKit
theorem Reads.take_recs {α : Type} {f : α → List Value} {z : Nat} (hz : ∀ x, (f x).length = z) (hzp : 0 < z) {w : World} {B n k : Nat} {A : Option Addr} {xs : List α} (h : Reads w B z A n (recs f xs)) (hk : k ≤ n) : Reads w B z A k (recs f (xs.take k)) := by
  have hl := recs_rlen hz hzp h
  refine ⟨by rw [recs_len hz, List.length_take, Nat.min_eq_left (by omega)], fun hp => ?_⟩
  obtain ⟨ad, e, hb, hc⟩ := h.2 (by omega)
  refine ⟨ad, e, hb, fun j u hu => hc j u ?_⟩
  have e2 : recs f xs = recs f (xs.take k) ++ recs f (xs.drop k) := by rw [← recs_append, List.take_append_drop]
  have hj : j < (recs f (xs.take k)).length := by
    rcases Nat.lt_or_ge j (recs f (xs.take k)).length with h1 | h1
    · exact h1
    · rw [List.getElem?_eq_none h1] at hu; cases hu
  rw [e2, List.getElem?_append_left hj]; exact hu
theorem doorClosure_any (y : Dor) (b : Nat) (a : Int) (w : World) (h1 : w.cell? ⟨b, 1, none⟩ = some (.int .i64 a)) :
    Calls Try.prog 74 #[.agg #[.string y.s, .int .i64 y.a, .int .i64 y.b, .int .i64 y.c], .pointer (some ⟨b, 0, none⟩)] w fun e w' => e = .returned (.bool (y.a == a)) ∧ Below w.heap.size w w' := by
  have f1 : (w.alloc (.cells #[.string y.s, .int .i64 y.a, .int .i64 y.b, .int .i64 y.c] 87)).cell? ⟨b, 1, none⟩ = some (.int .i64 a) := (World.cell?_alloc_lt _ _ _ (block_lt_of_cell h1)).trans h1
  go_enter Try.func74, Try.ntmps74
  go_wp2
  go_ret
  exact ⟨rfl, (Below.refl _ _).alloc (Nat.le_refl _) _⟩
set_option maxHeartbeats 800000 in
theorem indexDor_any (A : Option Addr) (n c : Nat) (xs : List Dor) (g : Nat) (cb : Array Value) (p : Dor → Bool) (w : World) (eg : ∀ args W, (callFunc g args).run Try.prog W = .ok (.enter g args) W)
    (hr : Reads w w.heap.size 4 A n (Dor.recs xs)) (hn : n ≤ 1099511627776)
    (hf : ∀ (W : World) (x : Dor), Below w.heap.size w W → x ∈ xs → Calls Try.prog g (#[.agg #[.string x.s, .int .i64 x.a, .int .i64 x.b, .int .i64 x.c]] ++ cb) W fun e w' => e = .returned (.bool (p x)) ∧ Below W.heap.size W w') :
    Calls Try.prog 110 #[.slice A n c, .func (.func g) #[] cb] w fun e w' => e = .returned (.int .i64 (idxI p xs)) ∧ Below w.heap.size w w' := by
  have HF := Lib.hid hf
  have HL := Lib.hid (recs_rlen Dor.clen (by omega) hr)
  clear hf
  go_enter Try.func110, Try.ntmps110
  go_wp2
  go_loopw [8] (fun i wr => ∃ k : Nat, k ≤ n ∧ i = .int .i64 k ∧ Hid ((xs.take k).any p = false) ∧ Below w.heap.size w wr) (fun i _ => n - (intOf i).toNat)
  case atStart => exact ⟨0, by omega, rfl, by simp [Hid], Below.refl _ _⟩
  case round =>
    obtain ⟨k, hk, rfl, HK, hbw⟩ := hrel
    by_cases hlt : k < n
    · obtain ⟨ad, x, rfl, had, hx, hc⟩ := (hr.below hbw).rec_at Dor.clen (by omega) hlt
      have hcall := HF.out wr x hbw (mem_of_at hx)
      have HX := Lib.hid hx
      obtain ⟨h0, h1, h2, h3⟩ := Dor.open_ hc
      clear hx hc
      cases hp : p x <;> rw [hp] at hcall
      · have HP := Lib.hid hp
        clear hp
        go_wp2_with (go_at_fn g; refine hcall.mono ?_; rintro e w' ⟨rfl, hb1⟩)
        go_roundw
        case rel => exact ⟨k + 1, by omega, by go_num, any_take HX.out HK.out HP.out, hbw.trans (hb1.mono hbw.size)⟩
        case measure => simp [intOf]; omega
      · have HP := Lib.hid hp
        clear hp
        go_wp2_with (go_at_fn g; refine hcall.mono ?_; rintro e w' ⟨rfl, hb1⟩)
        go_ret
        exact ⟨ret_int (idx_at HX.out HP.out HK.out).symm, hbw.trans (hb1.mono hbw.size)⟩
    · have e : k = n := by omega
      subst e
      go_wp2
      go_ret
      have hall : xs.any p = false := by have := HK.out; rwa [List.take_of_length_le (by rw [HL.out]; omega)] at this
      exact ⟨ret_int (idx_none hall).symm, hbw⟩
theorem containsDor_any (A : Option Addr) (n c : Nat) (xs : List Dor) (g : Nat) (cb : Array Value) (p : Dor → Bool) (w : World) (eg : ∀ args W, (callFunc g args).run Try.prog W = .ok (.enter g args) W)
    (hr : Reads w w.heap.size 4 A n (Dor.recs xs)) (hn : n ≤ 1099511627776)
    (hf : ∀ (W : World) (x : Dor), Below w.heap.size w W → x ∈ xs → Calls Try.prog g (#[.agg #[.string x.s, .int .i64 x.a, .int .i64 x.b, .int .i64 x.c]] ++ cb) W fun e w' => e = .returned (.bool (p x)) ∧ Below W.heap.size W w') :
    Calls Try.prog 73 #[.slice A n c, .func (.func g) #[] cb] w fun e w' => e = .returned (.bool (xs.any p)) ∧ Below w.heap.size w w' := by
  have hc := indexDor_any A n c xs g cb p w eg hr hn hf
  have HD := Lib.hid (idx_any (p := p) (xs := xs))
  clear hf
  go_enter Try.func73, Try.ntmps73
  go_wp2_with fail; ((with_reducible refine hc.mono ?_); rintro e w1 ⟨rfl, hb1⟩)
  go_wp2
  go_ret
  exact ⟨ret_bool HD.out, hb1⟩
theorem indexValid_any (M : Option Addr) (m d : Nat) (a : Int) (w : World) (hm : m ≤ 1048576) :
    Calls Try.prog 72 #[.slice M m d, .int .i64 a] w fun e w' => e = .returned (.bool (inB a 0 ((m : Int) - 1))) ∧ w = w' := by
  go_enter Try.func72, Try.ntmps72
  go_wp2_with fail; ((with_reducible refine (within_any _ _ _ _).mono ?_); rintro e w' ⟨rfl, rfl⟩)
  go_wp2
  go_ret
  exact ⟨rfl, rfl⟩
theorem vd_q {x : Dor} {b : Bool} (k : dorOk x = b) (hs : x.s.size ≤ maxLen) : ∀ W : World, Calls Try.prog 71 #[.agg #[.string x.s, .int .i64 x.a, .int .i64 x.b, .int .i64 x.c]] W fun e w' => e = .returned (.bool b) ∧ Below W.heap.size W w' :=
  fun W => k ▸ implValidDoor_any x.s x.a x.b x.c W hs
theorem iv_q {M : Option Addr} {m d : Nat} {a : Int} {b : Bool} (k : inB a 0 ((m : Int) - 1) = b) (hm : m ≤ 1048576) : ∀ W : World, Calls Try.prog 72 #[.slice M m d, .int .i64 a] W fun e w' => e = .returned (.bool b) ∧ Below W.heap.size W w' :=
  fun W => (indexValid_any M m d a W hm).mono fun _ _ ⟨he, hw⟩ => ⟨by rw [he, k], hw ▸ Below.refl _ _⟩
set_option maxHeartbeats 3200000 in
set_option maxRecDepth 100000 in
theorem implValidDoors_any (J : Int) (M : Option Addr) (m d : Nat) (aw : List Awy) (A : Option Addr) (n c : Nat) (xs : List Dor) (w : World) (hm : Reads w w.heap.size 7 M m (Awy.recs aw)) (hmn : m ≤ 1048576) (haw : ∀ x ∈ aw, x.s.size ≤ maxLen)
    (hr1 : Reads w w.heap.size 4 A n (Dor.recs xs)) (hn : n ≤ 1048576) (hxs : ∀ x ∈ xs, x.s.size ≤ maxLen) (hnc : n ≤ c := by omega) :
    Calls Try.prog 28 #[.agg #[.int .i64 J, .slice M m d], .slice A n c] w fun e w' => e = .returned (.bool (doorsOk J aw xs)) ∧ Below w.heap.size w w' := by
  have HM := Lib.hid hxs
  have HLm := Lib.hid (recs_rlen Awy.clen (by omega) hm)
  have HLn := Lib.hid (recs_rlen Dor.clen (by omega) hr1)
  have B0 : Below w.heap.size w (w.alloc (.cells #[.int .i64 J, .slice M m d] 31)) := (Below.refl _ _).alloc (Nat.le_refl _) _
  have hr : Reads (w.alloc (.cells #[.int .i64 J, .slice M m d] 31)) (w.heap.size + 1) 4 A n (Dor.recs xs) := (hr1.below B0).more (by omega)
  have cc := implValidMine_any J M m d aw _ ((hm.below B0).more B0.size) hmn haw
  clear hxs haw
  go_enter Try.func28, Try.ntmps28
  go_wp2_with fail; ((with_reducible refine (cc).mono ?_); rintro e w1 ⟨rfl, hb1⟩)
  clear cc
  have hb1' : Below (w.heap.size + 1) (w.alloc (.cells #[.int .i64 J, .slice M m d] 31)) w1 := hb1.mono (by simp)
  rcases Bool.eq_false_or_eq_true (mineOk J aw) with hok | hok
  · have HOK := Lib.hid hok
    by_cases h8 : n ≤ 8
    · go_wp2
      go_loopw [17] (fun i wr => ∃ (k : Nat), k ≤ n ∧ i = .int .i64 k ∧ Hid (∀ j, j < k → dOk m xs j = true) ∧ Below (w.heap.size + 1) (w.alloc (.cells #[.int .i64 J, .slice M m d] 31)) wr) (fun i _ => n - (intOf i).toNat)
      case atStart => exact ⟨0, by omega, rfl, fun j hj => absurd hj (Nat.not_lt_zero _), hb1'⟩
      case round =>
        obtain ⟨k, hk, rfl, HK, hbw⟩ := hrel
        obtain ⟨wo, rfl⟩ : ∃ wo : World, wo = wr := ⟨_, rfl⟩
        have zo : w.heap.size < wo.heap.size := by have h := hbw.size; simp at h; omega
        have Bw : Below w.heap.size w wo := B0.trans (hbw.mono (by omega))
        have g1 : wo.cell? ⟨w.heap.size, 1, none⟩ = some (.slice M m d) := (hbw.cell (p := ⟨w.heap.size, 1, none⟩) (by show w.heap.size < _; omega)).trans (by go_simp)
        by_cases hlt : k < n
        · obtain ⟨ad, x, rfl, had, hx, hc⟩ := (hr.below hbw).rec_at Dor.clen (by omega) hlt
          have HX := Lib.hid hx
          have hmx := HM.out x (List.mem_of_getElem? hx)
          have hlx : Hid (k < xs.length) := show k < xs.length by rw [HLn.out]; exact hlt
          have hltI : (k : Int) < (n : Int) := by omega
          have HCx := Lib.hid hc
          obtain ⟨a0, a1, a2, a3⟩ := Dor.open_ hc
          clear hx hc
          have f0 : (wo.alloc (.cells #[.string x.s, .int .i64 x.a, .int .i64 x.b, .int .i64 x.c] 87)).cell? ⟨wo.heap.size, 0, none⟩ = some (.string x.s) := ((Blk.new wo _ _).cell 0).trans rfl
          have f1 : (wo.alloc (.cells #[.string x.s, .int .i64 x.a, .int .i64 x.b, .int .i64 x.c] 87)).cell? ⟨wo.heap.size, 1, none⟩ = some (.int .i64 x.a) := ((Blk.new wo _ _).cell 1).trans rfl
          have f2 : (wo.alloc (.cells #[.string x.s, .int .i64 x.a, .int .i64 x.b, .int .i64 x.c] 87)).cell? ⟨wo.heap.size, 2, none⟩ = some (.int .i64 x.b) := ((Blk.new wo _ _).cell 2).trans rfl
          have f3 : (wo.alloc (.cells #[.string x.s, .int .i64 x.a, .int .i64 x.b, .int .i64 x.c] 87)).cell? ⟨wo.heap.size, 3, none⟩ = some (.int .i64 x.c) := ((Blk.new wo _ _).cell 3).trans rfl
          have f4 : (wo.alloc (.cells #[.string x.s, .int .i64 x.a, .int .i64 x.b, .int .i64 x.c] 87)).cell? ⟨w.heap.size, 1, none⟩ = some (.slice M m d) := (World.cell?_alloc_lt _ _ _ (block_lt_of_cell g1)).trans g1
          rcases Bool.eq_false_or_eq_true (dorOk x) with k0 | k0
          · have HA := Lib.hid (vd_q k0 hmx)
            obtain ⟨⟨xa0, _⟩, _⟩ := dorOk_t k0
            by_cases hxa : x.a < (m : Int)
            · have HI := Lib.hid (iv_q (M := M) (m := m) (d := d) (a := x.a) (b := true) (by unfold inB; exact decide_eq_true (by omega)) hmn)
              rcases Nat.eq_zero_or_pos k with h0 | hpos
              · have HYN : Hid (dAny xs 0 x.a = false → dOk m xs 0 = true) := fun _ => h0 ▸ dOk_z (m := m) HX.out k0 hxa h0
                have HYD : Hid (dAny xs 0 x.a = true → dOk m xs 0 = false) := fun h => by unfold dAny at h; simp at h
                subst h0
                have hcz : Cells wo ad x.cells := HCx.out
                obtain ⟨b0, b1, b2, b3⟩ := Dor.open_ hcz
                clear hcz hxa
                go_wp2
                have m0 := nb_cell f0 (block_lt_of_cell f0)
                have m1 := nb_cell f1 (block_lt_of_cell f1)
                have m2 := nb_cell f2 (block_lt_of_cell f2)
                have m3 := nb_cell f3 (block_lt_of_cell f3)
                have m4 := nb_cell f4 (block_lt_of_cell f4)
                refine wp_region_nb (by kernel_rfl) (by kernel_rfl) ?_
                repeat (go_big_quiet_step ((first | (go_at_call 71; exact nb_call (HA.out _)) | (go_at_call 72; exact nb_call (HI.out _)))))
                refine wpQuiet_nil ?_
                intro w3 hw3
                have hb3 := nb_out hw3
                clear hw3
                clear m0 m1 m2 m3 m4
                have B3 : Below (w.heap.size + 1) (w.alloc (.cells #[.int .i64 J, .slice M m d] 31)) w3 := (hbw.alloc (by omega) (.cells #[.string x.s, .int .i64 x.a, .int .i64 x.b, .int .i64 x.c] 87)).trans (hb3.mono (by simp; omega))
                have z3 : wo.heap.size < w3.heap.size := by have h := hb3.size; simp at h; omega
                have c1 : w3.cell? ⟨wo.heap.size, 1, none⟩ = some (.int .i64 x.a) := (hb3.cell (block_lt_of_cell f1)).trans f1
                have cc := containsDor_any (some ad) 0 c (xs.take 0) 74 #[.pointer (some ⟨wo.heap.size, 0, none⟩)] (fun y => y.a == x.a) w3 (fun _ _ => rfl) (((hr.below B3).take_recs Dor.clen (by omega) (by omega)).more (by have h := B3.size; simp at h; omega)) (by omega) fun W y hW _ => doorClosure_any y wo.heap.size x.a W ((hW.cell (block_lt_of_cell c1)).trans c1)
                rcases Bool.eq_false_or_eq_true (dAny xs 0 x.a) with hd | hd
                · have HY := Lib.hid (HYD.out hd)
                  unfold dAny at hd
                  rw [hd] at cc
                  clear hd
                  go_wp2_with fail; ((with_reducible refine (cc).mono ?_); rintro e w4 ⟨rfl, hb4⟩)
                  go_wp2
                  go_ret
                  exact ⟨ret_bool (doorsOk_k hlx.out (by rw [HLm.out]; exact HY.out)).symm, B0.trans ((B3.trans (hb4.mono (by have h := B3.size; simp at h; omega))).mono (by omega))⟩
                · have HY := Lib.hid (HYN.out hd)
                  unfold dAny at hd
                  rw [hd] at cc
                  clear hd
                  go_wp2_with fail; ((with_reducible refine (cc).mono ?_); rintro e w4 ⟨rfl, hb4⟩)
                  go_wp2
                  go_roundw
                  case rel => exact ⟨1, by omega, by go_num, upto_succ1 HK.out HY.out, B3.trans (hb4.mono (by have h := B3.size; simp at h; omega))⟩
                  case measure => simp [intOf]; omega
              · obtain ⟨j, hj⟩ : ∃ j, Hid (k = j + 1) := ⟨k - 1, show k = k - 1 + 1 by omega⟩
                have hjn : j < n := by have := hj.out; omega
                have hwj : IntKind.i64.wrap ((k : Int) - 1) = (j : Int) := by have := hj.out; rw [IntWalk.i64_in _ (by omega)]; omega
                have hk0 : decide ((0 : Int) < (k : Int)) = true := decide_eq_true (by omega)
                have hjI : (j : Int) < (n : Int) := by omega
                obtain ⟨ad', y, e1, had', hy, hcy⟩ := (hr.below hbw).rec_at Dor.clen (by omega) hjn
                injection e1 with e1
                subst e1
                have HYy := Lib.hid hy
                have b0 := hcy.z rfl
                have f5 : (wo.alloc (.cells #[.string x.s, .int .i64 x.a, .int .i64 x.b, .int .i64 x.c] 87)).cell? (ad.add (j * 4)) = some (.string y.s) := (World.cell?_alloc_lt _ _ _ (block_lt_of_cell b0)).trans b0
                clear hy hcy
                have hle := leq_lt y.s.toList x.s.toList
                cases hl : Op.bytesLess y.s.toList x.s.toList <;> rw [hl] at hle <;> cases q1 : Op.bytesLess x.s.toList y.s.toList <;> cases q2 : (x.s.toList == y.s.toList) <;> rw [q1, q2] at hle <;> first | (exact absurd hle (by decide)) | skip
                · have HY := Lib.hid (dOk_p (m := m) HX.out hj.out HYy.out hl)
                  clear hle hl hxa
                  go_wp2
                  have m0 := nb_cell f0 (block_lt_of_cell f0)
                  have m1 := nb_cell f1 (block_lt_of_cell f1)
                  have m2 := nb_cell f2 (block_lt_of_cell f2)
                  have m3 := nb_cell f3 (block_lt_of_cell f3)
                  have m4 := nb_cell f4 (block_lt_of_cell f4)
                  have m5 := nb_cell f5 (block_lt_of_cell f5)
                  refine wp_region_nb (by kernel_rfl) (by kernel_rfl) ?_
                  repeat (go_big_quiet_step ((first | (go_at_call 71; exact nb_call (HA.out _)) | (go_at_call 72; exact nb_call (HI.out _)))))
                  refine wpQuiet_nil ?_
                  intro w3 hw3
                  have hb3 := nb_out hw3
                  clear hw3
                  clear m0 m1 m2 m3 m4 m5
                  have B3 : Below (w.heap.size + 1) (w.alloc (.cells #[.int .i64 J, .slice M m d] 31)) w3 := (hbw.alloc (by omega) (.cells #[.string x.s, .int .i64 x.a, .int .i64 x.b, .int .i64 x.c] 87)).trans (hb3.mono (by simp; omega))
                  go_wp2
                  go_ret
                  exact ⟨ret_bool (doorsOk_k hlx.out (by rw [HLm.out]; exact HY.out)).symm, B0.trans (B3.mono (by omega))⟩
                · have HY := Lib.hid (dOk_p (m := m) HX.out hj.out HYy.out hl)
                  clear hle hl hxa
                  go_wp2
                  have m0 := nb_cell f0 (block_lt_of_cell f0)
                  have m1 := nb_cell f1 (block_lt_of_cell f1)
                  have m2 := nb_cell f2 (block_lt_of_cell f2)
                  have m3 := nb_cell f3 (block_lt_of_cell f3)
                  have m4 := nb_cell f4 (block_lt_of_cell f4)
                  have m5 := nb_cell f5 (block_lt_of_cell f5)
                  refine wp_region_nb (by kernel_rfl) (by kernel_rfl) ?_
                  repeat (go_big_quiet_step ((first | (go_at_call 71; exact nb_call (HA.out _)) | (go_at_call 72; exact nb_call (HI.out _)))))
                  refine wpQuiet_nil ?_
                  intro w3 hw3
                  have hb3 := nb_out hw3
                  clear hw3
                  clear m0 m1 m2 m3 m4 m5
                  have B3 : Below (w.heap.size + 1) (w.alloc (.cells #[.int .i64 J, .slice M m d] 31)) w3 := (hbw.alloc (by omega) (.cells #[.string x.s, .int .i64 x.a, .int .i64 x.b, .int .i64 x.c] 87)).trans (hb3.mono (by simp; omega))
                  go_wp2
                  go_ret
                  exact ⟨ret_bool (doorsOk_k hlx.out (by rw [HLm.out]; exact HY.out)).symm, B0.trans (B3.mono (by omega))⟩
                · have HY := Lib.hid (dOk_p (m := m) HX.out hj.out HYy.out hl)
                  clear hle hl hxa
                  go_wp2
                  have m0 := nb_cell f0 (block_lt_of_cell f0)
                  have m1 := nb_cell f1 (block_lt_of_cell f1)
                  have m2 := nb_cell f2 (block_lt_of_cell f2)
                  have m3 := nb_cell f3 (block_lt_of_cell f3)
                  have m4 := nb_cell f4 (block_lt_of_cell f4)
                  have m5 := nb_cell f5 (block_lt_of_cell f5)
                  refine wp_region_nb (by kernel_rfl) (by kernel_rfl) ?_
                  repeat (go_big_quiet_step ((first | (go_at_call 71; exact nb_call (HA.out _)) | (go_at_call 72; exact nb_call (HI.out _)))))
                  refine wpQuiet_nil ?_
                  intro w3 hw3
                  have hb3 := nb_out hw3
                  clear hw3
                  clear m0 m1 m2 m3 m4 m5
                  have B3 : Below (w.heap.size + 1) (w.alloc (.cells #[.int .i64 J, .slice M m d] 31)) w3 := (hbw.alloc (by omega) (.cells #[.string x.s, .int .i64 x.a, .int .i64 x.b, .int .i64 x.c] 87)).trans (hb3.mono (by simp; omega))
                  go_wp2
                  go_ret
                  exact ⟨ret_bool (doorsOk_k hlx.out (by rw [HLm.out]; exact HY.out)).symm, B0.trans (B3.mono (by omega))⟩
                · have HYN := Lib.hid (fun h3 => dOk_y (m := m) HX.out k0 hxa hj.out HYy.out hl h3)
                  have HYD := Lib.hid (fun h3 => dOk_d (m := m) HX.out h3)
                  clear hle hl hxa
                  go_wp2
                  have m0 := nb_cell f0 (block_lt_of_cell f0)
                  have m1 := nb_cell f1 (block_lt_of_cell f1)
                  have m2 := nb_cell f2 (block_lt_of_cell f2)
                  have m3 := nb_cell f3 (block_lt_of_cell f3)
                  have m4 := nb_cell f4 (block_lt_of_cell f4)
                  have m5 := nb_cell f5 (block_lt_of_cell f5)
                  refine wp_region_nb (by kernel_rfl) (by kernel_rfl) ?_
                  repeat (go_big_quiet_step ((first | (go_at_call 71; exact nb_call (HA.out _)) | (go_at_call 72; exact nb_call (HI.out _)))))
                  refine wpQuiet_nil ?_
                  intro w3 hw3
                  have hb3 := nb_out hw3
                  clear hw3
                  clear m0 m1 m2 m3 m4 m5
                  have B3 : Below (w.heap.size + 1) (w.alloc (.cells #[.int .i64 J, .slice M m d] 31)) w3 := (hbw.alloc (by omega) (.cells #[.string x.s, .int .i64 x.a, .int .i64 x.b, .int .i64 x.c] 87)).trans (hb3.mono (by simp; omega))
                  have z3 : wo.heap.size < w3.heap.size := by have h := hb3.size; simp at h; omega
                  have c1 : w3.cell? ⟨wo.heap.size, 1, none⟩ = some (.int .i64 x.a) := (hb3.cell (block_lt_of_cell f1)).trans f1
                  have cc := containsDor_any (some ad) k c (xs.take k) 74 #[.pointer (some ⟨wo.heap.size, 0, none⟩)] (fun y => y.a == x.a) w3 (fun _ _ => rfl) (((hr.below B3).take_recs Dor.clen (by omega) (by omega)).more (by have h := B3.size; simp at h; omega)) (by omega) fun W y hW _ => doorClosure_any y wo.heap.size x.a W ((hW.cell (block_lt_of_cell c1)).trans c1)
                  rcases Bool.eq_false_or_eq_true (dAny xs k x.a) with hd | hd
                  · have HY := Lib.hid (HYD.out hd)
                    unfold dAny at hd
                    rw [hd] at cc
                    clear hd
                    go_wp2_with fail; ((with_reducible refine (cc).mono ?_); rintro e w4 ⟨rfl, hb4⟩)
                    go_wp2
                    go_ret
                    exact ⟨ret_bool (doorsOk_k hlx.out (by rw [HLm.out]; exact HY.out)).symm, B0.trans ((B3.trans (hb4.mono (by have h := B3.size; simp at h; omega))).mono (by omega))⟩
                  · have HY := Lib.hid (HYN.out hd)
                    unfold dAny at hd
                    rw [hd] at cc
                    clear hd
                    go_wp2_with fail; ((with_reducible refine (cc).mono ?_); rintro e w4 ⟨rfl, hb4⟩)
                    go_wp2
                    go_roundw
                    case rel => exact ⟨k + 1, by omega, by go_num, upto_succ1 HK.out HY.out, B3.trans (hb4.mono (by have h := B3.size; simp at h; omega))⟩
                    case measure => simp [intOf]; omega
            · have HI := Lib.hid (iv_q (M := M) (m := m) (d := d) (a := x.a) (b := false) (by unfold inB; exact decide_eq_false (by omega)) hmn)
              have HY := Lib.hid (dOk_a (m := m) HX.out hxa)
              clear hxa
              go_wp2
              have m0 := nb_cell f0 (block_lt_of_cell f0)
              have m1 := nb_cell f1 (block_lt_of_cell f1)
              have m2 := nb_cell f2 (block_lt_of_cell f2)
              have m3 := nb_cell f3 (block_lt_of_cell f3)
              have m4 := nb_cell f4 (block_lt_of_cell f4)
              refine wp_region_nb (by kernel_rfl) (by kernel_rfl) ?_
              repeat (go_big_quiet_step ((first | (go_at_call 71; exact nb_call (HA.out _)) | (go_at_call 72; exact nb_call (HI.out _)))))
              refine wpQuiet_nil ?_
              intro w3 hw3
              have hb3 := nb_out hw3
              clear hw3
              clear m0 m1 m2 m3 m4
              have B3 : Below (w.heap.size + 1) (w.alloc (.cells #[.int .i64 J, .slice M m d] 31)) w3 := (hbw.alloc (by omega) (.cells #[.string x.s, .int .i64 x.a, .int .i64 x.b, .int .i64 x.c] 87)).trans (hb3.mono (by simp; omega))
              go_wp2
              go_ret
              exact ⟨ret_bool (doorsOk_k hlx.out (by rw [HLm.out]; exact HY.out)).symm, B0.trans (B3.mono (by omega))⟩
          · have HA := Lib.hid (vd_q k0 hmx)
            have HY := Lib.hid (dOk_o (m := m) HX.out k0)
            go_wp2
            have m0 := nb_cell f0 (block_lt_of_cell f0)
            have m1 := nb_cell f1 (block_lt_of_cell f1)
            have m2 := nb_cell f2 (block_lt_of_cell f2)
            have m3 := nb_cell f3 (block_lt_of_cell f3)
            have m4 := nb_cell f4 (block_lt_of_cell f4)
            refine wp_region_nb (by kernel_rfl) (by kernel_rfl) ?_
            repeat (go_big_quiet_step (((go_at_call 71; exact nb_call (HA.out _)))))
            refine wpQuiet_nil ?_
            intro w3 hw3
            have hb3 := nb_out hw3
            clear hw3
            clear m0 m1 m2 m3 m4
            have B3 : Below (w.heap.size + 1) (w.alloc (.cells #[.int .i64 J, .slice M m d] 31)) w3 := (hbw.alloc (by omega) (.cells #[.string x.s, .int .i64 x.a, .int .i64 x.b, .int .i64 x.c] 87)).trans (hb3.mono (by simp; omega))
            go_wp2
            go_ret
            exact ⟨ret_bool (doorsOk_k hlx.out (by rw [HLm.out]; exact HY.out)).symm, B0.trans (B3.mono (by omega))⟩
        · have e : k = n := by omega
          have HV := Lib.hid (doorsOk_y HOK.out (by rw [HLn.out]; exact h8) (by rw [HLn.out, HLm.out, ← e]; exact HK.out))
          clear e
          go_wp2
          go_ret
          exact ⟨ret_bool HV.out.symm, Bw⟩
    · have HV := Lib.hid (doorsOk_l (J := J) (aw := aw) (xs := xs) (by rw [HLn.out]; omega))
      go_wp2
      go_ret
      exact ⟨ret_bool HV.out.symm, B0.trans (hb1'.mono (by omega))⟩
  · have HV := Lib.hid (doorsOk_m (xs := xs) hok)
    go_wp2
    go_ret
    exact ⟨ret_bool HV.out.symm, B0.trans (hb1'.mono (by omega))⟩
end Go.Proofs.Ytgbmpadlfcbcaaa
