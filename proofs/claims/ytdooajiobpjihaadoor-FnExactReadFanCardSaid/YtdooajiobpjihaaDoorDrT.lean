/- Contracts of the texts of doors, both sides. -/
import Derived.Test.YtdooajiobpjihaaDoorSvT
import Derived.Test.YtdooajiobpjihaaDoorRDor
import Derived.Test.YtdooajiobpjihaaDoorDoor
namespace Go.Proofs.YtdooajiobpjihaaDoor
set_option linter.unusedVariables false
set_option linter.unusedSimpArgs false
open Go.RowKit
def drT (x : Dor) : ByteArray := if doorOk x.s x.a x.b x.c = true then widS x.s [x.a, x.b, x.c] else ⟨#[]⟩
theorem drT_y {x : Dor} (h : doorOk x.s x.a x.b x.c = true) : drT x = widS x.s [x.a, x.b, x.c] := if_pos h
theorem drT_n {x : Dor} (h : doorOk x.s x.a x.b x.c = false) : drT x = ⟨#[]⟩ := if_neg (by rw [h]; simp)
theorem door_t {x : Dor} (h : doorOk x.s x.a x.b x.c = true) : (0 ≤ x.a ∧ x.a ≤ 23) ∧ (1 ≤ x.b ∧ x.b ≤ 1000000) ∧ (1 ≤ x.c ∧ x.c ≤ 1000000) := by
  unfold doorOk at h
  simp only [Bool.and_eq_true] at h
  have h1 := inB_t h.1.1.2
  have h2 := isRes_t h.1.2
  have h3 := inB_t h.2
  omega
theorem drfit {x : Dor} (h : doorOk x.s x.a x.b x.c = true) : fitL [x.a, x.b, x.c] = true := by
  obtain ⟨⟨h1, h2⟩, ⟨h3, h4⟩, h5, h6⟩ := door_t h
  unfold fitL
  have hi : ∀ a : Int, 0 ≤ a → a ≤ 1000000 → inB a (-1000000000000) 1000000000000 = true := fun a ha hb => by unfold inB; simp; omega
  simp only [List.length_cons, List.length_nil, List.all_cons, List.all_nil]
  rw [hi _ h1 (by omega), hi _ (by omega) h4, hi _ (by omega) h6]; rfl
set_option maxHeartbeats 1600000 in
set_option maxRecDepth 100000 in
theorem l10Text_any (x : Dor) (p : Addr) (w : World) (hs : x.s.size ≤ 1048576) (hc : Cells w p x.cells) (hok : doorOk x.s x.a x.b x.c = true) :
    Calls Tryd.prog 48 #[.pointer (some p)] w fun e w' => e = .returned (.string (drT x)) ∧ Below w.heap.size w w' := by
  obtain ⟨h0, h1, h2, h3⟩ := Dor.open_ hc
  have hbb := door_t hok
  have HV : Hid (drT x = x.s ++ ⟨#[32]⟩ ++ lstS [x.a, x.b, x.c]) := show _ = _ by rw [drT_y hok]; unfold widS; rw [ltS_y (drfit hok)]
  have hbd : ∀ y ∈ [x.a, x.b, x.c], -9223372036854775808 ≤ y ∧ y ≤ 9223372036854775807 := fun y hy => by
    simp only [List.mem_cons, List.not_mem_nil, or_false] at hy
    rcases hy with rfl | rfl | rfl <;> omega
  have hz := jnS_64 (xs := [x.a, x.b, x.c]) (by simp) hbd
  have HC : Hid (∀ (W : World) (m : Nat), Calls Tryd.prog 68 #[.slice (some ⟨W.heap.size, 0, none⟩) 3 3] ((W.alloc (.cells #[.int .i64 x.a, .int .i64 x.b, .int .i64 x.c] 2)).drewN m) fun e w' => e = .returned (.string (lstS [x.a, x.b, x.c])) ∧ Below W.heap.size W w') := fun W m => by
    have ho : (W.alloc (.cells #[.int .i64 x.a, .int .i64 x.b, .int .i64 x.c] 2)).ownsRow W.heap.size 2 1 (.slice (some ⟨W.heap.size, 0, none⟩) 3 3) 3 (ints [x.a, x.b, x.c]) := own_of_blk (Blk.new W 2 _) rfl rfl (by unfold maxLen; omega) (fun j _ => by rw [← Array.getElem?_toList]; rfl)
    have hb : Below W.heap.size W ((W.alloc (.cells #[.int .i64 x.a, .int .i64 x.b, .int .i64 x.c] 2)).drewN m) := below_drewN ((Below.refl _ _).alloc (Nat.le_refl _) _) _
    exact (l01List_any _ 3 3 _ _ (Reads.of_own (own_drewN ho m)) (by omega) hbd).mono fun _ _ ⟨he, hb2⟩ => ⟨he, hb.trans (hb2.mono hb.size)⟩
  have hs1 : (x.s ++ ⟨#[32]⟩).size ≤ 1048577 := by rw [ba_app_size]; show _ + 1 ≤ _; omega
  generalize lstS [x.a, x.b, x.c] = lt at *
  have hru1 : ∀ W : World, (Op.stringOp .add x.s ⟨#[32]⟩).run Tryd.prog W = .ok (.string (x.s ++ ⟨#[32]⟩)) W := fun W => run_string_add_sum W _ _ (by show _ + 1 ≤ _; omega)
  have hru2 : ∀ W : World, (Op.stringOp .add (x.s ++ ⟨#[32]⟩) lt).run Tryd.prog W = .ok (.string (x.s ++ ⟨#[32]⟩ ++ lt)) W := fun W => run_string_add_sum W _ _ (by omega)
  clear hc hbd hok
  go_enter Tryd.func48, Tryd.ntmps48
  go_wp2
  go_region_held3 (fun w' => w'.cell? p = some (.string x.s) ∧ w'.cell? ⟨p.block, p.off + 1, none⟩ = some (.int .i64 x.a) ∧ w'.cell? ⟨p.block, p.off + 2, none⟩ = some (.int .i64 x.b) ∧ w'.cell? ⟨p.block, p.off + 3, none⟩ = some (.int .i64 x.c))
    (first | go_keep | (exact ⟨(hb2.cell (block_lt_of_cell h0)).trans h0, (hb2.cell (block_lt_of_cell h1)).trans h1, (hb2.cell (block_lt_of_cell h2)).trans h2, (hb2.cell (block_lt_of_cell h3)).trans h3⟩))
    ((go_at_call 68; refine (HC.out w 1).mono ?_; rintro e w2 ⟨rfl, hb2⟩))
  go_wp2
  go_ret
  exact ⟨by rw [HV.out]; rfl, hb2⟩
set_option maxHeartbeats 800000 in
theorem specDoorText_any (x : Dor) (w : World) (hs : x.s.size ≤ 1048576) :
    Calls Tryd.prog 25 #[.agg #[.string x.s, .int .i64 x.a, .int .i64 x.b, .int .i64 x.c]] w fun e w' => e = .returned (.string (drT x)) ∧ Below w.heap.size w w' := by
  have hb : Below w.heap.size w (w.alloc (.cells #[.string x.s, .int .i64 x.a, .int .i64 x.b, .int .i64 x.c] 29)) := (Below.refl _ _).alloc (Nat.le_refl _) _
  have hc : Cells (w.alloc (.cells #[.string x.s, .int .i64 x.a, .int .i64 x.b, .int .i64 x.c] 29)) ⟨w.heap.size, 0, none⟩ x.cells := Cells.new w _ _
  obtain ⟨g0, g1, g2, g3⟩ := Dor.open_ hc
  have c1 := l10One_any x.s x.a x.b x.c w.heap.size _ (by unfold maxLen; omega) g0 g1 g2 g3
  rcases Bool.eq_false_or_eq_true (doorOk x.s x.a x.b x.c) with k | k
  · have HT : Hid (∀ m, Calls Tryd.prog 48 #[.pointer (some ⟨w.heap.size, 0, none⟩)] ((w.alloc (.cells #[.string x.s, .int .i64 x.a, .int .i64 x.b, .int .i64 x.c] 29)).drewN m) fun e w' => e = .returned (.string (drT x)) ∧ Below w.heap.size w w') := fun m => (l10Text_any x ⟨w.heap.size, 0, none⟩ _ hs (hc.drewN m) k).mono fun _ _ ⟨he, hb2⟩ => ⟨he, (below_drewN hb m).trans (hb2.mono (below_drewN hb m).size)⟩
    rw [k] at c1
    have HC := Lib.hid c1
    clear c1 k hc
    go_enter Tryd.func25, Tryd.ntmps25
    go_wp2_with fail; ((with_reducible refine HC.out.mono ?_); rintro e w2 ⟨rfl, m, rfl⟩)
    go_wp2_with fail; ((with_reducible refine (HT.out m).mono ?_); rintro e w3 ⟨rfl, hb3⟩)
    go_wp2
    go_ret
    exact ⟨rfl, hb3⟩
  · have HV := Lib.hid (drT_n k)
    rw [k] at c1
    have HC := Lib.hid c1
    clear c1 k hc
    go_enter Tryd.func25, Tryd.ntmps25
    go_wp2_with fail; ((with_reducible refine HC.out.mono ?_); rintro e w2 ⟨rfl, m, rfl⟩)
    go_wp2
    go_ret
    exact ⟨by rw [HV.out]; rfl, below_drewN hb m⟩
set_option maxHeartbeats 800000 in
theorem implDoorText_any (x : Dor) (w : World) (hs : x.s.size ≤ 1048576) (ht : Pow w) :
    Calls Tryd.prog 27 #[.agg #[.string x.s, .int .i64 x.a, .int .i64 x.b, .int .i64 x.c]] w fun e w' => e = .returned (.string (drT x)) ∧ Below w.heap.size w w' := by
  have hb : Below w.heap.size w (w.alloc (.cells #[.string x.s, .int .i64 x.a, .int .i64 x.b, .int .i64 x.c] 29)) := (Below.refl _ _).alloc (Nat.le_refl _) _
  have hc : Cells (w.alloc (.cells #[.string x.s, .int .i64 x.a, .int .i64 x.b, .int .i64 x.c] 29)) ⟨w.heap.size, 0, none⟩ x.cells := Cells.new w _ _
  have z0 : w.heap.size < (w.alloc (.cells #[.string x.s, .int .i64 x.a, .int .i64 x.b, .int .i64 x.c] 29)).heap.size := by simp
  have c1 := implValidDoor_any x.s x.a x.b x.c (w.alloc (.cells #[.string x.s, .int .i64 x.a, .int .i64 x.b, .int .i64 x.c] 29)) (by unfold maxLen; omega)
  rcases Bool.eq_false_or_eq_true (doorOk x.s x.a x.b x.c) with k | k
  · have HV := Lib.hid (drT_y k)
    have HTP := Lib.hid (fun W (hb : Below w.heap.size w W) => pow_below ht hb)
    rw [k] at c1
    have HC := Lib.hid c1
    clear c1 k ht
    go_enter Tryd.func27, Tryd.ntmps27
    go_wp2_with fail; ((with_reducible refine HC.out.mono ?_); rintro e w2 ⟨rfl, hb2⟩)
    have B2 := hb.trans (hb2.mono hb.size)
    obtain ⟨h0, h1, h2, h3⟩ := Dor.open_ (hc.below hb2 z0)
    have ho : (w2.alloc (.cells #[.int .i64 x.a, .int .i64 x.b, .int .i64 x.c] 2)).ownsRow w2.heap.size 2 1 (.slice (some ⟨w2.heap.size, 0, none⟩) 3 3) 3 (ints [x.a, x.b, x.c]) := own_of_blk (Blk.new w2 2 _) rfl rfl (by unfold maxLen; omega) (fun j _ => by rw [← Array.getElem?_toList]; rfl)
    have B3 : Below w.heap.size w (w2.alloc (.cells #[.int .i64 x.a, .int .i64 x.b, .int .i64 x.c] 2)) := B2.alloc B2.size _
    have HW := Lib.hid (withId_any x.s _ 3 3 _ _ (Reads.of_own ho) (by omega) hs (HTP.out _ B3))
    clear ho hc
    go_wp2_with fail; ((with_reducible refine HW.out.mono ?_); rintro e w3 ⟨rfl, hb3⟩)
    go_wp2
    go_ret
    exact ⟨by rw [HV.out]; rfl, B3.trans (hb3.mono B3.size)⟩
  · have HV := Lib.hid (drT_n k)
    rw [k] at c1
    have HC := Lib.hid c1
    clear c1 k hc ht
    go_enter Tryd.func27, Tryd.ntmps27
    go_wp2_with fail; ((with_reducible refine HC.out.mono ?_); rintro e w2 ⟨rfl, hb2⟩)
    go_wp2
    go_ret
    exact ⟨by rw [HV.out]; rfl, hb.trans (hb2.mono hb.size)⟩
end Go.Proofs.YtdooajiobpjihaaDoor
