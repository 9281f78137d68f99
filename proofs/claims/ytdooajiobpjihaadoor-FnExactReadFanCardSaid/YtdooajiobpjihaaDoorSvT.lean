/- Contracts of the texts of surveys, both sides. -/
import Derived.Test.YtdooajiobpjihaaDoorTxtC
import Derived.Test.YtdooajiobpjihaaDoorSvs
import Derived.Deep.RegionHeld3
namespace Go.Proofs.YtdooajiobpjihaaDoor
set_option linter.unusedVariables false
set_option linter.unusedSimpArgs false
open Go.RowKit
theorem jnS_64 {xs : List Int} (h : xs.length ≤ 64) (hb : ∀ x ∈ xs, -9223372036854775808 ≤ x ∧ x ≤ 9223372036854775807) : (lstS xs).size ≤ 1408 := by
  by_cases h0 : xs = []
  · subst h0; rw [lstS_e]; decide
  · rw [lstS_n h0]
    have := jnS_len hb xs.length (Nat.le_refl _)
    rw [List.take_length] at this
    omega
theorem ltS_64 (xs : List Int) : (ltS xs).size ≤ 1408 := by
  cases h : fitL xs with
  | true =>
    rw [ltS_y h]
    obtain ⟨h1, h2⟩ := fitL_t h
    exact jnS_64 h1 fun x hx => by have := h2 x hx; omega
  | false => rw [ltS_n h]; decide
/-- A name and a list as text. -/
def widS (s : ByteArray) (xs : List Int) : ByteArray := s ++ ⟨#[32]⟩ ++ ltS xs
set_option maxHeartbeats 800000 in
theorem withId_any (s : ByteArray) (A : Option Addr) (n c : Nat) (xs : List Int) (w : World) (hr : Reads w w.heap.size 1 A n (ints xs)) (hn : n ≤ 1048576) (hs : s.size ≤ 1048576) (ht : Pow w) :
    Calls Tryd.prog 46 #[.string s, .slice A n c] w fun e w' => e = .returned (.string (widS s xs)) ∧ Below w.heap.size w w' := by
  have HC := Lib.hid (ListText_any A n c xs w hr hn ht)
  have hz := ltS_64 xs
  have hs1 : (s ++ ⟨#[32]⟩).size ≤ 1048577 := by rw [ba_app_size]; show _ + 1 ≤ _; omega
  have HV : Hid (widS s xs = s ++ ⟨#[32]⟩ ++ ltS xs) := rfl
  generalize ltS xs = lt at *
  clear hr ht
  go_enter Tryd.func46, Tryd.ntmps46
  go_wp2_with fail; ((with_reducible refine HC.out.mono ?_); rintro e w2 ⟨rfl, hb2⟩)
  go_wp2
  go_ret
  exact ⟨by rw [HV.out]; rfl, hb2⟩
def svT (x : Svy) : ByteArray := if svyOk x = true then widS x.s [x.d, x.e, x.f, x.g] else ⟨#[]⟩
theorem svT_y {x : Svy} (h : svyOk x = true) : svT x = widS x.s [x.d, x.e, x.f, x.g] := if_pos h
theorem svT_n {x : Svy} (h : svyOk x = false) : svT x = ⟨#[]⟩ := if_neg (by rw [h]; simp)
theorem svfit {x : Svy} (h : svyOk x = true) : fitL [x.d, x.e, x.f, x.g] = true := by
  obtain ⟨h1, h2, h3, h4, h5, h6, h7, h8, _⟩ := svyOk_t h
  unfold fitL
  have hi : ∀ a : Int, 0 ≤ a → a ≤ 100000 → inB a (-1000000000000) 1000000000000 = true := fun a ha hb => by unfold inB; simp; omega
  simp only [List.length_cons, List.length_nil, List.all_cons, List.all_nil]
  rw [hi _ h1 (by omega), hi _ h3 (by omega), hi _ (by omega) h6, hi _ h7 (by omega)]; rfl
set_option maxHeartbeats 1600000 in
set_option maxRecDepth 100000 in
theorem l05Text_any (x : Svy) (p : Addr) (w : World) (hs : x.s.size ≤ 1048576) (hc : Cells w p x.cells) (hok : svyOk x = true) :
    Calls Tryd.prog 44 #[.pointer (some p)] w fun e w' => e = .returned (.string (svT x)) ∧ Below w.heap.size w w' := by
  obtain ⟨h0, h1, h2, h3, h4⟩ := Svy.open_ hc
  obtain ⟨b1, b2, b3, b4, b5, b6, b7, b8, _⟩ := svyOk_t hok
  have HV : Hid (svT x = x.s ++ ⟨#[32]⟩ ++ lstS [x.d, x.e, x.f, x.g]) := show _ = _ by rw [svT_y hok]; unfold widS; rw [ltS_y (svfit hok)]
  have hbd : ∀ y ∈ [x.d, x.e, x.f, x.g], -9223372036854775808 ≤ y ∧ y ≤ 9223372036854775807 := fun y hy => by
    simp only [List.mem_cons, List.not_mem_nil, or_false] at hy
    rcases hy with rfl | rfl | rfl | rfl <;> omega
  have hz := jnS_64 (xs := [x.d, x.e, x.f, x.g]) (by simp) hbd
  have HC : Hid (∀ (W : World) (m : Nat), Calls Tryd.prog 68 #[.slice (some ⟨W.heap.size, 0, none⟩) 4 4] ((W.alloc (.cells #[.int .i64 x.d, .int .i64 x.e, .int .i64 x.f, .int .i64 x.g] 2)).drewN m) fun e w' => e = .returned (.string (lstS [x.d, x.e, x.f, x.g])) ∧ Below W.heap.size W w') := fun W m => by
    have ho : (W.alloc (.cells #[.int .i64 x.d, .int .i64 x.e, .int .i64 x.f, .int .i64 x.g] 2)).ownsRow W.heap.size 2 1 (.slice (some ⟨W.heap.size, 0, none⟩) 4 4) 4 (ints [x.d, x.e, x.f, x.g]) := own_of_blk (Blk.new W 2 _) rfl rfl (by unfold maxLen; omega) (fun j _ => by rw [← Array.getElem?_toList]; rfl)
    have hb : Below W.heap.size W ((W.alloc (.cells #[.int .i64 x.d, .int .i64 x.e, .int .i64 x.f, .int .i64 x.g] 2)).drewN m) := below_drewN ((Below.refl _ _).alloc (Nat.le_refl _) _) _
    exact (l01List_any _ 4 4 _ _ (Reads.of_own (own_drewN ho m)) (by omega) hbd).mono fun _ _ ⟨he, hb2⟩ => ⟨he, hb.trans (hb2.mono hb.size)⟩
  have hs1 : (x.s ++ ⟨#[32]⟩).size ≤ 1048577 := by rw [ba_app_size]; show _ + 1 ≤ _; omega
  generalize lstS [x.d, x.e, x.f, x.g] = lt at *
  have hru1 : ∀ W : World, (Op.stringOp .add x.s ⟨#[32]⟩).run Tryd.prog W = .ok (.string (x.s ++ ⟨#[32]⟩)) W := fun W => run_string_add_sum W _ _ (by show _ + 1 ≤ _; omega)
  have hru2 : ∀ W : World, (Op.stringOp .add (x.s ++ ⟨#[32]⟩) lt).run Tryd.prog W = .ok (.string (x.s ++ ⟨#[32]⟩ ++ lt)) W := fun W => run_string_add_sum W _ _ (by omega)
  clear hc hbd hok
  go_enter Tryd.func44, Tryd.ntmps44
  go_wp2
  go_region_held3 (fun w' => w'.cell? p = some (.string x.s) ∧ w'.cell? ⟨p.block, p.off + 1, none⟩ = some (.int .i64 x.d) ∧ w'.cell? ⟨p.block, p.off + 2, none⟩ = some (.int .i64 x.e) ∧ w'.cell? ⟨p.block, p.off + 3, none⟩ = some (.int .i64 x.f) ∧ w'.cell? ⟨p.block, p.off + 4, none⟩ = some (.int .i64 x.g))
    (first | go_keep | (exact ⟨(hb2.cell (block_lt_of_cell h0)).trans h0, (hb2.cell (block_lt_of_cell h1)).trans h1, (hb2.cell (block_lt_of_cell h2)).trans h2, (hb2.cell (block_lt_of_cell h3)).trans h3, (hb2.cell (block_lt_of_cell h4)).trans h4⟩))
    ((go_at_call 68; refine (HC.out w 1).mono ?_; rintro e w2 ⟨rfl, hb2⟩))
  go_wp2
  go_ret
  exact ⟨by rw [HV.out]; rfl, hb2⟩
set_option maxHeartbeats 800000 in
theorem specSurveyText_any (x : Svy) (w : World) (hs : x.s.size ≤ 1048576) :
    Calls Tryd.prog 21 #[.agg #[.string x.s, .int .i64 x.d, .int .i64 x.e, .int .i64 x.f, .int .i64 x.g]] w fun e w' => e = .returned (.string (svT x)) ∧ Below w.heap.size w w' := by
  have hb : Below w.heap.size w (w.alloc (.cells #[.string x.s, .int .i64 x.d, .int .i64 x.e, .int .i64 x.f, .int .i64 x.g] 23)) := (Below.refl _ _).alloc (Nat.le_refl _) _
  have hc : Cells (w.alloc (.cells #[.string x.s, .int .i64 x.d, .int .i64 x.e, .int .i64 x.f, .int .i64 x.g] 23)) ⟨w.heap.size, 0, none⟩ x.cells := Cells.new w _ _
  have c1 := l05One_any x ⟨w.heap.size, 0, none⟩ _ (by unfold maxLen; omega) hc
  rcases Bool.eq_false_or_eq_true (svyOk x) with k | k
  · have HT : Hid (∀ m, Calls Tryd.prog 44 #[.pointer (some ⟨w.heap.size, 0, none⟩)] ((w.alloc (.cells #[.string x.s, .int .i64 x.d, .int .i64 x.e, .int .i64 x.f, .int .i64 x.g] 23)).drewN m) fun e w' => e = .returned (.string (svT x)) ∧ Below w.heap.size w w') := fun m => (l05Text_any x ⟨w.heap.size, 0, none⟩ _ hs (hc.drewN m) k).mono fun _ _ ⟨he, hb2⟩ => ⟨he, (below_drewN hb m).trans (hb2.mono (below_drewN hb m).size)⟩
    rw [k] at c1
    have HC := Lib.hid c1
    clear c1 k hc
    go_enter Tryd.func21, Tryd.ntmps21
    go_wp2_with fail; ((with_reducible refine HC.out.mono ?_); rintro e w2 ⟨rfl, m, rfl⟩)
    go_wp2_with fail; ((with_reducible refine (HT.out m).mono ?_); rintro e w3 ⟨rfl, hb3⟩)
    go_wp2
    go_ret
    exact ⟨rfl, hb3⟩
  · have HV := Lib.hid (svT_n k)
    rw [k] at c1
    have HC := Lib.hid c1
    clear c1 k hc
    go_enter Tryd.func21, Tryd.ntmps21
    go_wp2_with fail; ((with_reducible refine HC.out.mono ?_); rintro e w2 ⟨rfl, m, rfl⟩)
    go_wp2
    go_ret
    exact ⟨by rw [HV.out]; rfl, below_drewN hb m⟩
set_option maxHeartbeats 800000 in
theorem implSurveyText_any (x : Svy) (w : World) (hs : x.s.size ≤ 1048576) (ht : Pow w) :
    Calls Tryd.prog 23 #[.agg #[.string x.s, .int .i64 x.d, .int .i64 x.e, .int .i64 x.f, .int .i64 x.g]] w fun e w' => e = .returned (.string (svT x)) ∧ Below w.heap.size w w' := by
  have hb : Below w.heap.size w (w.alloc (.cells #[.string x.s, .int .i64 x.d, .int .i64 x.e, .int .i64 x.f, .int .i64 x.g] 23)) := (Below.refl _ _).alloc (Nat.le_refl _) _
  have hc : Cells (w.alloc (.cells #[.string x.s, .int .i64 x.d, .int .i64 x.e, .int .i64 x.f, .int .i64 x.g] 23)) ⟨w.heap.size, 0, none⟩ x.cells := Cells.new w _ _
  have z0 : w.heap.size < (w.alloc (.cells #[.string x.s, .int .i64 x.d, .int .i64 x.e, .int .i64 x.f, .int .i64 x.g] 23)).heap.size := by simp
  have c1 := ValidSurvey_any x (w.alloc (.cells #[.string x.s, .int .i64 x.d, .int .i64 x.e, .int .i64 x.f, .int .i64 x.g] 23)) (by unfold maxLen; omega)
  rcases Bool.eq_false_or_eq_true (svyOk x) with k | k
  · have HV := Lib.hid (svT_y k)
    have HTP := Lib.hid (fun W (hb : Below w.heap.size w W) => pow_below ht hb)
    rw [k] at c1
    have HC := Lib.hid c1
    clear c1 k ht
    go_enter Tryd.func23, Tryd.ntmps23
    go_wp2_with fail; ((with_reducible refine HC.out.mono ?_); rintro e w2 ⟨rfl, hb2⟩)
    have B2 := hb.trans (hb2.mono hb.size)
    obtain ⟨h0, h1, h2, h3, h4⟩ := Svy.open_ (hc.below hb2 z0)
    have ho : (w2.alloc (.cells #[.int .i64 x.d, .int .i64 x.e, .int .i64 x.f, .int .i64 x.g] 2)).ownsRow w2.heap.size 2 1 (.slice (some ⟨w2.heap.size, 0, none⟩) 4 4) 4 (ints [x.d, x.e, x.f, x.g]) := own_of_blk (Blk.new w2 2 _) rfl rfl (by unfold maxLen; omega) (fun j _ => by rw [← Array.getElem?_toList]; rfl)
    have B3 : Below w.heap.size w (w2.alloc (.cells #[.int .i64 x.d, .int .i64 x.e, .int .i64 x.f, .int .i64 x.g] 2)) := B2.alloc B2.size _
    have HW := Lib.hid (withId_any x.s _ 4 4 _ _ (Reads.of_own ho) (by omega) hs (HTP.out _ B3))
    clear ho hc
    go_wp2_with fail; ((with_reducible refine HW.out.mono ?_); rintro e w3 ⟨rfl, hb3⟩)
    go_wp2
    go_ret
    exact ⟨by rw [HV.out]; rfl, B3.trans (hb3.mono B3.size)⟩
  · have HV := Lib.hid (svT_n k)
    rw [k] at c1
    have HC := Lib.hid c1
    clear c1 k hc ht
    go_enter Tryd.func23, Tryd.ntmps23
    go_wp2_with fail; ((with_reducible refine HC.out.mono ?_); rintro e w2 ⟨rfl, hb2⟩)
    go_wp2
    go_ret
    exact ⟨by rw [HV.out]; rfl, hb.trans (hb2.mono hb.size)⟩
end Go.Proofs.YtdooajiobpjihaaDoor
