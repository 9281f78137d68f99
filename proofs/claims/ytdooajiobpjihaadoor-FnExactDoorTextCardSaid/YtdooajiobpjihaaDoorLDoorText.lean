/- The law FnExactDoorText: for every door the program's DoorText and the reference's return the same text; no condition but the library's tables. -/
import Derived.Test.YtdooajiobpjihaaDoorFrame
import Derived.Test.YtdooajiobpjihaaDoorOwn
import Derived.Test.YtdooajiobpjihaaDoorFrN
import Derived.Test.YtdooajiobpjihaaDoorDrT
import Derived.Test.YtdooajiobpjihaaDoorTie
import Derived.Test.YtdooajiobpjihaaDoorCards
import Derived.ProofKit
import Derived.LaidMore
import Derived.OpenShut
import Derived.SevenTiedAt
import Derived.Stop.Joined
namespace Go.Proofs.YtdooajiobpjihaaDoor.lDoorText
set_option linter.unusedVariables false
set_option linter.unusedSimpArgs false
open Go.ChangeShapes Go.WideShapes Go.ChangeAt Go.RowKit
set_option maxHeartbeats 1600000 in
theorem walk (s : ByteArray) (a b c : Int) (hs : s.size ≤ maxLen) (w : World) (ht : Pow w) :
    Calls Tryd.prog 7 #[.agg #[.string s, .int .i64 a, .int .i64 b, .int .i64 c]] w fun e w' => e = .returned (.bool true) ∧ Below w.heap.size w w' := by
  have HTP := Lib.hid (fun W (hb : Below w.heap.size w W) => pow_below ht hb)
  clear ht
  obtain ⟨x, hx⟩ : ∃ x : Dor, x = ⟨s, a, b, c⟩ := ⟨_, rfl⟩
  have hx0 : s = x.s ∧ a = x.a ∧ b = x.b ∧ c = x.c := by rw [hx]; exact ⟨rfl, rfl, rfl, rfl⟩
  obtain ⟨rfl, rfl, rfl, rfl⟩ := hx0
  clear hx
  by_cases h : (1048576 : Int) < x.s.size
  · have HZ : Hid (∀ W, Calls Tryd.prog 24 #[.agg #[.string x.s, .int .i64 x.a, .int .i64 x.b, .int .i64 x.c], .int .i64 1048576] W fun e w' => e = .returned (.int .i64 (-1)) ∧ Below W.heap.size W w') := fun W => by
      have h1 := szDor_any x 1048576 W hs (by omega) (by omega)
      rw [szI_n h] at h1; exact h1
    go_enter Tryd.func7, Tryd.ntmps7
    go_wp2_with fail; ((with_reducible refine (HZ.out _).mono ?_); rintro e w1 ⟨rfl, hb1⟩); obtain ⟨hc1, hf1⟩ := bcell hb1; have z1_0 : w.heap.size < w1.heap.size := by have hz := hb1.size; (try simp at hz); omega
    go_wp2
    go_ret
    exact ⟨rfl, by (repeat (first | exact Below.refl _ _ | assumption | (refine Below.alloc ?_ (by first | exact Nat.le_refl _ | (simp; done) | (simp; omega)) _) | (refine below_drewN ?_ _) | (refine Below.trans ?_ (Below.mono (by assumption) (by first | exact Nat.le_refl _ | (simp; done) | (simp; omega) | omega)))))⟩
  · have HZ : Hid (∀ W, Calls Tryd.prog 24 #[.agg #[.string x.s, .int .i64 x.a, .int .i64 x.b, .int .i64 x.c], .int .i64 1048576] W fun e w' => e = .returned (.int .i64 (1048576 - x.s.size)) ∧ Below W.heap.size W w') := fun W => by
      have h1 := szDor_any x 1048576 W hs (by omega) (by omega)
      rw [szI_y h] at h1; exact h1
    go_enter Tryd.func7, Tryd.ntmps7
    go_wp2_with fail; ((with_reducible refine (HZ.out _).mono ?_); rintro e w1 ⟨rfl, hb1⟩); obtain ⟨hc1, hf1⟩ := bcell hb1; have z1_0 : w.heap.size < w1.heap.size := by have hz := hb1.size; (try simp at hz); omega
    go_wp2_with fail; ((with_reducible refine (toDor_any x _ hs).mono ?_); rintro e w2 ⟨rfl, hb2⟩); obtain ⟨hc2, hf2⟩ := bcell hb2; have z2_0 : w.heap.size < w2.heap.size := by have hz := hb2.size; (try simp at hz); omega
    go_wp2_with fail; ((with_reducible refine (specDoorText_any x _ (by omega)).mono ?_); rintro e w3 ⟨rfl, hb3⟩); obtain ⟨hc3, hf3⟩ := bcell hb3; have z3_0 : w.heap.size < w3.heap.size := by have hz := hb3.size; (try simp at hz); omega
    go_wp2_with fail; ((with_reducible refine (toDor_any x _ hs).mono ?_); rintro e w4 ⟨rfl, hb4⟩); obtain ⟨hc4, hf4⟩ := bcell hb4; have z4_0 : w.heap.size < w4.heap.size := by have hz := hb4.size; (try simp at hz); omega
    have hB4 : Below w.heap.size w w4 := by (repeat (first | exact Below.refl _ _ | assumption | (refine Below.alloc ?_ (by first | exact Nat.le_refl _ | (simp; done) | (simp; omega)) _) | (refine below_drewN ?_ _) | (refine Below.trans ?_ (Below.mono (by assumption) (by first | exact Nat.le_refl _ | (simp; done) | (simp; omega) | omega)))))
    go_wp2_with fail; ((with_reducible refine (implDoorText_any x _ (by omega) (HTP.out _ hB4)).mono ?_); rintro e w5 ⟨rfl, hb5⟩); obtain ⟨hc5, hf5⟩ := bcell hb5; have z5_0 : w.heap.size < w5.heap.size := by have hz := hb5.size; (try simp at hz); omega
    go_wp2
    go_ret
    exact ⟨rfl, by (repeat (first | exact Below.refl _ _ | assumption | (refine Below.alloc ?_ (by first | exact Nat.le_refl _ | (simp; done) | (simp; omega)) _) | (refine below_drewN ?_ _) | (refine Below.trans ?_ (Below.mono (by assumption) (by first | exact Nat.le_refl _ | (simp; done) | (simp; omega) | omega)))))⟩
theorem door_met (os : Os) (args : Array Value) : laidMetH Tryd.prog Rows.fnExactDoorTextRow.laid ((World.doorLaid Tryd.prog 400 os).forCall (fun _ _ => 0) ⟨#[], args, []⟩).memory :=
  laidMetH_of_parts3 (fuel := 8) (laidMet_of_run' 8 (by kernel_rfl) (by kernel_rfl)) (by kernel_rfl) (by kernel_rfl)
theorem of_laid {W : World} (h : laidMetH Tryd.prog Rows.fnExactDoorTextRow.laid W) : Pow W := by
  rw [MakeChecks.laidMetH_plain _ _ _ (by kernel_rfl)] at h
  obtain ⟨ps, ⟨g0, t0, cs0, f0, p0, q0, hg0, ht0, hv0, hd0, ⟨g1, t1, cs1, f1, p1, q1, hg1, ht1, hv1, hd1, ⟨g2, t2, cs2, f2, p2, q2, hg2, ht2, hv2, hd2, _, _⟩, _⟩, _⟩, _, _⟩ := h
  obtain rfl := Option.some.inj (gPow.symm.trans hg2)
  obtain rfl := Option.some.inj ((show (Tryd.prog.globals[1]?).map (·.type) = some 132 by kernel_rfl).symm.trans ht2)
  unfold Pow Lib.TabIs
  rw [hv2, ← Lib.cells_of_tab (zs := Lib.pow10Tab) (k := .u64) Tryd.underlying132 (by kernel_rfl) (by kernel_rfl) (by kernel_rfl) hd2]

set_option maxRecDepth 100000 in
theorem lifted (os : Os) (started : os.Started) (H : Type) (enc : TypeId × Value → H) :
    ReturnsInHanded {} Tryd.checked os 7 .any (fun w args => (Rows.fnExactDoorTextSpec.pre enc Tryd.prog Tryd.f7 [] false w args ∧ laidMetH Tryd.prog Rows.fnExactDoorTextRow.laid w) ∧ sizedMet enc Tryd.prog Tryd.f7 (OpenSpec.ofChange Rows.fnExactDoorTextSpec) false w args) (Rows.fnExactDoorTextSpec.post enc Tryd.prog Tryd.f7 false true false false) := by
  refine returnsInHanded_of_change_and (C := Tryd.checked) (X := fun w _ => laidMetH Tryd.prog Rows.fnExactDoorTextRow.laid w) (fun _ _ _ hh h => h.of_heap hh) own_ started (by kernel_rfl) Tryd.func7
    (ChangeSpec.witness_shaped (enc := enc) (C := Tryd.checked) (os := os) (X := fun w _ => laidMetH Tryd.prog Rows.fnExactDoorTextRow.laid w) false (World.doorLaid Tryd.prog 400 os) #[.agg #[.string ByteArray.empty, .int .i64 0, .int .i64 0, .int .i64 0]] 12 rfl (World.shaped_of_RefB (by kernel_rfl) (by kernel_rfl)) (by kernel_rfl) (by kernel_rfl) (by kernel_rfl) (door_met os _)) ?_
  intro W base args ds gs before hval0 hW _ _ hL _
  have hval : ∀ (j : Nat) t v, Tryd.f7.params[j]? = some t → args[j]? = some v → Value.okWide Tryd.prog W .any base t v := hval0
  have hW' := hW
  obtain ⟨p, q, hA0, hV, rfl, hfz, hnd⟩ := hW
  have hA : DataW.TrodAll enc Tryd.prog W 0 (fun _ => true) true Tryd.f7.params.toList args.toList ds p := hA0
  rw [Tryd.params7] at hA hval
  obtain ⟨v0, vs0, d0, ds0, p0, q0, hargs, rfl, rfl, h0, r0⟩ := trodAll_cons hA
  obtain ⟨rfl, rfl, rfl⟩ := trodAll_nil r0
  obtain rfl : args = #[v0] := by cases args; simp_all
  obtain ⟨rfl, rfl⟩ := trodVars_none hV
  obtain ⟨s0, a0, b0, c0, rfl, ls0⟩ := op_door Tryd.underlying47 (by kernel_rfl) (by kernel_rfl) Tryd.underlying9 Tryd.underlying2 Tryd.underlying2 Tryd.underlying2 (hval 0 47 v0 rfl rfl) h0
  clear hA0 hval0
  refine (walk s0 a0 b0 c0 ls0 W (of_laid hL)).mono fun e W' ⟨he, hb⟩ => ?_
  subst he
  exact ⟨_, rfl, law_post laidOut_ (by kernel_rfl) rfl rfl Tryd.underlying4 hW' rfl hb⟩

theorem over : Rows.fnExactDoorTextRow.holds Tryd.pinned (OpenSpec.ofChange Rows.fnExactDoorTextSpec) :=
  OpenClaim.holds_of_wide 7 Tryd.f7 rfl rfl rfl rfl rfl rfl rfl ⟨rfl, rfl, rfl, rfl, rfl⟩ rfl rfl rfl rfl rfl (by kernel_rfl) Tryd.func7 (by kernel_rfl)
    (of_decide_eq_true (by kernel_rfl)) (by unfold Func.isWrapper; first | (rw [if_pos (by decide +kernel)]; kernel_rfl) | (rw [if_neg (by decide +kernel)]; exact ⟨rfl, rfl⟩))
    (fun os started H enc _ => lifted os started H enc)

/-- The card. -/
theorem proved : Rows.FnExactDoorTextCardSaid :=
  Claim7.holds_tied_plain_at .later [] Rows.fnExactDoorTextCard.laidKinds true (true, "aa79c08a9f025a9ab2f99bdb399bb02533aa464f12e30b200165edd2642db5f2") true
    over (fun _ h => by cases h) (by kernel_rfl) (fun _ h => by cases h) fnExactDoorText_row_tie rfl ⟨rfl, rfl⟩ (by kernel_rfl) rfl
    (fun f fn hf hfn => by
      obtain rfl : f = 7 := Option.some.inj ((show Tryd.prog.funcNamed "loop.example/g01021/laws.FnExactDoorText" = some 7 by kernel_rfl).symm.trans hf) |>.symm
      obtain rfl : fn = Tryd.f7 := (Option.some.inj (Tryd.func7.symm.trans hfn)).symm
      exact ⟨by kernel_rfl, fun j t ht => by
        rw [Tryd.params7] at ht
        have h3 : t = 47 := by
          rcases j with _ | j
          · simpa using ht.symm
          · simp at ht
        subst h3
        exact (show Tryd.prog.wantsStandIn 47 = false by kernel_rfl)⟩)
    (by kernel_rfl)
#print axioms proved
end Go.Proofs.YtdooajiobpjihaaDoor.lDoorText
