/- The law FnExactReadDoor: for every text the program's ReadDoor and the reference's return the same; no condition but the library's tables and variables. -/
import Derived.Test.YtdooajiobpjihaaDoorFrame
import Derived.Test.YtdooajiobpjihaaDoorOwn
import Derived.Test.YtdooajiobpjihaaDoorCrd
import Derived.Test.YtdooajiobpjihaaDoorRdD
import Derived.Test.YtdooajiobpjihaaDoorTie
import Derived.Test.YtdooajiobpjihaaDoorCards
import Derived.ProofKit
import Derived.LaidMore
import Derived.OpenShut
import Derived.SevenTiedAt
import Derived.Stop.Joined
import Derived.Lay
namespace Go.Proofs.YtdooajiobpjihaaDoor.lReadDoor
set_option linter.unusedVariables false
set_option linter.unusedSimpArgs false
open Go.ChangeShapes Go.WideShapes Go.ChangeAt Go.RowKit
set_option maxHeartbeats 1600000 in
theorem walk (s0 : ByteArray) (ls0 : s0.size ≤ maxLen) (w : World) (ht : Lib3 w) :
    Calls Tryd.prog 4 #[.string s0] w fun e w' => e = .returned (.bool true) ∧ Below w.heap.size w w' := by
  by_cases big : 1048576 < s0.size
  · clear ht
    go_enter Tryd.func4, Tryd.ntmps4
    go_wp2
    go_ret
    exact ⟨rfl, Below.refl _ _⟩
  have hn : s0.size ≤ 1048576 := by omega
  have HS : Hid (∀ W, Calls Tryd.prog 12 #[.string s0] W fun e w' => e = .returned (.tuple #[.agg #[.string (drR s0.data.toList).s, .int .i64 (drR s0.data.toList).a, .int .i64 (drR s0.data.toList).b, .int .i64 (drR s0.data.toList).c], .bool (drB s0.data.toList)]) ∧ Below W.heap.size W w') := fun W => specReadDoor_any s0 W hn
  have HI : Hid (∀ W, Below w.heap.size w W → Calls Tryd.prog 13 #[.string s0] W fun e w' => e = .returned (.tuple #[.agg #[.string (drR s0.data.toList).s, .int .i64 (drR s0.data.toList).a, .int .i64 (drR s0.data.toList).b, .int .i64 (drR s0.data.toList).c], .bool (drB s0.data.toList)]) ∧ Below W.heap.size W w') := fun W hW => impldr_any s0 W hn (lib3_below ht hW)
  clear ht
  generalize drR s0.data.toList = x at *
  generalize drB s0.data.toList = b at *
  go_enter Tryd.func4, Tryd.ntmps4
  go_wp2_with fail; ((with_reducible refine (HS.out _).mono ?_); rintro e w1 ⟨rfl, hb1⟩)
  have hB1 : Below w.heap.size w (w1.alloc (.cells #[.string x.s, .int .i64 x.a, .int .i64 x.b, .int .i64 x.c] 29)) := hb1.alloc hb1.size _
  have K1 := Blk.new w1 29 #[.string x.s, .int .i64 x.a, .int .i64 x.b, .int .i64 x.c]
  go_wp2_with fail; ((with_reducible refine (HI.out _ hB1).mono ?_); rintro e w2 ⟨rfl, hb2⟩)
  have K2 := K1.below hb2 (by simp)
  have hB2 := hB1.trans (hb2.mono hB1.size)
  have hz2 : w1.heap.size < w2.heap.size := by have h := hb2.size; simp at h; omega
  have y0 := K2.cell 0
  have y1 := K2.cell 1
  have y2 := K2.cell 2
  have y3 := K2.cell 3
  clear K1 hb1 hb2
  go_wp2_with fail; ((with_reducible refine (eqDor_any x _).mono ?_); rintro e w3 ⟨rfl, hb3⟩)
  have hB3 : Below w.heap.size w w3 := (hB2.alloc hB2.size _).trans (hb3.mono (hB2.alloc hB2.size (.cells #[.string x.s, .int .i64 x.a, .int .i64 x.b, .int .i64 x.c] 29)).size)
  go_wp2
  go_ret
  exact ⟨by cases b <;> rfl, hB3⟩
theorem door_met (os : Os) (args : Array Value) : laidMetH Tryd.prog Rows.fnExactReadDoorRow.laid ((World.laidAll Tryd.prog os Rows.fnExactReadDoorRow.laid).forCall (fun _ _ => 0) ⟨#[], args, []⟩).memory := by
  rw [MakeChecks.laidMetH_plain _ _ _ (by kernel_rfl)]
  exact laidMet_laidAll _ (by kernel_rfl) (by kernel_rfl)
theorem of_laid {W : World} (h : laidMetH Tryd.prog Rows.fnExactReadDoorRow.laid W) (hsh : W.ShapedOpen Tryd.prog) : Lib3 W := by
  rw [MakeChecks.laidMetH_plain _ _ _ (by kernel_rfl)] at h
  obtain ⟨ps, ⟨g0, t0, cs0, f0, p0, q0, hg0, ht0, hv0, hd0, ⟨g1, t1, cs1, f1, p1, q1, hg1, ht1, hv1, hd1, ⟨g2, t2, cs2, f2, p2, q2, hg2, ht2, hv2, hd2, ⟨g3, t3, cs3, f3, p3, q3, hg3, ht3, hv3, hd3, ⟨g4, t4, cs4, f4, p4, q4, hg4, ht4, hv4, hd4, ⟨g5, t5, cs5, f5, p5, q5, hg5, ht5, hv5, hd5, _, _⟩, _⟩, _⟩, _⟩, _⟩, _⟩, _, _⟩ := h
  obtain rfl := Option.some.inj (gPow.symm.trans hg2)
  obtain rfl := Option.some.inj ((show (Tryd.prog.globals[1]?).map (·.type) = some 132 by kernel_rfl).symm.trans ht2)
  obtain rfl := Option.some.inj (gRng.symm.trans hg4)
  obtain rfl := Option.some.inj ((show (Tryd.prog.globals[3]?).map (·.type) = some 94 by kernel_rfl).symm.trans ht4)
  obtain rfl := Option.some.inj (gSyn.symm.trans hg5)
  obtain rfl := Option.some.inj ((show (Tryd.prog.globals[2]?).map (·.type) = some 94 by kernel_rfl).symm.trans ht5)
  have hP : Pow W := by
    unfold Pow Lib.TabIs
    rw [hv2, ← Lib.cells_of_tab (zs := Lib.pow10Tab) (k := .u64) Tryd.underlying132 (by kernel_rfl) (by kernel_rfl) (by kernel_rfl) hd2]
  exact lib3_of hP hv4 hd4 hv5 hd5 hsh

set_option maxRecDepth 100000 in
theorem lifted (os : Os) (started : os.Started) (H : Type) (enc : TypeId × Value → H) :
    ReturnsInHanded {} Tryd.checked os 4 .any (fun w args => (Rows.fnExactReadDoorSpec.pre enc Tryd.prog Tryd.f4 [] false w args ∧ laidMetH Tryd.prog Rows.fnExactReadDoorRow.laid w) ∧ sizedMet enc Tryd.prog Tryd.f4 (OpenSpec.ofChange Rows.fnExactReadDoorSpec) false w args) (Rows.fnExactReadDoorSpec.post enc Tryd.prog Tryd.f4 false true false false) := by
  refine handed_shaped (C := Tryd.checked) (X := fun w _ => laidMetH Tryd.prog Rows.fnExactReadDoorRow.laid w) (fun _ _ _ hh h => h.of_heap hh) own_ started (by kernel_rfl) Tryd.func4
    (ChangeSpec.witness_shaped (enc := enc) (C := Tryd.checked) (os := os) (X := fun w _ => laidMetH Tryd.prog Rows.fnExactReadDoorRow.laid w) false (World.laidAll Tryd.prog os Rows.fnExactReadDoorRow.laid) #[.string ByteArray.empty] 12 (World.laidAll_os _ _ _) (World.shaped_of_ZipB (by kernel_rfl) (by kernel_rfl)) (by kernel_rfl) (by kernel_rfl) (by kernel_rfl) (door_met os _)) ?_
  intro W base args ds gs before hval0 hW hL hsh
  have hval : ∀ (j : Nat) t v, Tryd.f4.params[j]? = some t → args[j]? = some v → Value.okWide Tryd.prog W .any base t v := hval0
  have hW' := hW
  obtain ⟨p, q, hA0, hV, rfl, hfz, hnd⟩ := hW
  have hA : DataW.TrodAll enc Tryd.prog W 0 (fun _ => true) true Tryd.f4.params.toList args.toList ds p := hA0
  rw [Tryd.params4] at hA hval
  obtain ⟨v0, vs0, d0, ds0, p0, q0, hargs, rfl, rfl, h0, r0⟩ := trodAll_cons hA
  obtain ⟨rfl, rfl, rfl⟩ := trodAll_nil r0
  obtain rfl : args = #[v0] := by cases args; simp_all
  obtain ⟨rfl, rfl⟩ := trodVars_none hV
  obtain ⟨s0, rfl, ls0⟩ := op_str Tryd.underlying9 (hval 0 9 v0 rfl rfl) h0
  clear hA0 hval0
  refine (walk s0 ls0 W (of_laid hL hsh)).mono fun e W' ⟨he, hb⟩ => ?_
  subst he
  exact ⟨_, rfl, law_post laidOut_ (by kernel_rfl) rfl rfl Tryd.underlying4 hW' rfl hb⟩

theorem over : Rows.fnExactReadDoorRow.holds Tryd.pinned (OpenSpec.ofChange Rows.fnExactReadDoorSpec) :=
  OpenClaim.holds_of_wide 4 Tryd.f4 rfl rfl rfl rfl rfl rfl rfl ⟨rfl, rfl, rfl, rfl, rfl⟩ rfl rfl rfl rfl rfl (by kernel_rfl) Tryd.func4 (by kernel_rfl)
    (of_decide_eq_true (by kernel_rfl)) (by unfold Func.isWrapper; first | (rw [if_pos (by decide +kernel)]; kernel_rfl) | (rw [if_neg (by decide +kernel)]; exact ⟨rfl, rfl⟩))
    (fun os started H enc _ => lifted os started H enc)

/-- The card. -/
theorem proved : Rows.FnExactReadDoorCardSaid :=
  Claim7.holds_tied_plain_at .later [] Rows.fnExactReadDoorCard.laidKinds true (true, "aa79c08a9f025a9ab2f99bdb399bb02533aa464f12e30b200165edd2642db5f2") true
    over (fun _ h => by cases h) (by kernel_rfl) (fun _ h => by cases h) fnExactReadDoor_row_tie rfl ⟨rfl, rfl⟩ (by kernel_rfl) rfl
    (fun f fn hf hfn => by
      obtain rfl : f = 4 := Option.some.inj ((show Tryd.prog.funcNamed "loop.example/g01021/laws.FnExactReadDoor" = some 4 by kernel_rfl).symm.trans hf) |>.symm
      obtain rfl : fn = Tryd.f4 := (Option.some.inj (Tryd.func4.symm.trans hfn)).symm
      exact ⟨by kernel_rfl, fun j t ht => by
        rw [Tryd.params4] at ht
        have h3 : t = 9 := by
          rcases j with _ | j
          · simpa using ht.symm
          · simp at ht
        subst h3
        exact (show Tryd.prog.wantsStandIn 9 = false by kernel_rfl)⟩)
    (by kernel_rfl)
#print axioms proved
end Go.Proofs.YtdooajiobpjihaaDoor.lReadDoor
