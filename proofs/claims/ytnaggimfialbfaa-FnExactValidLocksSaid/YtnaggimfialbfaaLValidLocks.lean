/- The law FnExactValidLocks: for all arguments the program's ValidLocks and the reference's return the same; no condition. -/
import Derived.Test.YtnaggimfialbfaaFrN
import Derived.Test.YtnaggimfialbfaaLkI
namespace Go.Proofs.Ytnaggimfialbfaa.lValidLocks
set_option linter.unusedVariables false
set_option linter.unusedSimpArgs false
open Go.ChangeShapes Go.WideShapes Go.ChangeAt Go.RowKit
set_option maxHeartbeats 1600000 in
theorem walk (a : Int) (la : -9223372036854775808 ≤ a) (ga : a ≤ 9223372036854775807) (A : Option Addr) (n c : Nat) (rs : List Row) (lc : n ≤ c) (gc : c ≤ maxLen) (w : World) (hr : RSS w w.heap.size A n rs) (hm : ∀ r ∈ rs, r.n ≤ maxLen) :
    Calls Try.prog 3 #[.int .i64 a, .slice A n c] w fun e w' => e = .returned (.bool true) ∧ Below w.heap.size w w' := by
  have HM := Lib.hid hm
  clear hm
  have hb0 : 0 ≤ (1048576 : Int) := by omega
  by_cases hs : szV 1048576 n rs < 0
  · go_enter Try.func3, Try.ntmps3
    go_wp2_with fail; ((with_reducible refine (szInt64SS_any A n c rs 1048576 _ hr (by omega) (by omega) (by omega) HM.out).mono ?_); rintro e w' ⟨rfl, rfl⟩)
    go_wp2
    go_ret
    exact ⟨rfl, by (repeat (first | exact Below.refl _ _ | assumption | (refine Below.alloc ?_ (by first | exact Nat.le_refl _ | (simp; done) | (simp; omega)) _) | (refine below_drewN ?_ _) | (refine Below.trans ?_ (Below.mono (by assumption) (by first | exact Nat.le_refl _ | (simp; done) | (simp; omega) | omega)))))⟩
  · have h1 := szV_ok hs (by omega)
    have t0 := tot_nonneg rs
    have hn : n ≤ 1048576 := by omega
    have hrn : Hid (∀ r ∈ rs, r.n ≤ 1048576) := fun r hr => by have := tot_mem hr; omega
    go_enter Try.func3, Try.ntmps3
    go_wp2_with fail; ((with_reducible refine (szInt64SS_any A n c rs 1048576 _ hr (by omega) (by omega) (by omega) HM.out).mono ?_); rintro e w' ⟨rfl, rfl⟩)
    go_wp2_with fail; ((with_reducible refine (toInt64SS_any A n c rs _ hr hn hrn.out).mono ?_); rintro e w1 ⟨rs1, rfl, S1, D1, hb1⟩)
    have B1 := hb1
    go_wp2_with fail; ((with_reducible refine (D1 ▸ specLocks_any a _ n n rs1 _ S1.reads hn (bound_dat hr S1.reads D1 hrn.out)).mono ?_); rintro e w2 ⟨rfl, hb2⟩)
    have B2 : Below w.heap.size w w2 := B1.trans (hb2.mono B1.size)
    go_wp2_with fail; ((with_reducible refine (toInt64SS_any A n c rs _ ((hr.below B2).more B2.size) hn hrn.out).mono ?_); rintro e w3 ⟨rs2, rfl, S2, D2, hb3⟩)
    have B3 : Below w.heap.size w w3 := B2.trans (hb3.mono B2.size)
    go_wp2_with fail; ((with_reducible refine (D2 ▸ implLocks_any a _ n n rs2 _ S2.reads hn (bound_dat hr S2.reads D2 hrn.out)).mono ?_); rintro e w4 ⟨rfl, hb4⟩)
    have B4 : Below w.heap.size w w4 := B3.trans (hb4.mono B3.size)
    have S2' := S2.below hb4
    go_wp2_with fail; ((with_reducible refine (toInt64SS_any A n c rs _ ((hr.below B4).more B4.size) hn hrn.out).mono ?_); rintro e w5 ⟨rs3, rfl, S3, D3, hb5⟩)
    have B5 : Below w.heap.size w w5 := B4.trans (hb5.mono B4.size)
    have S2q := S2'.below hb5
    go_wp2_with fail; ((with_reducible refine (eqInt64SS_b _ _ n n n rs2 rs3 _ S2q.reads S3.reads (D2.trans D3.symm) (by omega) (bound_dat hr S2q.reads D2 (fun r hr => Nat.le_trans (hrn.out r hr) (by omega)))).mono ?_); rintro e w6 ⟨rfl, hb6⟩)
    have B6 : Below w.heap.size w w6 := B5.trans (hb6.mono B5.size)
    go_wp2
    go_ret
    exact ⟨rfl, B6⟩
set_option maxRecDepth 100000 in
theorem lifted (os : Os) (started : os.Started) (H : Type) (enc : TypeId × Value → H) :
    ReturnsInHanded {} Try.checked os 3 .any (Rows.fnExactValidLocksSpec.pre6 enc Try.prog Try.f3 Rows.fnExactValidLocksRow.domain false) (Rows.fnExactValidLocksSpec.post enc Try.prog Try.f3 false true false false) := by
  refine returnsInHanded_of_change (C := Try.checked) own_ started (by kernel_rfl) Try.func3
    (ChangeSpec.witness6 (enc := enc) (C := Try.checked) false ⟨#[], #[.int .i64 0, .slice none 0 0], []⟩ 12 (by kernel_rfl) (by kernel_rfl) (by kernel_rfl) (by kernel_rfl)) ?_
  intro W base args ds gs before hval0 hW hcnd _
  have hval : ∀ (j : Nat) t v, Try.f3.params[j]? = some t → args[j]? = some v → Value.okWide Try.prog W .any base t v := hval0
  have hW' := hW
  obtain ⟨p, q, hA0, hV, rfl, hfz, hnd⟩ := hW
  have hA : DataW.TrodAll enc Try.prog W 0 (fun _ => true) true Try.f3.params.toList args.toList ds p := hA0
  rw [Try.params3] at hA hval
  obtain ⟨v0, vs0, d0, ds0, p0, q0, hargs, rfl, rfl, h0, r0⟩ := trodAll_cons hA
  obtain ⟨v1, vs1, d1, ds1, p1, q1, rfl, rfl, rfl, h1, r1⟩ := trodAll_cons r0
  obtain ⟨rfl, rfl, rfl⟩ := trodAll_nil r1
  obtain rfl : args = #[v0, v1] := by cases args; simp_all
  obtain ⟨rfl, rfl⟩ := trodVars_none hV
  obtain ⟨a0, rfl, la0, ga0⟩ := op_int Try.underlying2 (hval 0 2 v0 rfl rfl) h0
  obtain ⟨A1, n1, c1, rs1, rfl, lc1, gc1, hr1, hm1⟩ := op_rows Try.underlying22 Try.underlying41 Try.underlying2 (by kernel_rfl) (by kernel_rfl) (hval 1 22 v1 rfl rfl) h1
  clear hA0 hval0
  refine (walk a0 la0 ga0 A1 n1 c1 rs1 lc1 gc1 W hr1 hm1).mono fun e W' ⟨he, hb⟩ => ?_
  subst he
  exact ⟨_, rfl, law_post laidOut_ (by kernel_rfl) rfl rfl Try.underlying4 hW' rfl hb⟩

theorem over : Rows.fnExactValidLocksRow.holds Try.pinned (OpenSpec.ofChange Rows.fnExactValidLocksSpec) :=
  OpenClaim.holds_of_wide 3 Try.f3 rfl rfl rfl rfl rfl rfl rfl ⟨rfl, rfl, rfl, rfl, rfl⟩ rfl rfl rfl rfl rfl (by kernel_rfl) Try.func3 (by kernel_rfl)
    (of_decide_eq_true (by kernel_rfl)) (by unfold Func.isWrapper; first | (rw [if_pos (by decide +kernel)]; kernel_rfl) | (rw [if_neg (by decide +kernel)]; exact ⟨rfl, rfl⟩))
    (fun os started H enc _ => lifted os started H enc)

/-- The statement. -/
theorem proved : Rows.FnExactValidLocksSaid := over
#print axioms proved
end Go.Proofs.Ytnaggimfialbfaa.lValidLocks
