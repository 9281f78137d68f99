/- Contracts of LossPower. -/
import Derived.Test.YtjmhhbjbmgpagaaLev
import Derived.Test.YtjmhhbjbmgpagaaRes
import Derived.Test.YtjmhhbjbmgpagaaStl
namespace Go.Proofs.Ytjmhhbjbmgpagaa
set_option linter.unusedVariables false
set_option linter.unusedSimpArgs false
open Go.RowKit
theorem qS {P : Program} {f : FuncId} {args : Array Value} {v : Value} {w : World} {q : Nat} (h : ∀ W : World, Calls P f args W fun e w' => e = .returned v ∧ W = w') :
    ∀ nn, Calls P f args (w.drewN (q + nn)) fun e w'' => e = .returned v ∧ ∃ mm, w'' = w.drewN (q + mm) := fun nn => (h _).mono fun _ _ ⟨he, hw⟩ => ⟨he, nn, hw.symm⟩
def pw (r q : Int) : Int := dr (drop r (absI q) * absI q) 100
theorem pw_in {r q : Int} (hr : isRes r = true) (hq : isFlow q = true) : isFlow (absI q) = true ∧ (0 ≤ absI q ∧ absI q ≤ 100000) ∧ (-100000000000 ≤ drop r (absI q) * absI q ∧ drop r (absI q) * absI q ≤ 100000000000) ∧ -1000000000 ≤ pw r q ∧ pw r q ≤ 1000000000 := by
  obtain ⟨h1, h2⟩ := isFlow_t hq
  have h3 : 0 ≤ absI q ∧ absI q ≤ 100000 := by unfold absI; omega
  have h4 : isFlow (absI q) = true := by unfold isFlow inB; exact decide_eq_true (by omega)
  obtain ⟨h5, h6⟩ := drop_bnd hr h4
  have h7 : drop r (absI q) * absI q ≤ 1000000 * 100000 := Int.le_trans (Int.mul_le_mul_of_nonneg_right h6 h3.1) (Int.mul_le_mul_of_nonneg_left h3.2 (by omega))
  have h8 : -(1000000 * 100000) ≤ drop r (absI q) * absI q := by
    have := Int.mul_le_mul_of_nonneg_right h5 h3.1
    have h9 : -1000000 * absI q = -(1000000 * absI q) := by omega
    omega
  refine ⟨h4, h3, by omega, ?_⟩
  have := dr_scale (a := drop r (absI q) * absI q) (b := 100) (m := 1000000000) (by omega) (by omega) (by omega)
  exact this
def pwTo (rs fs : List Int) : Nat → Int
  | 0 => 0
  | k + 1 => pwTo rs fs k + pw (rs.getD k 0) (fs.getD k 0)
theorem pwTo_snoc {rs fs : List Int} {k : Nat} {r f : Int} (hr : rs[k]? = some r) (hf : fs[k]? = some f) : pwTo rs fs (k + 1) = pwTo rs fs k + pw r f := by
  simp only [pwTo]; rw [List.getD_eq_getElem?_getD, List.getD_eq_getElem?_getD, hr, hf]; rfl
theorem pwTo_bnd {rs fs : List Int} {N : Int} (h1 : lstOk N 1 1000000 rs = true) (h2 : lstOk N (-100000) 100000 fs = true) : ∀ k : Nat, (k : Int) ≤ N → -(1000000000 * (k : Int)) ≤ pwTo rs fs k ∧ pwTo rs fs k ≤ 1000000000 * k
  | 0, _ => by simp [pwTo]
  | k + 1, hk => by
    have ih := pwTo_bnd h1 h2 k (by omega)
    obtain ⟨r, hr, r1, r2⟩ := lst_at h1 (k := k) (by omega)
    obtain ⟨f, hf, f1, f2⟩ := lst_at h2 (k := k) (by omega)
    have h3 := (pw_in (r := r) (q := f) (by unfold isRes inB; exact decide_eq_true (by omega)) (by unfold isFlow inB; exact decide_eq_true (by omega))).2.2.2
    rw [pwTo_snoc hr hf]
    omega
def lossR (J : Int) (xs : List Awy) (rs fs : List Int) : Int × Int :=
  if mineOk J xs = true then (if (lstOk xs.length 1 1000000 rs && lstOk xs.length (-100000) 100000 fs) = true then (pwTo rs fs xs.length, 0) else (0, 7)) else (0, 1)
theorem lossR_1 {J : Int} {xs : List Awy} {rs fs : List Int} (h : mineOk J xs = false) : lossR J xs rs fs = (0, 1) := by unfold lossR; rw [h]; rfl
theorem lossR_2 {J : Int} {xs : List Awy} {rs fs : List Int} (h : mineOk J xs = true) (h1 : (lstOk xs.length 1 1000000 rs && lstOk xs.length (-100000) 100000 fs) = false) : lossR J xs rs fs = (0, 7) := by unfold lossR; rw [h, h1]; rfl
theorem lossR_3 {J : Int} {xs : List Awy} {rs fs : List Int} (h : mineOk J xs = true) (h1 : (lstOk xs.length 1 1000000 rs && lstOk xs.length (-100000) 100000 fs) = true) : lossR J xs rs fs = (pwTo rs fs xs.length, 0) := by unfold lossR; rw [h, h1]; rfl
set_option maxHeartbeats 800000 in
theorem l07Res_any (m : Nat) (M : Option Addr) (d : Nat) (p : Addr) (A : Option Addr) (n c : Nat) (xs : List Int) (w : World) (hr : Reads w w.heap.size 1 A n (ints xs)) (hn : n ≤ 1048576) (h0 : w.cell? ⟨p.block, p.off + 1, none⟩ = some (.slice M m d)) :
    Calls Try.prog 124 #[.pointer (some p), .slice A n c] w fun e w' => e = .returned (.bool (lstOk (m : Int) (1) 1000000 xs)) ∧ w = w' := by
  have HL := Lib.hid (ints_len hr)
  rcases Bool.eq_false_or_eq_true ((n : Int) == (m : Int)) with hnj | hnj
  all_goals
    have HN := Lib.hid hnj
    go_enter Try.func124, Try.ntmps124
    go_wp2
    go_loop [5] (fun i => ∃ k : Nat, k ≤ n ∧ i = .int .i64 k ∧ Hid ((xs.take k).all (fun x => inB x (1) 1000000) = true)) (fun i => n - (intOf i).toNat)
    case atStart => exact ⟨0, by omega, rfl, rfl⟩
    case round =>
      obtain ⟨k, hk, rfl, HK⟩ := hrel
      by_cases hlt : k < n
      · obtain ⟨ad, u, rfl, had, hx, hc⟩ := hr.at_ hlt
        obtain ⟨b, hb, rfl⟩ := ints_at hx
        have HX := Lib.hid hb
        clear hb hx
        cases hp : inB b (1) 1000000
        · have HP : Hid (inB b (1) 1000000 = false) := hp
          go_wp2_with (go_at_call 132; refine ((show Calls Try.prog _ _ _ (fun e w' => e = .returned (.bool (inB _ (1) 1000000)) ∧ _ = w') from l03Res_any _ _)).mono ?_; rintro e w' ⟨rfl, rfl⟩)
          go_ret
          exact ⟨ret_bool (by unfold lstOk allIn; rw [all_false (p := fun x => inB x (1) 1000000) HX.out HP.out, Bool.false_and]), rfl⟩
        · have HP : Hid (inB b (1) 1000000 = true) := hp
          go_wp2_with (go_at_call 132; refine ((show Calls Try.prog _ _ _ (fun e w' => e = .returned (.bool (inB _ (1) 1000000)) ∧ _ = w') from l03Res_any _ _)).mono ?_; rintro e w' ⟨rfl, rfl⟩)
          go_round
          case rel => exact ⟨k + 1, by omega, by go_num, all_take HX.out HK.out HP.out⟩
          case measure => simp [intOf]; omega
      · have e : k = n := by omega
        subst e
        have HA : Hid (allIn (1) 1000000 xs = true) := all_whole HL.out HK.out
        go_wp2
        go_ret
        exact ⟨ret_bool (by unfold lstOk; rw [HA.out, HL.out, HN.out]; first | rfl | simp_all), rfl⟩
end Go.Proofs.Ytjmhhbjbmgpagaa
