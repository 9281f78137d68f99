/- Several texts in one: Sto Mer Cor Str. -/
import Derived.Test.YtjmhhbjbmgpagaaMgI
import Derived.Test.YtjmhhbjbmgpagaaMgF
import Derived.Test.YtjmhhbjbmgpagaaMgA
import Derived.Test.YtjmhhbjbmgpagaaMgE
import Derived.Deep.Cut
import Derived.Deep.RegionWith
/- Contracts of the steps against the errors of walks, both sides. -/
namespace Go.Proofs.Ytjmhhbjbmgpagaa
set_option linter.unusedVariables false
set_option linter.unusedSimpArgs false
open Go.RowKit
def slT (rs fs ws : List Int) : Nat → Int
  | 0 => 0
  | k + 1 => slT rs fs ws k + 2 * rs.getD (wkI (ws.getD k 0)) 0 * absI (fs.getD (wkI (ws.getD k 0)) 0)
def alT (rs ws : List Int) : Nat → Int
  | 0 => 0
  | k + 1 => alT rs ws k + rs.getD (wkI (ws.getD k 0)) 0
theorem slT_s {rs fs ws : List Int} {k : Nat} {x r f : Int} (hx : ws[k]? = some x) (hr : rs[wkI x]? = some r) (hf : fs[wkI x]? = some f) : slT rs fs ws (k + 1) = slT rs fs ws k + 2 * r * absI f := by
  simp only [slT]; rw [getW_at hx, getW_at hr, getW_at hf]
theorem alT_s {rs ws : List Int} {k : Nat} {x r : Int} (hx : ws[k]? = some x) (hr : rs[wkI x]? = some r) : alT rs ws (k + 1) = alT rs ws k + r := by
  simp only [alT]; rw [getW_at hx, getW_at hr]
theorem rise_in {r f : Int} (hr : isRes r = true) (hf : isFlow f = true) : (2 ≤ 2 * r ∧ 2 * r ≤ 2000000) ∧ (0 ≤ absI f ∧ absI f ≤ 100000) ∧ 0 ≤ 2 * r * absI f ∧ 2 * r * absI f ≤ 200000000000 := by
  obtain ⟨h1, h2⟩ := isRes_t hr
  obtain ⟨h3, h4⟩ := isFlow_t hf
  have h5 := absI_nonneg f
  have h6 := absI_le (n := f) (b := 100000) (by omega) (by omega)
  have h7 := mul_pos_bnd (x := 2 * r) (y := absI f) (X := 2000000) (Y := 100000) (M := 200000000000) (by omega) (by omega) h5 h6 (by omega)
  exact ⟨⟨by omega, by omega⟩, ⟨h5, h6⟩, h7⟩
theorem slT_bnd {rs ps fs ws : List Int} {n : Nat} (h : SysB rs ps fs ws n) (hr : rs.length = n) (hp : ps.length = n) (hf : fs.length = n) : ∀ k : Nat, k ≤ ws.length → (0 ≤ slT rs fs ws k ∧ slT rs fs ws k ≤ 200000000000 * (k : Int)) ∧ ((k : Int) ≤ alT rs ws k ∧ alT rs ws k ≤ 1000000 * (k : Int))
  | 0, _ => by simp [slT, alT]
  | k + 1, hk => by
    have ih := slT_bnd h hr hp hf k (by omega)
    obtain ⟨r, p, f, e1, e2, e3, e4, e5, e6, _⟩ := sys_at h hr hp hf (List.getElem?_eq_getElem (l := ws) (i := k) (by omega))
    rw [slT_s (List.getElem?_eq_getElem (by omega)) e1 e3, alT_s (List.getElem?_eq_getElem (by omega)) e1]
    have hd := rise_in e4 e6
    have hs := isRes_t e4
    omega
/-- The step of a walk. -/
def stC (e s a : Int) : Int := max (-10000) (min 10000 (if 0 < s then dr (-e * 10000000000) s else if 0 < e then -rootI (e * 10000000000 / a) else rootI (-e * 10000000000 / a)))
def stR (rs ps fs ws : List Int) (q : Nat) : Int := stC (erT rs ps fs ws q) (slT rs fs ws q) (alT rs ws q)
theorem stC_bnd (e s a : Int) : -10000 ≤ stC e s a ∧ stC e s a ≤ 10000 := by unfold stC; omega
theorem stC_p {e s a : Int} (h : 0 < s) : stC e s a = max (-10000) (min 10000 (dr (-e * 10000000000) s)) := by unfold stC; rw [if_pos h]
theorem stC_e {e s a : Int} (h : ¬ 0 < s) (h1 : 0 < e) : stC e s a = max (-10000) (min 10000 (-rootI (e * 10000000000 / a))) := by unfold stC; rw [if_neg h, if_pos h1]
theorem stC_n {e s a : Int} (h : ¬ 0 < s) (h1 : ¬ 0 < e) : stC e s a = max (-10000) (min 10000 (rootI (-e * 10000000000 / a))) := by unfold stC; rw [if_neg h, if_neg h1]
theorem root0 : rootI 0 = 0 := by have := rootI_bnd (n := 0) (M := 0) (m := 0) (by omega) (by omega); omega
theorem stC_z {e s a : Int} (h : ¬ 0 < s) (h1 : e = 0) : stC e s a = 0 := by
  rw [stC_n h (by omega), h1, show (-(0 : Int) * 10000000000) = 0 by omega, Int.zero_ediv, root0]; rfl
theorem quo_in {x a : Int} (hx : 0 ≤ x) (hx2 : x ≤ 400000000000000000) (ha : 1 ≤ a) : x.tdiv a = x / a ∧ 0 ≤ x / a ∧ x / a ≤ 400000000000000000 ∧ IntKind.i64.wrap (x / a) = x / a := by
  have h := ediv_bounds hx (show 0 < a by omega) hx2
  exact ⟨Int.tdiv_eq_ediv_of_nonneg hx, h.1, h.2, IntWalk.i64_in _ (by omega)⟩
set_option maxHeartbeats 1600000 in
set_option maxRecDepth 100000 in
theorem l07Step_any (A : Option Addr) (n a : Nat) (rs : List Int) (B : Option Addr) (b : Nat) (ps : List Int) (C : Option Addr) (c : Nat) (fs : List Int) (D : Option Addr) (q d : Nat) (ws : List Int) (w : World)
    (hA : Reads w w.heap.size 1 A n (ints rs)) (hB : Reads w w.heap.size 1 B n (ints ps)) (hC : Reads w w.heap.size 1 C n (ints fs)) (hD : Reads w w.heap.size 1 D q (ints ws)) (hs : SysB rs ps fs ws n) (hn : n ≤ 1000000) (hq : q ≤ 20) (hq1 : 1 ≤ q) :
    Calls Try.prog 79 #[.slice A n a, .slice B n b, .slice C n c, .slice D q d] w fun e w' => e = .returned (.int .i64 (stR rs ps fs ws q)) ∧ Below w.heap.size w w' := by
  have HLA := Lib.hid (ints_len hA)
  have HLB := Lib.hid (ints_len hB)
  have HLC := Lib.hid (ints_len hC)
  have HLD := Lib.hid (ints_len hD)
  have HS := Lib.hid hs
  have HEB := Lib.hid (erT_bnd hs HLA.out HLB.out HLC.out q (by rw [HLD.out]; exact Nat.le_refl _))
  have HBD := Lib.hid (fun k h => slT_bnd hs HLA.out HLB.out HLC.out k h)
  have ce := l07Error_any A n a rs B b ps C c fs D q d ws w hA hB hC hD hs hn (by omega)
  have HR := Lib.hid (And.intro hA (And.intro hB (And.intro hC hD)))
  have HCE := Lib.hid ce
  clear hs hA hB hC hD ce
  go_enter Try.func79, Try.ntmps79
  go_wp2_with fail; ((with_reducible refine HCE.out.mono ?_); rintro e w1 ⟨rfl, m1, HW1⟩)
  have HWE : Hid (w1 = w.drewN m1) := HW1
  clear HW1
  go_wp2
  go_loopw [10, 11, 12] (fun s t i wr => ∃ k m : Nat, k ≤ q ∧ s = .int .i64 (slT rs fs ws k) ∧ t = .int .i64 (alT rs ws k) ∧ i = .int .i64 k ∧ Hid (wr = w.drewN m)) (fun _ _ i _ => q - (intOf i).toNat)
  case atStart => exact ⟨0, m1, by omega, rfl, rfl, rfl, HWE⟩
  case round =>
    obtain ⟨k, m, hk, rfl, rfl, rfl, HWD⟩ := hrel
    by_cases hlt : k < q
    · obtain ⟨wo, rfl⟩ : ∃ wo : World, wo = wr := ⟨_, rfl⟩
      have hRW : Reads wo wo.heap.size 1 A n (ints rs) ∧ Reads wo wo.heap.size 1 B n (ints ps) ∧ Reads wo wo.heap.size 1 C n (ints fs) ∧ Reads wo wo.heap.size 1 D q (ints ws) := by rw [HWD.out]; exact HR.out
      obtain ⟨x, hx⟩ : ∃ x, ws[k]? = some x := ⟨_, List.getElem?_eq_getElem (by rw [HLD.out]; exact hlt)⟩
      obtain ⟨r, p, f, e1, e2, e3, e4, e5, e6, hl, hw⟩ := sys_at HS.out HLA.out HLB.out HLC.out hx
      obtain ⟨ad, rfl, _, _, ca⟩ := hRW.1.int_at e1
      obtain ⟨cd, rfl, _, _, cc⟩ := hRW.2.2.1.int_at e3
      obtain ⟨dd, rfl, _, _, cx⟩ := hRW.2.2.2.int_at hx
      obtain ⟨x0, x1, x2⟩ := wkB_t hw
      have hI := wkI_int x0
      have HE := Lib.hid (slT_s hx e1 e3)
      have HE2 := Lib.hid (alT_s hx e1)
      obtain ⟨hb1, hb2⟩ := HBD.out k (by rw [HLD.out]; omega)
      obtain ⟨⟨u1, u2⟩, ⟨u3, u4⟩, u5, u6⟩ := rise_in e4 e6
      obtain ⟨v1, v2⟩ := isRes_t e4
      obtain ⟨v3, v4⟩ := isFlow_t e6
      have HQD : Hid (∀ m, Calls Try.prog 58 #[.int .i64 f] (wo.drewN m) fun e w'' => e = .returned (.int .i64 (absI f)) ∧ ∃ q, w'' = wo.drewN q) := quiet_same fun W => l03Abs_any f W (by omega) (by omega)
      have cab := l03Abs_any x wo (by omega) (by omega)
      rw [show absI x = (wkI x : Int) + 1 by omega] at cab
      have HAB := Lib.hid cab
      have hkI : (k : Int) < (q : Int) := by omega
      have hlI : (wkI x : Int) < (n : Int) := by omega
      generalize wkI x = j at *
      generalize slT rs fs ws k = s at *
      generalize alT rs ws k = t at *
      generalize absI f = af at *
      have hw1 : IntKind.i64.wrap (2 * r) = 2 * r := IntWalk.i64_in _ (by omega)
      have hw2 : IntKind.i64.wrap (2 * r * af) = 2 * r * af := IntWalk.i64_in _ (by omega)
      have hw3 : IntKind.i64.wrap (s + 2 * r * af) = s + 2 * r * af := IntWalk.i64_in _ (by omega)
      have HDC : Hid (∀ q : Nat, (wo.drewN q).cell? (ad.add j) = some (.int .i64 r)) := fun _ => ca
      clear hRW hx e1 e2 e3 e4 e5 e6 hl hw hI cab x0 x1 x2
      go_wp2_with fail; ((with_reducible refine HAB.out.mono ?_); rintro e w' ⟨rfl, rfl⟩)
      go_wp2
      go_quiet ((go_at_call 58; exact HQD.out _))
      clear hw1 hw2 hw3
      go_wp2
      go_roundw
      case rel => exact ⟨k + 1, _, by omega, by rw [HE.out], by rw [HE2.out], by go_num, (show _ = _ by rw [HWD.out, World.drewN_drewN])⟩
      case measure => simp [intOf]; omega
    · have e : k = q := by omega
      subst e
      obtain ⟨hb1, hb2⟩ := HBD.out k (by rw [HLD.out]; omega)
      have hE := HEB.out
      have HV : Hid (stR rs ps fs ws k = stC (erT rs ps fs ws k) (slT rs fs ws k) (alT rs ws k)) := rfl
      have BW : Hid (Below w.heap.size w wr) := show Below _ _ _ by rw [HWD.out]; exact below_drewN (Below.refl _ _) _
      generalize erT rs ps fs ws k = E at *
      generalize slT rs fs ws k = s at *
      generalize alT rs ws k = t at *
      by_cases hs : 0 < s
      · have HX := Lib.hid (stC_p (e := E) (a := t) hs)
        go_wp2_with (first | (go_at_call 127; refine (l01Div_any _ _ _ (by omega) (by omega) (by omega) (by omega)).mono ?_; rintro e w' ⟨rfl, rfl⟩) | (go_at_call 129; refine (l00Min_any _ _ _).mono ?_; rintro e w' ⟨rfl, rfl⟩) | (go_at_call 113; refine (l00Max_any _ _ _).mono ?_; rintro e w' ⟨rfl, rfl⟩))
        go_ret
        exact ⟨ret_int (by rw [HV.out, HX.out]), BW.out⟩
      · have hab := l03Abs_any E wr (by omega) (by omega)
        have ht : t ≠ 0 := by omega
        by_cases he : 0 < E
        · have HX := Lib.hid (stC_e (e := E) (a := t) hs he)
          obtain ⟨k1, k2, k3, k4⟩ := quo_in (x := E * 10000000000) (a := t) (by omega) (by omega) (by omega)
          rw [show absI E = E by unfold absI; omega] at hab
          have HAB := Lib.hid hab
          have hrt := rootI_max (n := E * 10000000000 / t) (by omega)
          have hrn := rootI_nonneg (E * 10000000000 / t)
          clear hab
          go_wp2_with (first | (go_at_call 58; refine HAB.out.mono ?_; rintro e w' ⟨rfl, rfl⟩) | (go_at_call 128; refine (l01Root_any (E * 10000000000 / t) _ (by omega) (by omega)).mono ?_; rintro e w' ⟨rfl, rfl⟩) | (go_at_call 129; refine (l00Min_any _ _ _).mono ?_; rintro e w' ⟨rfl, rfl⟩) | (go_at_call 113; refine (l00Max_any _ _ _).mono ?_; rintro e w' ⟨rfl, rfl⟩))
          go_ret
          exact ⟨ret_int (by rw [HV.out, HX.out]), BW.out⟩
        · have HX := Lib.hid (stC_n (e := E) (a := t) hs he)
          obtain ⟨k1, k2, k3, k4⟩ := quo_in (x := -E * 10000000000) (a := t) (by omega) (by omega) (by omega)
          rw [show absI E = -E by unfold absI; omega] at hab
          have HAB := Lib.hid hab
          have hrt := rootI_max (n := -E * 10000000000 / t) (by omega)
          have hrn := rootI_nonneg (-E * 10000000000 / t)
          clear hab
          go_wp2_with (first | (go_at_call 58; refine HAB.out.mono ?_; rintro e w' ⟨rfl, rfl⟩) | (go_at_call 128; refine (l01Root_any (-E * 10000000000 / t) _ (by omega) (by omega)).mono ?_; rintro e w' ⟨rfl, rfl⟩) | (go_at_call 129; refine (l00Min_any _ _ _).mono ?_; rintro e w' ⟨rfl, rfl⟩) | (go_at_call 113; refine (l00Max_any _ _ _).mono ?_; rintro e w' ⟨rfl, rfl⟩))
          go_ret
          exact ⟨ret_int (by rw [HV.out, HX.out]), BW.out⟩
set_option maxHeartbeats 1600000 in
set_option maxRecDepth 100000 in
theorem stepOf_any (D : Option Addr) (q d : Nat) (ws : List Int) (A : Option Addr) (n a : Nat) (rs : List Int) (B : Option Addr) (b : Nat) (ps : List Int) (C : Option Addr) (c : Nat) (fs : List Int) (w : World)
    (hA : Reads w w.heap.size 1 A n (ints rs)) (hB : Reads w w.heap.size 1 B n (ints ps)) (hC : Reads w w.heap.size 1 C n (ints fs)) (hD : Reads w w.heap.size 1 D q (ints ws)) (hs : SysB rs ps fs ws n) (hn : n ≤ 1000000) (hq : q ≤ 20) (hq1 : 1 ≤ q) :
    Calls Try.prog 82 #[.slice D q d, .slice A n a, .slice B n b, .slice C n c] w fun e w' => e = .returned (.int .i64 (stR rs ps fs ws q)) ∧ Below w.heap.size w w' := by
  have HLA := Lib.hid (ints_len hA)
  have HLB := Lib.hid (ints_len hB)
  have HLC := Lib.hid (ints_len hC)
  have HLD := Lib.hid (ints_len hD)
  have HS := Lib.hid hs
  have HEB := Lib.hid (erT_bnd hs HLA.out HLB.out HLC.out q (by rw [HLD.out]; exact Nat.le_refl _))
  have HBD := Lib.hid (fun k h => slT_bnd hs HLA.out HLB.out HLC.out k h)
  have ce := walkError_any D q d ws A n a rs B b ps C c fs w hA hB hC hD hs hn (by omega)
  have HR := Lib.hid (And.intro hA (And.intro hB (And.intro hC hD)))
  have HCE := Lib.hid ce
  clear hs hA hB hC hD ce
  go_enter Try.func82, Try.ntmps82
  go_wp2_with fail; ((with_reducible refine HCE.out.mono ?_); rintro e w1 ⟨rfl, m1, HW1⟩)
  have HWE : Hid (w1 = w.drewN m1) := HW1
  clear HW1
  go_wp2
  go_loopw [10, 11, 24] (fun s t i wr => ∃ k m : Nat, k ≤ q ∧ s = .int .i64 (slT rs fs ws k) ∧ t = .int .i64 (alT rs ws k) ∧ i = .int .i64 k ∧ Hid (wr = w.drewN m)) (fun _ _ i _ => q - (intOf i).toNat)
  case atStart => exact ⟨0, m1, by omega, rfl, rfl, rfl, HWE⟩
  case round =>
    obtain ⟨k, m, hk, rfl, rfl, rfl, HWD⟩ := hrel
    by_cases hlt : k < q
    · obtain ⟨wo, rfl⟩ : ∃ wo : World, wo = wr := ⟨_, rfl⟩
      have hRW : Reads wo wo.heap.size 1 A n (ints rs) ∧ Reads wo wo.heap.size 1 B n (ints ps) ∧ Reads wo wo.heap.size 1 C n (ints fs) ∧ Reads wo wo.heap.size 1 D q (ints ws) := by rw [HWD.out]; exact HR.out
      obtain ⟨x, hx⟩ : ∃ x, ws[k]? = some x := ⟨_, List.getElem?_eq_getElem (by rw [HLD.out]; exact hlt)⟩
      obtain ⟨r, p, f, e1, e2, e3, e4, e5, e6, hl, hw⟩ := sys_at HS.out HLA.out HLB.out HLC.out hx
      obtain ⟨ad, rfl, _, _, ca⟩ := hRW.1.int_at e1
      obtain ⟨cd, rfl, _, _, cc⟩ := hRW.2.2.1.int_at e3
      obtain ⟨dd, rfl, _, _, cx⟩ := hRW.2.2.2.int_at hx
      obtain ⟨x0, x1, x2⟩ := wkB_t hw
      have HE := Lib.hid (slT_s hx e1 e3)
      have HE2 := Lib.hid (alT_s hx e1)
      obtain ⟨hb1, hb2⟩ := HBD.out k (by rw [HLD.out]; omega)
      obtain ⟨⟨u1, u2⟩, ⟨u3, u4⟩, u5, u6⟩ := rise_in e4 e6
      obtain ⟨v1, v2⟩ := isRes_t e4
      obtain ⟨v3, v4⟩ := isFlow_t e6
      have HQD : Hid (∀ m, Calls Try.prog 59 #[.int .i64 f] (wo.drewN m) fun e w'' => e = .returned (.int .i64 (absI f)) ∧ ∃ q, w'' = wo.drewN q) := quiet_same fun W => abs_any f W (by omega) (by omega)
      have HAB := Lib.hid (airwayOf_any x wo x0 (by omega) (by omega))
      have hkI : (k : Int) < (q : Int) := by omega
      have hlI : (wkI x : Int) < (n : Int) := by omega
      generalize wkI x = j at *
      generalize wkS x = sg at *
      generalize slT rs fs ws k = s at *
      generalize alT rs ws k = t at *
      generalize absI f = af at *
      have hw1 : IntKind.i64.wrap (2 * r) = 2 * r := IntWalk.i64_in _ (by omega)
      have hw2 : IntKind.i64.wrap (2 * r * af) = 2 * r * af := IntWalk.i64_in _ (by omega)
      have hw3 : IntKind.i64.wrap (s + 2 * r * af) = s + 2 * r * af := IntWalk.i64_in _ (by omega)
      clear hRW hx e1 e2 e3 e4 e5 e6 hl hw x0 x1 x2
      go_wp2_with fail; ((with_reducible refine HAB.out.mono ?_); rintro e w' ⟨rfl, rfl⟩)
      go_wp2
      go_quiet ((go_at_call 59; exact HQD.out _))
      clear hw1 hw2 hw3
      go_wp2
      go_roundw
      case rel => exact ⟨k + 1, _, by omega, by rw [HE.out], by rw [HE2.out], by go_num, (show _ = _ by rw [HWD.out, World.drewN_drewN])⟩
      case measure => simp [intOf]; omega
    · have e : k = q := by omega
      subst e
      obtain ⟨hb1, hb2⟩ := HBD.out k (by rw [HLD.out]; omega)
      have hE := HEB.out
      have HV : Hid (stR rs ps fs ws k = stC (erT rs ps fs ws k) (slT rs fs ws k) (alT rs ws k)) := rfl
      have BW : Hid (Below w.heap.size w wr) := show Below _ _ _ by rw [HWD.out]; exact below_drewN (Below.refl _ _) _
      generalize erT rs ps fs ws k = E at *
      generalize slT rs fs ws k = s at *
      generalize alT rs ws k = t at *
      by_cases hs : 0 < s
      · have HX := Lib.hid (stC_p (e := E) (a := t) hs)
        have hdb : Hid (-1000000000000000000 ≤ dr (-E * 10000000000) s ∧ dr (-E * 10000000000) s ≤ 1000000000000000000) := dr_bnd hs (by omega) (by omega)
        go_wp2_with (first | (go_at_call 130; refine (divRound_any _ _ _ (by omega) (by omega) (by omega) (by omega)).mono ?_; rintro e w' ⟨rfl, md, rfl⟩; have hd1 := hdb.out.1; have hd2 := hdb.out.2))
        all_goals
          go_ret
          exact ⟨ret_int (by rw [HV.out, HX.out]; omega), below_drewN BW.out _⟩
      · have ht : t ≠ 0 := by omega
        have hd0 : decide (0 < s) = false := decide_eq_false hs
        by_cases he : 0 < E
        · have HX := Lib.hid (stC_e (e := E) (a := t) hs he)
          obtain ⟨k1, k2, k3, k4⟩ := quo_in (x := E * 10000000000) (a := t) (by omega) (by omega) (by omega)
          have hrt := rootI_max (n := E * 10000000000 / t) (by omega)
          have hrn := rootI_nonneg (E * 10000000000 / t)
          go_wp2_with (first | (go_at_call 131; refine (rootOf_any (E * 10000000000 / t) _ (by omega)).mono ?_; rintro e w2 ⟨rfl, hb2⟩))
          all_goals
            go_ret
            exact ⟨ret_int (by rw [HV.out, HX.out]; omega), BW.out.trans (hb2.mono BW.out.size)⟩
        · by_cases he2 : E < 0
          · have HX := Lib.hid (stC_n (e := E) (a := t) hs he)
            obtain ⟨k1, k2, k3, k4⟩ := quo_in (x := -E * 10000000000) (a := t) (by omega) (by omega) (by omega)
            have hrt := rootI_max (n := -E * 10000000000 / t) (by omega)
            have hrn := rootI_nonneg (-E * 10000000000 / t)
            go_wp2_with (first | (go_at_call 131; refine (rootOf_any (-E * 10000000000 / t) _ (by omega)).mono ?_; rintro e w2 ⟨rfl, hb2⟩))
            all_goals
              go_ret
              exact ⟨ret_int (by rw [HV.out, HX.out]; omega), BW.out.trans (hb2.mono BW.out.size)⟩
          · have HX := Lib.hid (stC_z (e := E) (a := t) hs (by omega))
            have h0 : decide (0 < E) = false := decide_eq_false he
            have h1 : decide (E < 0) = false := decide_eq_false he2
            go_wp2
            go_ret
            exact ⟨ret_int (by rw [HV.out, HX.out]), BW.out⟩
end Go.Proofs.Ytjmhhbjbmgpagaa

/- Contracts of the errors of all meshes, both sides. -/
namespace Go.Proofs.Ytjmhhbjbmgpagaa
set_option linter.unusedVariables false
set_option linter.unusedSimpArgs false
open Go.RowKit
def errsL (rs ps fs : List Int) (ms : List (List Int)) : List Int := ms.map fun s => erT rs ps fs s s.length
theorem errs_snoc {rs ps fs s : List Int} {ms : List (List Int)} {k : Nat} (h : ms[k]? = some s) : errsL rs ps fs (ms.take (k + 1)) = errsL rs ps fs (ms.take k) ++ [erT rs ps fs s s.length] := by
  unfold errsL; rw [List.take_add_one, h, List.map_append]; rfl
/-- A resistance, a pressure and a flow for each airway. -/
def sysOk (m : Nat) (rs ps fs : List Int) : Bool := lstOk m 1 1000000 rs && lstOk m (-100000) 100000 ps && lstOk m (-100000) 100000 fs
theorem sysOk_t {m : Nat} {rs ps fs : List Int} (h : sysOk m rs ps fs = true) : lstOk m 1 1000000 rs = true ∧ lstOk m (-100000) 100000 ps = true ∧ lstOk m (-100000) 100000 fs = true := by
  unfold sysOk at h
  rw [Bool.and_eq_true, Bool.and_eq_true] at h
  exact ⟨h.1.1, h.1.2, h.2⟩
theorem sys_of {m : Nat} {rs ps fs ws : List Int} (h1 : lstOk m 1 1000000 rs = true) (h2 : ∀ p ∈ ps, -1000000 ≤ p ∧ p ≤ 1000000) (h3 : lstOk m (-100000) 100000 fs = true) (h4 : ∀ x ∈ ws, wkB m x = true) : SysB rs ps fs ws m :=
  ⟨fun r hr => decide_eq_true ((lstOk_t h1).2 r hr), h2, fun f hf => decide_eq_true ((lstOk_t h3).2 f hf), h4⟩
theorem lst_wide {m : Nat} {ps : List Int} (h : lstOk m (-100000) 100000 ps = true) : ∀ p ∈ ps, -1000000 ≤ p ∧ p ≤ 1000000 := fun p hp => by have := (lstOk_t h).2 p hp; omega
/-- The code of a mine and a system. -/
def sysC (J : Int) (xs : List Awy) (rs ps fs : List Int) : Int := if mineOk J xs = true then (if sysOk xs.length rs ps fs = true then 0 else 7) else 1
theorem sysC_1 {J : Int} {xs : List Awy} {rs ps fs : List Int} (h : mineOk J xs = false) : sysC J xs rs ps fs = 1 := by unfold sysC; rw [if_neg (by rw [h]; exact Bool.false_ne_true)]
theorem sysC_7 {J : Int} {xs : List Awy} {rs ps fs : List Int} (h : mineOk J xs = true) (h1 : sysOk xs.length rs ps fs = false) : sysC J xs rs ps fs = 7 := by unfold sysC; rw [if_pos h, if_neg (by rw [h1]; exact Bool.false_ne_true)]
theorem sysC_0 {J : Int} {xs : List Awy} {rs ps fs : List Int} (h : mineOk J xs = true) (h1 : sysOk xs.length rs ps fs = true) : sysC J xs rs ps fs = 0 := by unfold sysC; rw [if_pos h, if_pos h1]
def merR (J : Int) (xs : List Awy) (rs ps fs : List Int) : List Int × Int := (if sysC J xs rs ps fs = 0 then errsL rs ps fs (meshL J xs) else [], sysC J xs rs ps fs)
theorem lenR {w : World} {B n : Nat} {A : Option Addr} {xs : List Int} (h : Reads w B 1 A n (ints xs)) {m : Nat} {l u : Int} (hl : lstOk m l u xs = true) : n = m := by
  have h1 := ints_len h
  have h2 := (lstOk_t hl).1
  omega
set_option maxHeartbeats 1600000 in
set_option maxRecDepth 100000 in
theorem l07Errors_any (M : Option Addr) (n mc : Nat) (rws : List Row) (A : Option Addr) (m a : Nat) (rs : List Int) (B : Option Addr) (b : Nat) (ps : List Int) (C : Option Addr) (c : Nat) (fs : List Int) (w : World)
    (hM : RSS w w.heap.size M n rws) (hA : Reads w w.heap.size 1 A m (ints rs)) (hB : Reads w w.heap.size 1 B m (ints ps)) (hC : Reads w w.heap.size 1 C m (ints fs)) (hs : ∀ s ∈ dat rws, SysB rs ps fs s m ∧ s.length ≤ 20) (hn : n ≤ 1000) (hm1 : m ≤ 1000000) :
    Calls Try.prog 74 #[.slice M n mc, .slice A m a, .slice B m b, .slice C m c] w fun e w' => ∃ A' c', e = .returned (.slice A' n c') ∧ w'.ownsRow w.heap.size 2 1 (.slice A' n c') n (ints (errsL rs ps fs (dat rws))) ∧ Below w.heap.size w w' := by
  obtain ⟨i0, hi0, hz0, hz1, hz2⟩ := info_parts info_Int64S
  have HL := Lib.hid hM.len
  have HS := Lib.hid hs
  have HR := Lib.hid (And.intro hM (And.intro hA (And.intro hB hC)))
  clear hs hM hA hB hC
  go_enter Try.func74, Try.ntmps74
  go_wp2
  go_loopw [9, 10] (fun o i wr => ∃ (k : Nat) (A' : Option Addr) (c' : Nat), k ≤ n ∧ o = .slice A' k c' ∧ i = .int .i64 k ∧ wr.ownsRow w.heap.size 2 1 (.slice A' k c') k (ints (errsL rs ps fs ((dat rws).take k))) ∧ Below w.heap.size w wr) (fun _ i _ => n - (intOf i).toNat)
  case atStart => exact ⟨0, _, 0, by omega, rfl, rfl, own_empty _ _ _, by (repeat (first | exact Below.refl _ _ | assumption | (refine Below.alloc ?_ (by first | exact Nat.le_refl _ | (simp; done) | (simp; omega)) _) | (refine below_drewN ?_ _) | (refine Below.trans ?_ (Below.mono (by assumption) (by first | exact Nat.le_refl _ | (simp; done) | (simp; omega) | omega)))))⟩
  case round =>
    obtain ⟨k, A', c', hk, rfl, rfl, hown, hbr⟩ := hrel
    obtain ⟨wo, rfl⟩ : ∃ wo : World, wo = wr := ⟨_, rfl⟩
    have hz := hbr.size
    by_cases hlt : k < n
    · obtain ⟨hM2, hA2, hB2, hC2⟩ := HR.out
      obtain ⟨ad, r, rfl, hx, hc, hrr0⟩ := (hM2.below hbr).at_ hlt
      have hrr := hrr0.more hz
      have hA2 := (hA2.below hbr).more hz
      have hB2 := (hB2.below hbr).more hz
      have hC2 := (hC2.below hbr).more hz
      have hdx := dat_at hx
      obtain ⟨hsy, hsl⟩ := HS.out r.xs (List.mem_of_getElem? hdx)
      have hrl := ints_len hrr
      have cc := l07Error_any A m a rs B b ps C c fs r.A r.n r.c r.xs wo hA2 hB2 hC2 hrr hsy hm1 (by omega)
      rw [← hrl] at cc
      have HCC := Lib.hid cc
      have HN := Lib.hid (errs_snoc (rs := rs) (ps := ps) (fs := fs) hdx)
      have HRL := Lib.hid hrl
      have hkI : (k : Int) < (n : Int) := by omega
      have HO := Lib.hid hown
      generalize hEE : erT rs ps fs r.xs r.xs.length = ee at *
      clear hM2 hx hrr0 hrr hA2 hB2 hC2 hdx hsy hsl cc hown hEE
      go_wp2_with fail; ((with_reducible refine (HRL.out ▸ HCC.out).mono ?_); rintro e w' ⟨rfl, md, rfl⟩)
      go_wp2_with (at_builtin; (refine wpList_app _ rfl _ _ 25 rfl w.heap.size 2 i0 _ 1 8 Try.underlying25 hi0 hz0 hz1 hz2 rfl (by omega) A' _ c' _ rfl (((own_drew HO.out _)).alloc _) ⟨_, 0, none⟩ 1 1 [.int .i64 ee] rfl rfl (cell_one_at (by simp) _ _) (by simp [Value.oneCell']) (by unfold maxLen; omega) (by omega) (by have hz := (hbr).size; simp at hz ⊢; omega) ?_); intro A1 c1 w2 ho2 hb2)
      go_roundw
      case rel => exact ⟨k + 1, A1, c1, by omega, by first | rfl | go_num, by go_num, by rw [HN.out]; simpa [ints] using ho2, ((below_drewN hbr _).alloc (by have := hbr.size; simp; omega) _).trans hb2⟩
      case measure => simp [intOf]; omega
    · have e : k = n := by omega
      have HF : Hid ((dat rws).take k = dat rws) := List.take_of_length_le (by rw [dat_len, HL.out]; omega)
      rw [HF.out] at hown
      have HO := Lib.hid hown
      subst e
      clear hown
      go_wp2
      go_ret
      exact ⟨A', c', rfl, HO.out, hbr⟩
set_option maxHeartbeats 1600000 in
set_option maxRecDepth 100000 in
theorem meshErrors_any (M : Option Addr) (n mc : Nat) (rws : List Row) (A : Option Addr) (m a : Nat) (rs : List Int) (B : Option Addr) (b : Nat) (ps : List Int) (C : Option Addr) (c : Nat) (fs : List Int) (w : World)
    (hM : RSS w w.heap.size M n rws) (hA : Reads w w.heap.size 1 A m (ints rs)) (hB : Reads w w.heap.size 1 B m (ints ps)) (hC : Reads w w.heap.size 1 C m (ints fs)) (hs : ∀ s ∈ dat rws, SysB rs ps fs s m ∧ s.length ≤ 20) (hn : n ≤ 1000) (hm1 : m ≤ 1000000) :
    Calls Try.prog 76 #[.slice M n mc, .slice A m a, .slice B m b, .slice C m c] w fun e w' => ∃ A' c', e = .returned (.slice A' n c') ∧ w'.ownsRow w.heap.size 2 1 (.slice A' n c') n (ints (errsL rs ps fs (dat rws))) ∧ Below w.heap.size w w' := by
  obtain ⟨i0, hi0, hz0, hz1, hz2⟩ := info_parts info_Int64S
  have HL := Lib.hid hM.len
  have HS := Lib.hid hs
  have HR := Lib.hid (And.intro hM (And.intro hA (And.intro hB hC)))
  clear hs hM hA hB hC
  go_enter Try.func76, Try.ntmps76
  go_wp2
  go_loopw [9, 14] (fun o i wr => ∃ (k : Nat) (A' : Option Addr) (c' : Nat), k ≤ n ∧ o = .slice A' k c' ∧ i = .int .i64 k ∧ wr.ownsRow w.heap.size 2 1 (.slice A' k c') k (ints (errsL rs ps fs ((dat rws).take k))) ∧ Below w.heap.size w wr) (fun _ i _ => n - (intOf i).toNat)
  case atStart => exact ⟨0, none, 0, by omega, rfl, rfl, own_nil _ _ _ _, Below.refl _ _⟩
  case round =>
    obtain ⟨k, A', c', hk, rfl, rfl, hown, hbr⟩ := hrel
    obtain ⟨wo, rfl⟩ : ∃ wo : World, wo = wr := ⟨_, rfl⟩
    have hz := hbr.size
    by_cases hlt : k < n
    · obtain ⟨hM2, hA2, hB2, hC2⟩ := HR.out
      obtain ⟨ad, r, rfl, hx, hc, hrr0⟩ := (hM2.below hbr).at_ hlt
      have hrr := hrr0.more hz
      have hA2 := (hA2.below hbr).more hz
      have hB2 := (hB2.below hbr).more hz
      have hC2 := (hC2.below hbr).more hz
      have hdx := dat_at hx
      obtain ⟨hsy, hsl⟩ := HS.out r.xs (List.mem_of_getElem? hdx)
      have hrl := ints_len hrr
      have cc := walkError_any r.A r.n r.c r.xs A m a rs B b ps C c fs wo hA2 hB2 hC2 hrr hsy hm1 (by omega)
      rw [← hrl] at cc
      have HCC := Lib.hid cc
      have HN := Lib.hid (errs_snoc (rs := rs) (ps := ps) (fs := fs) hdx)
      have HRL := Lib.hid hrl
      have hkI : (k : Int) < (n : Int) := by omega
      have HO := Lib.hid hown
      generalize hEE : erT rs ps fs r.xs r.xs.length = ee at *
      clear hM2 hx hrr0 hrr hA2 hB2 hC2 hdx hsy hsl cc hown hEE
      go_wp2_with fail; ((with_reducible refine (HRL.out ▸ HCC.out).mono ?_); rintro e w' ⟨rfl, md, rfl⟩)
      go_wp2_with (at_builtin; (refine wpList_app _ rfl _ _ 25 rfl w.heap.size 2 i0 _ 1 8 Try.underlying25 hi0 hz0 hz1 hz2 rfl (by omega) A' _ c' _ rfl (((own_drew HO.out _)).alloc _) ⟨_, 0, none⟩ 1 1 [.int .i64 ee] rfl rfl (cell_one_at (by simp) _ _) (by simp [Value.oneCell']) (by unfold maxLen; omega) (by omega) (by have hz := (hbr).size; simp at hz ⊢; omega) ?_); intro A1 c1 w2 ho2 hb2)
      go_roundw
      case rel => exact ⟨k + 1, A1, c1, by omega, by first | rfl | go_num, by go_num, by rw [HN.out]; simpa [ints] using ho2, ((below_drewN hbr _).alloc (by have := hbr.size; simp; omega) _).trans hb2⟩
      case measure => simp [intOf]; omega
    · have e : k = n := by omega
      have HF : Hid ((dat rws).take k = dat rws) := List.take_of_length_le (by rw [dat_len, HL.out]; omega)
      rw [HF.out] at hown
      have HO := Lib.hid hown
      subst e
      clear hown
      go_wp2
      go_ret
      exact ⟨A', c', rfl, HO.out, hbr⟩
set_option maxHeartbeats 1600000 in
theorem l07Ask_any (J : Int) (M : Option Addr) (m d : Nat) (xs : List Awy) (A : Option Addr) (n1 a : Nat) (rs : List Int) (B : Option Addr) (n2 b : Nat) (ps : List Int) (C : Option Addr) (n3 c : Nat) (fs : List Int) (p : Addr) (w : World) (hm : Reads w w.heap.size 7 M m (Awy.recs xs)) (hmn : m ≤ 1048576) (hxs : ∀ x ∈ xs, x.s.size ≤ maxLen)
    (hA : Reads w w.heap.size 1 A n1 (ints rs)) (hn1 : n1 ≤ 1048576) (hB : Reads w w.heap.size 1 B n2 (ints ps)) (hn2 : n2 ≤ 1048576) (hC : Reads w w.heap.size 1 C n3 (ints fs)) (hn3 : n3 ≤ 1048576) (hcp : Cells w p [.int .i64 J, .slice M m d]) :
    Calls Try.prog 73 #[.pointer (some p), .slice A n1 a, .slice B n2 b, .slice C n3 c] w fun e w' => e = .returned (.int .i64 (sysC J xs rs ps fs)) ∧ Below w.heap.size w w' := by
  have HLm := Lib.hid (recs_rlen Awy.clen (by omega) hm)
  have hp1 := hcp.at_ 0 rfl
  have cm := l04Ok_any J M m d xs p w hm hmn hxs hcp
  have hpl := block_lt_of_cell hp1
  have HA := Lib.hid (And.intro hA (And.intro hB hC))
  clear hxs hcp hA hB hC
  rcases Bool.eq_false_or_eq_true (mineOk J xs) with k1 | k1
  · have K1 := Lib.hid k1
    rw [k1] at cm
    have HCM := Lib.hid cm
    have H1 : Hid (∀ W, Below w.heap.size w W → Calls Try.prog 124 #[.pointer (some p), .slice A n1 a] W fun e w' => e = .returned (.bool (lstOk m 1 1000000 rs)) ∧ W = w') := fun W hW => l07Res_any m M d p A n1 a rs W ((HA.out.1.below hW).more hW.size) hn1 ((hW.cell hpl).trans hp1)
    have H2 : Hid (∀ W, Below w.heap.size w W → Calls Try.prog 63 #[.pointer (some p), .slice B n2 b] W fun e w' => e = .returned (.bool (lstOk m (-100000) 100000 ps)) ∧ W = w') := fun W hW => l07Pressures_any m M d p B n2 b ps W ((HA.out.2.1.below hW).more hW.size) hn2 ((hW.cell hpl).trans hp1)
    have H3 : Hid (∀ W, Below w.heap.size w W → Calls Try.prog 51 #[.pointer (some p), .slice C n3 c] W fun e w' => e = .returned (.bool (lstOk m (-100000) 100000 fs)) ∧ W = w') := fun W hW => l07Flows_any m M d p C n3 c fs W ((HA.out.2.2.below hW).more hW.size) hn3 ((hW.cell hpl).trans hp1)
    clear cm k1
    rcases Bool.eq_false_or_eq_true (lstOk m 1 1000000 rs) with k2 | k2 <;> rcases Bool.eq_false_or_eq_true (lstOk m (-100000) 100000 ps) with k3 | k3 <;> rcases Bool.eq_false_or_eq_true (lstOk m (-100000) 100000 fs) with k4 | k4
    all_goals
      have HV : Hid (sysC J xs rs ps fs = if (lstOk m 1 1000000 rs && lstOk m (-100000) 100000 ps && lstOk m (-100000) 100000 fs) = true then 0 else 7) := show _ = _ by unfold sysC sysOk; rw [if_pos K1.out, HLm.out]
      rw [k2, k3, k4] at HV
      rw [k2] at H1
      rw [k3] at H2
      rw [k4] at H3
      clear k2 k3 k4
      go_enter Try.func73, Try.ntmps73
      go_wp2_with fail; ((with_reducible refine HCM.out.mono ?_); rintro e w1 ⟨rfl, hb1⟩)
      go_wp2_with (first | (go_at_call 124; refine (H1.out _ hb1).mono ?_; rintro e w' ⟨rfl, rfl⟩) | (go_at_call 63; refine (H2.out _ hb1).mono ?_; rintro e w' ⟨rfl, rfl⟩) | (go_at_call 51; refine (H3.out _ hb1).mono ?_; rintro e w' ⟨rfl, rfl⟩))
      go_ret
      exact ⟨ret_int (by rw [HV.out]; simp), hb1⟩
  · have HV := Lib.hid (sysC_1 (rs := rs) (ps := ps) (fs := fs) k1)
    rw [k1] at cm
    have HCM := Lib.hid cm
    clear cm k1
    go_enter Try.func73, Try.ntmps73
    go_wp2_with fail; ((with_reducible refine HCM.out.mono ?_); rintro e w1 ⟨rfl, hb1⟩)
    go_wp2
    go_ret
    exact ⟨ret_int HV.out.symm, hb1⟩
set_option maxHeartbeats 1600000 in
theorem hasSystem_any (J : Int) (M : Option Addr) (m d : Nat) (A : Option Addr) (n1 a : Nat) (rs : List Int) (B : Option Addr) (n2 b : Nat) (ps : List Int) (C : Option Addr) (n3 c : Nat) (fs : List Int) (w : World)
    (hA : Reads w w.heap.size 1 A n1 (ints rs)) (hn1 : n1 ≤ 1048576) (hB : Reads w w.heap.size 1 B n2 (ints ps)) (hn2 : n2 ≤ 1048576) (hC : Reads w w.heap.size 1 C n3 (ints fs)) (hn3 : n3 ≤ 1048576) :
    Calls Try.prog 75 #[.agg #[.int .i64 J, .slice M m d], .slice A n1 a, .slice B n2 b, .slice C n3 c] w fun e w' => e = .returned (.bool (sysOk m rs ps fs)) ∧ Below w.heap.size w w' := by
  have hb : Below w.heap.size w (w.alloc (.cells #[.int .i64 J, .slice M m d] 31)) := (Below.refl _ _).alloc (Nat.le_refl _) _
  have g0 : (w.alloc (.cells #[.int .i64 J, .slice M m d] 31)).cell? ⟨w.heap.size, 0, none⟩ = some (.int .i64 J) := ((Blk.new w _ _).cell 0).trans rfl
  have g1 : (w.alloc (.cells #[.int .i64 J, .slice M m d] 31)).cell? ⟨w.heap.size, 1, none⟩ = some (.slice M m d) := ((Blk.new w _ _).cell 1).trans rfl
  have z0 : w.heap.size < (w.alloc (.cells #[.int .i64 J, .slice M m d] 31)).heap.size := by simp
  have HA := Lib.hid (And.intro hA (And.intro hB hC))
  have H1 : Hid (∀ W, Below w.heap.size w W → Calls Try.prog 67 #[.agg #[.int .i64 J, .slice M m d], .slice A n1 a, .int .i64 1, .int .i64 1000000] W fun e w' => e = .returned (.bool (lstOk m 1 1000000 rs)) ∧ Below W.heap.size W w') := fun W hW => hasList_any J M m d A n1 a 1 1000000 rs W ((HA.out.1.below hW).more hW.size) hn1
  have H2 : Hid (∀ W, Below w.heap.size w W → Calls Try.prog 67 #[.agg #[.int .i64 J, .slice M m d], .slice B n2 b, .int .i64 (-100000), .int .i64 100000] W fun e w' => e = .returned (.bool (lstOk m (-100000) 100000 ps)) ∧ Below W.heap.size W w') := fun W hW => hasList_any J M m d B n2 b (-100000) 100000 ps W ((HA.out.2.1.below hW).more hW.size) hn2
  have H3 : Hid (∀ W, Below w.heap.size w W → Calls Try.prog 56 #[.agg #[.int .i64 J, .slice M m d], .slice C n3 c] W fun e w' => e = .returned (.bool (lstOk m (-100000) 100000 fs)) ∧ Below W.heap.size W w') := fun W hW => hasFlows_any J M m d C n3 c fs W ((HA.out.2.2.below hW).more hW.size) hn3
  clear hA hB hC
  have HV : Hid (sysOk m rs ps fs = (lstOk m 1 1000000 rs && lstOk m (-100000) 100000 ps && lstOk m (-100000) 100000 fs)) := rfl
  rcases Bool.eq_false_or_eq_true (lstOk m 1 1000000 rs) with k2 | k2
  · rw [k2] at H1 HV
    clear k2
    rcases Bool.eq_false_or_eq_true (lstOk m (-100000) 100000 ps) with k3 | k3
    · rw [k3] at H2 HV
      clear k3
      go_enter Try.func75, Try.ntmps75
      go_wp2_with fail; ((with_reducible refine (H1.out _ hb).mono ?_); rintro e w1 ⟨rfl, hb1⟩)
      have B1 := hb.trans (hb1.mono hb.size)
      have p0 := (hb1.cell (p := ⟨w.heap.size, 0, none⟩) z0).trans g0
      have p1 := (hb1.cell (p := ⟨w.heap.size, 1, none⟩) z0).trans g1
      have z1 := Nat.lt_of_lt_of_le z0 hb1.size
      go_wp2_with fail; ((with_reducible refine (H2.out _ B1).mono ?_); rintro e w2 ⟨rfl, hb2⟩)
      have B2 := B1.trans (hb2.mono B1.size)
      have q0 := (hb2.cell (p := ⟨w.heap.size, 0, none⟩) z1).trans p0
      have q1 := (hb2.cell (p := ⟨w.heap.size, 1, none⟩) z1).trans p1
      go_wp2_with fail; ((with_reducible refine (H3.out _ B2).mono ?_); rintro e w3 ⟨rfl, hb3⟩)
      go_wp2
      go_ret
      exact ⟨ret_bool (by rw [HV.out]; simp), B2.trans (hb3.mono B2.size)⟩
    · rw [k3] at H2 HV
      clear k3
      go_enter Try.func75, Try.ntmps75
      go_wp2_with fail; ((with_reducible refine (H1.out _ hb).mono ?_); rintro e w1 ⟨rfl, hb1⟩)
      have B1 := hb.trans (hb1.mono hb.size)
      have p0 := (hb1.cell (p := ⟨w.heap.size, 0, none⟩) z0).trans g0
      have p1 := (hb1.cell (p := ⟨w.heap.size, 1, none⟩) z0).trans g1
      have z1 := Nat.lt_of_lt_of_le z0 hb1.size
      go_wp2_with fail; ((with_reducible refine (H2.out _ B1).mono ?_); rintro e w2 ⟨rfl, hb2⟩)
      go_wp2
      go_ret
      exact ⟨ret_bool (by rw [HV.out]; simp), B1.trans (hb2.mono B1.size)⟩
  · rw [k2] at H1 HV
    clear k2
    go_enter Try.func75, Try.ntmps75
    go_wp2_with fail; ((with_reducible refine (H1.out _ hb).mono ?_); rintro e w1 ⟨rfl, hb1⟩)
    go_wp2
    go_ret
    exact ⟨ret_bool (by rw [HV.out]; simp), hb.trans (hb1.mono hb.size)⟩
set_option maxHeartbeats 3200000 in
set_option maxRecDepth 100000 in
theorem specMeshErrors_any (J : Int) (M : Option Addr) (m d : Nat) (xs : List Awy) (A1 : Option Addr) (n1 c1 : Nat) (rs : List Int) (A2 : Option Addr) (n2 c2 : Nat) (ps : List Int) (A3 : Option Addr) (n3 c3 : Nat) (fs : List Int) (w : World) (hm : Reads w w.heap.size 7 M m (Awy.recs xs)) (hmn : m ≤ 1048576) (hxs : ∀ x ∈ xs, x.s.size ≤ maxLen) (hr1 : Reads w w.heap.size 1 A1 n1 (ints rs)) (hn1 : n1 ≤ 1048576) (hr2 : Reads w w.heap.size 1 A2 n2 (ints ps)) (hn2 : n2 ≤ 1048576) (hr3 : Reads w w.heap.size 1 A3 n3 (ints fs)) (hn3 : n3 ≤ 1048576) :
    Calls Try.prog 30 #[.agg #[.int .i64 J, .slice M m d], .slice A1 n1 c1, .slice A2 n2 c2, .slice A3 n3 c3] w fun e w' => ∃ A' n' c', e = .returned (.tuple #[.slice A' n' c', .int .i64 (merR J xs rs ps fs).2]) ∧ w'.ownsRow w.heap.size 2 1 (.slice A' n' c') n' (ints (merR J xs rs ps fs).1) ∧ n' ≤ 1048576 ∧ Below w.heap.size w w' := by
  have HLm := Lib.hid (recs_rlen Awy.clen (by omega) hm)
  have hb : Below w.heap.size w (w.alloc (.cells #[.int .i64 J, .slice M m d] 31)) := (Below.refl _ _).alloc (Nat.le_refl _) _
  have g0 : (w.alloc (.cells #[.int .i64 J, .slice M m d] 31)).cell? ⟨w.heap.size, 0, none⟩ = some (.int .i64 J) := ((Blk.new w _ _).cell 0).trans rfl
  have g1 : (w.alloc (.cells #[.int .i64 J, .slice M m d] 31)).cell? ⟨w.heap.size, 1, none⟩ = some (.slice M m d) := ((Blk.new w _ _).cell 1).trans rfl
  have z0 : w.heap.size < (w.alloc (.cells #[.int .i64 J, .slice M m d] 31)).heap.size := by simp
  have HW := Lib.hid (fun W (hb : Below w.heap.size w W) => (hm.below hb).more hb.size)
  have HR1 := Lib.hid (fun W (hb : Below w.heap.size w W) => (hr1.below hb).more hb.size)
  have HR2 := Lib.hid (fun W (hb : Below w.heap.size w W) => (hr2.below hb).more hb.size)
  have HR3 := Lib.hid (fun W (hb : Below w.heap.size w W) => (hr3.below hb).more hb.size)
  have ca := l07Ask_any J M m d xs A1 n1 c1 rs A2 n2 c2 ps A3 n3 c3 fs ⟨w.heap.size, 0, none⟩ _ (HW.out _ hb) hmn hxs (HR1.out _ hb) hn1 (HR2.out _ hb) hn2 (HR3.out _ hb) hn3 (Cells.new w _ _)
  clear hxs
  by_cases k0 : sysC J xs rs ps fs = 0
  · have k1 : mineOk J xs = true := by
      cases h : mineOk J xs with
      | true => rfl
      | false => rw [sysC_1 h] at k0; omega
    have k2 : sysOk m rs ps fs = true := by
      cases h : sysOk m rs ps fs with
      | true => rfl
      | false => rw [sysC_7 k1 (by rw [HLm.out]; exact h)] at k0; omega
    have HV : Hid (merR J xs rs ps fs = (errsL rs ps fs (meshL J xs), 0)) := show _ = _ by unfold merR; rw [k0, if_pos rfl]
    have K1 := Lib.hid k1
    obtain ⟨s1, s2, s3⟩ := sysOk_t k2
    have hm24 : m ≤ 24 := by have := (mineOk_t k1).2.1; rw [HLm.out] at this; exact this
    obtain rfl : n1 = m := (lenR (HR1.out w (Below.refl _ _)) s1)
    obtain rfl : n2 = n1 := (lenR (HR2.out w (Below.refl _ _)) s2)
    obtain rfl : n3 = n2 := (lenR (HR3.out w (Below.refl _ _)) s3)
    have HSY : Hid (∀ s ∈ meshL J xs, SysB rs ps fs s n3 ∧ s.length ≤ 20) := fun s h => by
      have h1 := meshL_ok k1 s h
      exact ⟨sys_of s1 (lst_wide s2) s3 (by have := h1.2.2; rw [HLm.out] at this; exact this), by omega⟩
    have HML := Lib.hid (meshL_len k1)
    rw [k0] at ca
    have HCA := Lib.hid ca
    clear ca k0 k1 k2 s1 s2 s3
    go_enter Try.func30, Try.ntmps30
    go_wp2_with fail; ((with_reducible refine HCA.out.mono ?_); rintro e w1 ⟨rfl, hb1⟩)
    have B1 := hb.trans (hb1.mono hb.size)
    have p0 := (hb1.cell (p := ⟨w.heap.size, 0, none⟩) z0).trans g0
    have p1 := (hb1.cell (p := ⟨w.heap.size, 1, none⟩) z0).trans g1
    have z1 := Nat.lt_of_lt_of_le z0 hb1.size
    have cM := l04Meshes_any J M n3 d xs ⟨w.heap.size, 0, none⟩ w1 (HW.out _ B1) K1.out p0 p1
    go_wp2_with fail; ((with_reducible refine cM.mono ?_); rintro e w2 ⟨A4, n4, c4, rws, rfl, hos, hda, hb2⟩)
    have B2 := B1.trans (hb2.mono B1.size)
    have hn4 : n4 ≤ 24 := by have h1 := hos.reads.len; rw [← dat_len, hda] at h1; have := HML.out; omega
    have ce := l07Errors_any A4 n4 c4 rws A1 n3 c1 rs A2 c2 ps A3 c3 fs w2 hos.reads (HR1.out _ B2) (HR2.out _ B2) (HR3.out _ B2) (by rw [hda]; exact HSY.out) (by omega) (by omega)
    rw [hda] at ce
    have HCE := Lib.hid ce
    clear cM ce hos hda
    go_wp2_with fail; ((with_reducible refine HCE.out.mono ?_); rintro e w3 ⟨A5, c5, rfl, ho5, hb3⟩)
    have HO5 := Lib.hid ho5
    clear ho5
    go_wp2
    go_ret2
    rw [HV.out]
    exact ⟨A5, n4, c5, rfl, own_base HO5.out B2.size, by omega, B2.trans (hb3.mono B2.size)⟩
  · have HV : Hid (merR J xs rs ps fs = ([], sysC J xs rs ps fs)) := show _ = _ by unfold merR; rw [if_neg k0]
    have hne : (sysC J xs rs ps fs != 0) = true := bne_iff_ne.2 k0
    generalize sysC J xs rs ps fs = cd at *
    have HCA := Lib.hid ca
    clear ca k0
    go_enter Try.func30, Try.ntmps30
    go_wp2_with fail; ((with_reducible refine HCA.out.mono ?_); rintro e w1 ⟨rfl, hb1⟩)
    go_wp2
    go_ret2
    rw [HV.out]
    exact ⟨none, 0, 0, rfl, own_nil _ _ _ _, by omega, hb.trans (hb1.mono hb.size)⟩
set_option maxHeartbeats 3200000 in
set_option maxRecDepth 100000 in
theorem implMeshErrors_any (J : Int) (M : Option Addr) (m d : Nat) (xs : List Awy) (A1 : Option Addr) (n1 c1 : Nat) (rs : List Int) (A2 : Option Addr) (n2 c2 : Nat) (ps : List Int) (A3 : Option Addr) (n3 c3 : Nat) (fs : List Int) (w : World) (hm : Reads w w.heap.size 7 M m (Awy.recs xs)) (hmn : m ≤ 1048576) (hxs : ∀ x ∈ xs, x.s.size ≤ maxLen) (hr1 : Reads w w.heap.size 1 A1 n1 (ints rs)) (hn1 : n1 ≤ 1048576) (hr2 : Reads w w.heap.size 1 A2 n2 (ints ps)) (hn2 : n2 ≤ 1048576) (hr3 : Reads w w.heap.size 1 A3 n3 (ints fs)) (hn3 : n3 ≤ 1048576) :
    Calls Try.prog 31 #[.agg #[.int .i64 J, .slice M m d], .slice A1 n1 c1, .slice A2 n2 c2, .slice A3 n3 c3] w fun e w' => ∃ A' n' c', e = .returned (.tuple #[.slice A' n' c', .int .i64 (merR J xs rs ps fs).2]) ∧ w'.ownsRow w.heap.size 2 1 (.slice A' n' c') n' (ints (merR J xs rs ps fs).1) ∧ n' ≤ 1048576 ∧ Below w.heap.size w w' := by
  have HLm := Lib.hid (recs_rlen Awy.clen (by omega) hm)
  have hb : Below w.heap.size w (w.alloc (.cells #[.int .i64 J, .slice M m d] 31)) := (Below.refl _ _).alloc (Nat.le_refl _) _
  have g0 : (w.alloc (.cells #[.int .i64 J, .slice M m d] 31)).cell? ⟨w.heap.size, 0, none⟩ = some (.int .i64 J) := ((Blk.new w _ _).cell 0).trans rfl
  have g1 : (w.alloc (.cells #[.int .i64 J, .slice M m d] 31)).cell? ⟨w.heap.size, 1, none⟩ = some (.slice M m d) := ((Blk.new w _ _).cell 1).trans rfl
  have z0 : w.heap.size < (w.alloc (.cells #[.int .i64 J, .slice M m d] 31)).heap.size := by simp
  have HW := Lib.hid (fun W (hb : Below w.heap.size w W) => (hm.below hb).more hb.size)
  have HR1 := Lib.hid (fun W (hb : Below w.heap.size w W) => (hr1.below hb).more hb.size)
  have HR2 := Lib.hid (fun W (hb : Below w.heap.size w W) => (hr2.below hb).more hb.size)
  have HR3 := Lib.hid (fun W (hb : Below w.heap.size w W) => (hr3.below hb).more hb.size)
  have cm := implValidMine_any J M m d xs (w.alloc (.cells #[.int .i64 J, .slice M m d] 31)) (HW.out _ hb) hmn hxs
  clear hxs
  rcases Bool.eq_false_or_eq_true (mineOk J xs) with k1 | k1
  · have K1 := Lib.hid k1
    rw [k1] at cm
    have HCM := Lib.hid cm
    clear cm
    rcases Bool.eq_false_or_eq_true (sysOk m rs ps fs) with k2 | k2
    · have HV : Hid (merR J xs rs ps fs = (errsL rs ps fs (meshL J xs), 0)) := show _ = _ by unfold merR; rw [sysC_0 k1 (by rw [HLm.out]; exact k2), if_pos rfl]
      have K2 := Lib.hid k2
      obtain ⟨s1, s2, s3⟩ := sysOk_t k2
      have hm24 : m ≤ 24 := by have := (mineOk_t k1).2.1; rw [HLm.out] at this; exact this
      obtain rfl : n1 = m := (lenR (HR1.out w (Below.refl _ _)) s1)
      obtain rfl : n2 = n1 := (lenR (HR2.out w (Below.refl _ _)) s2)
      obtain rfl : n3 = n2 := (lenR (HR3.out w (Below.refl _ _)) s3)
      have HSY : Hid (∀ s ∈ meshL J xs, SysB rs ps fs s n3 ∧ s.length ≤ 20) := fun s h => by
        have h1 := meshL_ok k1 s h
        exact ⟨sys_of s1 (lst_wide s2) s3 (by have := h1.2.2; rw [HLm.out] at this; exact this), by omega⟩
      have HML := Lib.hid (meshL_len k1)
      clear k1 k2 s1 s2 s3
      go_enter Try.func31, Try.ntmps31
      go_wp2_with fail; ((with_reducible refine HCM.out.mono ?_); rintro e w1 ⟨rfl, hb1⟩)
      have B1 := hb.trans (hb1.mono hb.size)
      have p0 := (hb1.cell (p := ⟨w.heap.size, 0, none⟩) z0).trans g0
      have p1 := (hb1.cell (p := ⟨w.heap.size, 1, none⟩) z0).trans g1
      have z1 := Nat.lt_of_lt_of_le z0 hb1.size
      have cs := hasSystem_any J M n3 d A1 n3 c1 rs A2 n3 c2 ps A3 n3 c3 fs w1 (HR1.out _ B1) hn1 (HR2.out _ B1) hn2 (HR3.out _ B1) hn3
      rw [K2.out] at cs
      have HCS := Lib.hid cs
      clear cs
      go_wp2_with fail; ((with_reducible refine HCS.out.mono ?_); rintro e w2 ⟨rfl, hb2⟩)
      have B2 := B1.trans (hb2.mono B1.size)
      have p0 := (hb2.cell (p := ⟨w.heap.size, 0, none⟩) z1).trans p0
      have p1 := (hb2.cell (p := ⟨w.heap.size, 1, none⟩) z1).trans p1
      have z2 := Nat.lt_of_lt_of_le z1 hb2.size
      have cM := meshes_any J M n3 d xs w2 (HW.out _ B2) K1.out
      go_wp2_with fail; ((with_reducible refine cM.mono ?_); rintro e w3 ⟨A4, n4, c4, rws, rfl, hos, hda, hb3⟩)
      have B3 := B2.trans (hb3.mono B2.size)
      have hn4 : n4 ≤ 24 := by have h1 := hos.reads.len; rw [← dat_len, hda] at h1; have := HML.out; omega
      have ce := meshErrors_any A4 n4 c4 rws A1 n3 c1 rs A2 c2 ps A3 c3 fs w3 hos.reads (HR1.out _ B3) (HR2.out _ B3) (HR3.out _ B3) (by rw [hda]; exact HSY.out) (by omega) (by omega)
      rw [hda] at ce
      have HCE := Lib.hid ce
      clear cM ce hos hda
      go_wp2_with fail; ((with_reducible refine HCE.out.mono ?_); rintro e w4 ⟨A5, c5, rfl, ho5, hb4⟩)
      have HO5 := Lib.hid ho5
      clear ho5
      go_wp2
      go_ret2
      rw [HV.out]
      exact ⟨A5, n4, c5, rfl, own_base HO5.out B3.size, by omega, B3.trans (hb4.mono B3.size)⟩
    · have HV : Hid (merR J xs rs ps fs = ([], 7)) := show _ = _ by unfold merR; rw [sysC_7 k1 (by rw [HLm.out]; exact k2), if_neg (by omega)]
      have K2 := Lib.hid k2
      clear k1 k2
      go_enter Try.func31, Try.ntmps31
      go_wp2_with fail; ((with_reducible refine HCM.out.mono ?_); rintro e w1 ⟨rfl, hb1⟩)
      have B1 := hb.trans (hb1.mono hb.size)
      have p0 := (hb1.cell (p := ⟨w.heap.size, 0, none⟩) z0).trans g0
      have p1 := (hb1.cell (p := ⟨w.heap.size, 1, none⟩) z0).trans g1
      have z1 := Nat.lt_of_lt_of_le z0 hb1.size
      have cs := hasSystem_any J M m d A1 n1 c1 rs A2 n2 c2 ps A3 n3 c3 fs w1 (HR1.out _ B1) hn1 (HR2.out _ B1) hn2 (HR3.out _ B1) hn3
      rw [K2.out] at cs
      have HCS := Lib.hid cs
      clear cs
      go_wp2_with fail; ((with_reducible refine HCS.out.mono ?_); rintro e w2 ⟨rfl, hb2⟩)
      go_wp2
      go_ret2
      rw [HV.out]
      exact ⟨none, 0, 0, rfl, own_nil _ _ _ _, by omega, B1.trans (hb2.mono B1.size)⟩
  · have HV : Hid (merR J xs rs ps fs = ([], 1)) := show _ = _ by unfold merR; rw [sysC_1 k1, if_neg (by omega)]
    rw [k1] at cm
    have HCM := Lib.hid cm
    clear cm k1
    go_enter Try.func31, Try.ntmps31
    go_wp2_with fail; ((with_reducible refine HCM.out.mono ?_); rintro e w1 ⟨rfl, hb1⟩)
    go_wp2
    go_ret2
    rw [HV.out]
    exact ⟨none, 0, 0, rfl, own_nil _ _ _ _, by omega, hb.trans (hb1.mono hb.size)⟩
end Go.Proofs.Ytjmhhbjbmgpagaa

/- Contracts of the correction of a mesh, both sides. -/
namespace Go.Proofs.Ytjmhhbjbmgpagaa
set_option linter.unusedVariables false
set_option linter.unusedSimpArgs false
open Go.RowKit
def corF (rs ps fs s : List Int) : List Int := addL fs s (stR rs ps fs s s.length) s.length
def corR (J : Int) (xs : List Awy) (rs ps fs : List Int) (k : Int) : List Int × Int :=
  if mineOk J xs = true then (if inB k 0 (((meshL J xs).length : Int) - 1) = true then (if sysOk xs.length rs ps fs = true then (if lstOk xs.length (-100000) 100000 (corF rs ps fs ((meshL J xs).getD k.toNat [])) = true then (corF rs ps fs ((meshL J xs).getD k.toNat []), 0) else ([], 6)) else ([], 7)) else ([], 2)) else ([], 1)
section
variable {J k : Int} {xs : List Awy} {rs ps fs : List Int}
theorem ff_ne {b : Bool} (h : b = false) : ¬ b = true := by rw [h]; exact Bool.false_ne_true
theorem corR_1 (h : mineOk J xs = false) : corR J xs rs ps fs k = ([], 1) := by unfold corR; rw [if_neg (ff_ne h)]
theorem corR_2 (h : mineOk J xs = true) (h1 : inB k 0 (((meshL J xs).length : Int) - 1) = false) : corR J xs rs ps fs k = ([], 2) := by unfold corR; rw [if_pos h, if_neg (ff_ne h1)]
theorem corR_7 (h : mineOk J xs = true) (h1 : inB k 0 (((meshL J xs).length : Int) - 1) = true) (h2 : sysOk xs.length rs ps fs = false) : corR J xs rs ps fs k = ([], 7) := by unfold corR; rw [if_pos h, if_pos h1, if_neg (ff_ne h2)]
theorem corR_x (h : mineOk J xs = true) (h1 : inB k 0 (((meshL J xs).length : Int) - 1) = true) (h2 : sysOk xs.length rs ps fs = true) : corR J xs rs ps fs k = if lstOk xs.length (-100000) 100000 (corF rs ps fs ((meshL J xs).getD k.toNat [])) = true then (corF rs ps fs ((meshL J xs).getD k.toNat []), 0) else ([], 6) := by unfold corR; rw [if_pos h, if_pos h1, if_pos h2]
end
theorem indexValidM_any (M : Option Addr) (m d : Nat) (k : Int) (w : World) (hm : m ≤ 1048576) :
    Calls Try.prog 80 #[.slice M m d, .int .i64 k] w fun e w' => e = .returned (.bool (inB k 0 ((m : Int) - 1))) ∧ w = w' := by
  go_enter Try.func80, Try.ntmps80
  go_wp2_with (go_at_call 97; refine (within_any _ _ _ _).mono ?_; rintro e w' ⟨rfl, rfl⟩)
  go_ret
  exact ⟨rfl, rfl⟩
set_option maxHeartbeats 3200000 in
set_option maxRecDepth 100000 in
theorem specCorrectMesh_any (J : Int) (M : Option Addr) (m d : Nat) (xs : List Awy) (A1 : Option Addr) (n1 c1 : Nat) (rs : List Int) (A2 : Option Addr) (n2 c2 : Nat) (ps : List Int) (A3 : Option Addr) (n3 c3 : Nat) (fs : List Int) (k : Int) (w : World) (hm : Reads w w.heap.size 7 M m (Awy.recs xs)) (hmn : m ≤ 1048576) (hxs : ∀ x ∈ xs, x.s.size ≤ maxLen) (hr1 : Reads w w.heap.size 1 A1 n1 (ints rs)) (hn1 : n1 ≤ 1048576) (hr2 : Reads w w.heap.size 1 A2 n2 (ints ps)) (hn2 : n2 ≤ 1048576) (hr3 : Reads w w.heap.size 1 A3 n3 (ints fs)) (hn3 : n3 ≤ 1048576) :
    Calls Try.prog 32 #[.agg #[.int .i64 J, .slice M m d], .slice A1 n1 c1, .slice A2 n2 c2, .slice A3 n3 c3, .int .i64 k] w fun e w' => ∃ A' n' c', e = .returned (.tuple #[.slice A' n' c', .int .i64 (corR J xs rs ps fs k).2]) ∧ w'.ownsRow w.heap.size 2 1 (.slice A' n' c') n' (ints (corR J xs rs ps fs k).1) ∧ n' ≤ 1048576 ∧ Below w.heap.size w w' := by
  have HLm := Lib.hid (recs_rlen Awy.clen (by omega) hm)
  have hb : Below w.heap.size w (w.alloc (.cells #[.int .i64 J, .slice M m d] 31)) := (Below.refl _ _).alloc (Nat.le_refl _) _
  have g0 : (w.alloc (.cells #[.int .i64 J, .slice M m d] 31)).cell? ⟨w.heap.size, 0, none⟩ = some (.int .i64 J) := ((Blk.new w _ _).cell 0).trans rfl
  have g1 : (w.alloc (.cells #[.int .i64 J, .slice M m d] 31)).cell? ⟨w.heap.size, 1, none⟩ = some (.slice M m d) := ((Blk.new w _ _).cell 1).trans rfl
  have z0 : w.heap.size < (w.alloc (.cells #[.int .i64 J, .slice M m d] 31)).heap.size := by simp
  have HW := Lib.hid (fun W (hb : Below w.heap.size w W) => (hm.below hb).more hb.size)
  have HR1 := Lib.hid (fun W (hb : Below w.heap.size w W) => (hr1.below hb).more hb.size)
  have HR2 := Lib.hid (fun W (hb : Below w.heap.size w W) => (hr2.below hb).more hb.size)
  have HR3 := Lib.hid (fun W (hb : Below w.heap.size w W) => (hr3.below hb).more hb.size)
  have ca := l07Ask_any J M m d xs A1 n1 c1 rs A2 n2 c2 ps A3 n3 c3 fs ⟨w.heap.size, 0, none⟩ _ (HW.out _ hb) hmn hxs (HR1.out _ hb) hn1 (HR2.out _ hb) hn2 (HR3.out _ hb) hn3 (Cells.new w _ _)
  clear hxs
  rcases Bool.eq_false_or_eq_true (mineOk J xs) with k1 | k1
  · have K1 := Lib.hid k1
    have HML := Lib.hid (meshL_len k1)
    have HV2 := Lib.hid (fun h => corR_2 (rs := rs) (ps := ps) (fs := fs) (k := k) k1 h)
    have HV7 := Lib.hid (fun h h1 => corR_7 (rs := rs) (ps := ps) (fs := fs) (k := k) k1 h h1)
    have HVx := Lib.hid (fun h h1 => corR_x (rs := rs) (ps := ps) (fs := fs) (k := k) k1 h h1)
    rcases Bool.eq_false_or_eq_true (sysOk m rs ps fs) with k2 | k2
    · obtain ⟨s1, s2, s3⟩ := sysOk_t k2
      have hm24 : m ≤ 24 := by have := (mineOk_t k1).2.1; rw [HLm.out] at this; exact this
      obtain rfl : n1 = m := (lenR (HR1.out w (Below.refl _ _)) s1)
      obtain rfl : n2 = n1 := (lenR (HR2.out w (Below.refl _ _)) s2)
      obtain rfl : n3 = n2 := (lenR (HR3.out w (Below.refl _ _)) s3)
      have HSY : Hid (∀ s ∈ meshL J xs, SysB rs ps fs s n3) := fun s h => sys_of s1 (lst_wide s2) s3 (by have := (meshL_ok k1 s h).2.2; rw [HLm.out] at this; exact this)
      have HMO := Lib.hid (meshL_ok k1)
      have HFB : Hid (∀ f ∈ fs, -100000 ≤ f ∧ f ≤ 100000) := (lstOk_t s3).2
      rw [sysC_0 k1 (by rw [HLm.out]; exact k2)] at ca
      have HCA := Lib.hid ca
      clear ca
      go_enter Try.func32, Try.ntmps32
      go_wp2_with fail; ((with_reducible refine HCA.out.mono ?_); rintro e w1 ⟨rfl, hb1⟩)
      have B1 := hb.trans (hb1.mono hb.size)
      have p0 := (hb1.cell (p := ⟨w.heap.size, 0, none⟩) z0).trans g0
      have p1 := (hb1.cell (p := ⟨w.heap.size, 1, none⟩) z0).trans g1
      have z1 := Nat.lt_of_lt_of_le z0 hb1.size
      have cM := l04Meshes_any J M n3 d xs ⟨w.heap.size, 0, none⟩ w1 (HW.out _ B1) K1.out p0 p1
      go_wp2_with fail; ((with_reducible refine cM.mono ?_); rintro e w2 ⟨A4, n4, c4, rws, rfl, hos, hda, hb2⟩)
      have B2 := B1.trans (hb2.mono B1.size)
      have p0 := (hb2.cell (p := ⟨w.heap.size, 0, none⟩) z1).trans p0
      have p1 := (hb2.cell (p := ⟨w.heap.size, 1, none⟩) z1).trans p1
      have z2 := Nat.lt_of_lt_of_le z1 hb2.size
      have HMS : Hid (Mms w2 w1.heap.size A4 n4 c4 (meshL J xs) rws) := ⟨hos, hda⟩
      have HN4 := Lib.hid HMS.out.len
      have hn4 : n4 ≤ 24 := by rw [← HN4.out]; exact HML.out
      clear cM hos hda hb1 hb2
      rcases Bool.eq_false_or_eq_true (inB k 0 ((n4 : Int) - 1)) with k3 | k3
      · have HV := Lib.hid (HVx.out (by rw [HN4.out]; exact k3) (by rw [HLm.out]; exact k2))
        have hci := l00In_any k 0 ((n4 : Int) - 1) w2
        rw [k3] at hci
        have HCI := Lib.hid hci
        obtain ⟨u1, u2⟩ := inB_t k3
        obtain ⟨kn, rfl⟩ : ∃ kn : Nat, k = kn := ⟨k.toNat, by omega⟩
        rw [Int.toNat_natCast] at HV
        have hlt : kn < n4 := by omega
        have cO := l00Own_any A3 n3 c3 fs w2 (HR3.out _ B2) hn3
        clear hci k1 k2 k3 s1 s2 s3 u1 u2
        go_wp2_with fail; ((with_reducible refine HCI.out.mono ?_); rintro e w' ⟨rfl, rfl⟩)
        go_wp2_with fail; ((with_reducible refine cO.mono ?_); rintro e w3 ⟨A5, c5, rfl, ho5, hb3⟩)
        have hb3K := hb3
        have p1_2 := p1
        have B3 := B2.trans (hb3.mono B2.size)
        have p0 := (hb3.cell (p := ⟨w.heap.size, 0, none⟩) z2).trans p0
        have p1 := (hb3.cell (p := ⟨w.heap.size, 1, none⟩) z2).trans p1
        have z3 := Nat.lt_of_lt_of_le z2 hb3.size
        obtain ⟨ad, r, rfl, hms, hrl, hc, hrr, hra⟩ := HMS.out.row_at hb3 hlt
        have hmem := List.mem_of_getElem? hms
        have hmo := HMO.out r.xs hmem
        have hsy := HSY.out r.xs hmem
        have hq1 : 1 ≤ r.n := by rw [hrl]; exact List.length_pos_iff.2 hmo.2.1
        have hq2 : r.n ≤ 18 := by rw [hrl]; exact hmo.1
        have hgd : (meshL J xs).getD kn [] = r.xs := by rw [List.getD_eq_getElem?_getD, hms]; rfl
        have hwk : ∀ x ∈ r.xs, wkB n3 x = true := hsy.2.2.2
        have hn0 : 0 < n3 := by
          obtain ⟨x, hx⟩ := List.exists_mem_of_ne_nil _ hmo.2.1
          have := wkI_lt (hwk x hx); omega
        obtain ⟨g, rfl, _⟩ := own_upd ho5 hn0 0
        have hg2 : w2.heap.size ≤ g := (ho5.lt g rfl).1
        rw [hgd] at HV
        have HCS : Hid (∀ W : World, Below w3.heap.size w3 W → Calls Try.prog 79 #[.slice A1 n3 c1, .slice A2 n3 c2, .slice A3 n3 c3, .slice r.A r.n r.c] W fun e w' => e = .returned (.int .i64 (stR rs ps fs r.xs r.xs.length)) ∧ Below W.heap.size W w') := fun W hW => by
          have h := l07Step_any A1 n3 c1 rs A2 c2 ps A3 c3 fs r.A r.n r.c r.xs W (HR1.out _ (B3.trans (hW.mono B3.size))) (HR2.out _ (B3.trans (hW.mono B3.size))) (HR3.out _ (B3.trans (hW.mono B3.size))) ((hrr.below hW).more hW.size) hsy (by omega) (by omega) hq1
          rw [hrl] at h; rw [hrl]; exact h
        have hsb := stC_bnd (erT rs ps fs r.xs r.xs.length) (slT rs fs r.xs r.xs.length) (alT rs r.xs r.xs.length)
        have hsb1 : -10000 ≤ stR rs ps fs r.xs r.xs.length ∧ stR rs ps fs r.xs r.xs.length ≤ 10000 := hsb
        have HCA2 : Hid (∀ W : World, Below w3.heap.size w3 W → Calls Try.prog 50 #[.slice (some ⟨g, 0, none⟩) n3 c5, .slice r.A r.n r.c, .int .i64 (stR rs ps fs r.xs r.xs.length)] W fun e w' => e = .returned (.tuple #[]) ∧ w'.ownsRow w2.heap.size 2 1 (.slice (some ⟨g, 0, none⟩) n3 c5) n3 (ints (addL fs r.xs (stR rs ps fs r.xs r.xs.length) r.xs.length)) ∧ W.grownBy w' (some g)) := fun W hW => by
          have h := l07Add_any w2.heap.size g n3 c5 fs r.A r.n r.c r.xs (stR rs ps fs r.xs r.xs.length) 100000 W (own_below ho5 hW) ((hrr.below hW).more hW.size) (by omega) (fun a ha => by have := hra a ha; omega) hwk (by omega) (by omega) (by omega) HFB.out (by omega) (by omega)
          rw [hrl] at h; rw [hrl]; exact h
        have HCF : Hid (corF rs ps fs r.xs = addL fs r.xs (stR rs ps fs r.xs r.xs.length) r.xs.length) := rfl
        generalize stR rs ps fs r.xs r.xs.length = st at *
        have hkI : (kn : Int) < (n4 : Int) := by omega
        have HRL := Lib.hid hrl
        have HHB3 := Lib.hid hb3K
        have HRC : Hid (∀ s : NB w3, Calls Try.prog 79 #[.slice A1 n3 c1, .slice A2 n3 c2, .slice A3 n3 c3, .slice r.A r.n r.c] s.w fun e w'' => e = .returned (.int .i64 st) ∧ ∃ s' : NB w3, w'' = s'.w) := fun s => nb_call (HCS.out s.w s.h)
        clear hms hmem hmo hsy hrr hra hgd hwk hsb hsb1 ho5 hrl hb3 hb3K
        go_wp2
        have m4_0 := nb_cell hc (block_lt_of_cell hc); (refine wp_region_nbt 13 (by kernel_rfl) (by kernel_rfl) ?_); simp only [List.take_succ_cons, List.take_zero, List.drop_succ_cons, List.drop_zero]; (repeat (go_big_quiet_step (((go_at_call 79; exact HRC.out _))))); (refine wpQuiet_nil ?_); intro w4 hw4; have hb4 := nb_out hw4; clear hw4 m4_0
        go_wp2_with fail; ((with_reducible refine (HCA2.out _ hb4).mono ?_); rintro e w5 ⟨rfl, ho6, hg5⟩)
        have HB5 := Lib.hid (((HHB3.out.trans (hb4.mono HHB3.out.size))).grown hg5 (Nat.le_trans HHB3.out.size hb4.size) (fun q hq => by have := Option.some.inj hq; omega))
        have B5 := B2.trans (HB5.out.mono B2.size)
        have p1 := (HB5.out.cell (p := ⟨w.heap.size, 1, none⟩) z2).trans p1_2
        have HO6 := Lib.hid ho6
        have cf := l07Flows_any n3 M d ⟨w.heap.size, 0, none⟩ (some ⟨g, 0, none⟩) n3 c5 _ w5 (Reads.of_own ho6) (by omega) p1
        clear ho6 hg5
        rw [← HCF.out] at HO6 cf
        rcases Bool.eq_false_or_eq_true (lstOk n3 (-100000) 100000 (corF rs ps fs r.xs)) with k4 | k4
        · have HVV := Lib.hid (HV.out.trans (if_pos (by rw [HLm.out]; exact k4)))
          rw [k4] at cf
          have HF := Lib.hid cf
          clear cf k4
          go_wp2_with fail; ((with_reducible refine HF.out.mono ?_); rintro e w' ⟨rfl, rfl⟩)
          go_wp2
          go_ret2
          rw [HVV.out]
          exact ⟨_, n3, c5, rfl, own_base HO6.out B2.size, by omega, B5⟩
        · have HVV := Lib.hid (HV.out.trans (if_neg (by rw [HLm.out, k4]; exact Bool.false_ne_true)))
          rw [k4] at cf
          have HF := Lib.hid cf
          clear cf k4
          go_wp2_with fail; ((with_reducible refine HF.out.mono ?_); rintro e w' ⟨rfl, rfl⟩)
          go_wp2
          go_ret2
          rw [HVV.out]
          exact ⟨none, 0, 0, rfl, own_nil _ _ _ _, by omega, B5⟩
      · have HV := Lib.hid (HV2.out (by rw [HN4.out]; exact k3))
        have hci := l00In_any k 0 ((n4 : Int) - 1) w2
        rw [k3] at hci
        have HCI := Lib.hid hci
        clear hci k1 k2 k3 s1 s2 s3
        go_wp2_with fail; ((with_reducible refine HCI.out.mono ?_); rintro e w' ⟨rfl, rfl⟩)
        go_wp2
        go_ret2
        rw [HV.out]
        exact ⟨none, 0, 0, rfl, own_nil _ _ _ _, by omega, B2⟩
    · rw [sysC_7 k1 (by rw [HLm.out]; exact k2)] at ca
      have HCA := Lib.hid ca
      clear ca
      go_enter Try.func32, Try.ntmps32
      go_wp2_with fail; ((with_reducible refine HCA.out.mono ?_); rintro e w1 ⟨rfl, hb1⟩)
      have B1 := hb.trans (hb1.mono hb.size)
      have p0 := (hb1.cell (p := ⟨w.heap.size, 0, none⟩) z0).trans g0
      have p1 := (hb1.cell (p := ⟨w.heap.size, 1, none⟩) z0).trans g1
      have z1 := Nat.lt_of_lt_of_le z0 hb1.size
      have cM := l04Meshes_any J M m d xs ⟨w.heap.size, 0, none⟩ w1 (HW.out _ B1) K1.out p0 p1
      go_wp2_with fail; ((with_reducible refine cM.mono ?_); rintro e w2 ⟨A4, n4, c4, rws, rfl, hos, hda, hb2⟩)
      have B2 := B1.trans (hb2.mono B1.size)
      have p0 := (hb2.cell (p := ⟨w.heap.size, 0, none⟩) z1).trans p0
      have p1 := (hb2.cell (p := ⟨w.heap.size, 1, none⟩) z1).trans p1
      have z2 := Nat.lt_of_lt_of_le z1 hb2.size
      have HMS : Hid (Mms w2 w1.heap.size A4 n4 c4 (meshL J xs) rws) := ⟨hos, hda⟩
      have HN4 := Lib.hid HMS.out.len
      have hn4 : n4 ≤ 24 := by rw [← HN4.out]; exact HML.out
      clear cM hos hda hb1 hb2
      rcases Bool.eq_false_or_eq_true (inB k 0 ((n4 : Int) - 1)) with k3 | k3
      · have HV := Lib.hid (HV7.out (by rw [HN4.out]; exact k3) (by rw [HLm.out]; exact k2))
        have hci := l00In_any k 0 ((n4 : Int) - 1) w2
        rw [k3] at hci
        have HCI := Lib.hid hci
        clear hci k1 k2 k3
        go_wp2_with fail; ((with_reducible refine HCI.out.mono ?_); rintro e w' ⟨rfl, rfl⟩)
        go_wp2
        go_ret2
        rw [HV.out]
        exact ⟨none, 0, 0, rfl, own_nil _ _ _ _, by omega, B2⟩
      · have HV := Lib.hid (HV2.out (by rw [HN4.out]; exact k3))
        have hci := l00In_any k 0 ((n4 : Int) - 1) w2
        rw [k3] at hci
        have HCI := Lib.hid hci
        clear hci k1 k2 k3
        go_wp2_with fail; ((with_reducible refine HCI.out.mono ?_); rintro e w' ⟨rfl, rfl⟩)
        go_wp2
        go_ret2
        rw [HV.out]
        exact ⟨none, 0, 0, rfl, own_nil _ _ _ _, by omega, B2⟩
  · have HV := Lib.hid (corR_1 (rs := rs) (ps := ps) (fs := fs) (k := k) k1)
    rw [sysC_1 k1] at ca
    have HCA := Lib.hid ca
    clear ca k1
    go_enter Try.func32, Try.ntmps32
    go_wp2_with fail; ((with_reducible refine HCA.out.mono ?_); rintro e w1 ⟨rfl, hb1⟩)
    go_wp2
    go_ret2
    rw [HV.out]
    exact ⟨none, 0, 0, rfl, own_nil _ _ _ _, by omega, hb.trans (hb1.mono hb.size)⟩
end Go.Proofs.Ytjmhhbjbmgpagaa

/- Contracts of the mesh with the greatest draught, both sides. -/
namespace Go.Proofs.Ytjmhhbjbmgpagaa
set_option linter.unusedVariables false
set_option linter.unusedSimpArgs false
open Go.RowKit
/-- The best of the first k meshes, and its draught. -/
def bsT (ds : List Int) (ms : List (List Int)) : Nat → Int × Int
  | 0 => (-1, 0)
  | k + 1 => match ms[k]? with
    | some s => if (bsT ds ms k).1 < 0 ∨ (bsT ds ms k).2 < absI (alTo ds s s.length) then ((k : Int), absI (alTo ds s s.length)) else bsT ds ms k
    | none => bsT ds ms k
theorem bsT_y {ds s : List Int} {ms : List (List Int)} {k : Nat} (h : ms[k]? = some s) (h1 : (bsT ds ms k).1 < 0 ∨ (bsT ds ms k).2 < absI (alTo ds s s.length)) : bsT ds ms (k + 1) = ((k : Int), absI (alTo ds s s.length)) := by
  simp only [bsT]; rw [h]; simp only []; rw [if_pos h1]
theorem bsT_n {ds s : List Int} {ms : List (List Int)} {k : Nat} (h : ms[k]? = some s) (h1 : ¬ ((bsT ds ms k).1 < 0 ∨ (bsT ds ms k).2 < absI (alTo ds s s.length))) : bsT ds ms (k + 1) = bsT ds ms k := by
  simp only [bsT]; rw [h]; simp only []; rw [if_neg h1]
theorem bsT_bnd (ds : List Int) (ms : List (List Int)) : ∀ k : Nat, -1 ≤ (bsT ds ms k).1 ∧ (bsT ds ms k).1 ≤ k
  | 0 => by simp [bsT]
  | k + 1 => by
    have ih := bsT_bnd ds ms k
    simp only [bsT]
    cases ms[k]? with
    | none => dsimp only; omega
    | some s => dsimp only; split <;> (try dsimp only) <;> omega
def strR (J : Int) (xs : List Awy) (ls ts : List Int) : Int × Int × Int :=
  if askR J xs ls ts = 0 then (if (bsT (drTo xs ls ts xs.length) (meshL J xs) (meshL J xs).length).1 < 0 then (0, 0, 3) else ((bsT (drTo xs ls ts xs.length) (meshL J xs) (meshL J xs).length).1, (bsT (drTo xs ls ts xs.length) (meshL J xs) (meshL J xs).length).2, 0)) else (0, 0, askR J xs ls ts)
theorem al_in {ds s : List Int} {n : Nat} (hs : s.length ≤ 18) (hd : ∀ d ∈ ds, -100000000000000 ≤ d ∧ d ≤ 100000000000000) : -1800000000000000 ≤ alTo ds s s.length ∧ alTo ds s s.length ≤ 1800000000000000 := by
  have h := alTo_bnd (ws := s) (D := 100000000000000) (by omega) hd s.length
  omega
set_option maxHeartbeats 3200000 in
set_option maxRecDepth 100000 in
theorem specStrongestMesh_any (J : Int) (M : Option Addr) (m d : Nat) (xs : List Awy) (A1 : Option Addr) (n1 c1 : Nat) (ls : List Int) (A2 : Option Addr) (n2 c2 : Nat) (ts : List Int) (w : World) (hm : Reads w w.heap.size 7 M m (Awy.recs xs)) (hmn : m ≤ 1048576) (hxs : ∀ x ∈ xs, x.s.size ≤ maxLen) (hr1 : Reads w w.heap.size 1 A1 n1 (ints ls)) (hn1 : n1 ≤ 1048576) (hr2 : Reads w w.heap.size 1 A2 n2 (ints ts)) (hn2 : n2 ≤ 1048576) :
    Calls Try.prog 22 #[.agg #[.int .i64 J, .slice M m d], .slice A1 n1 c1, .slice A2 n2 c2] w fun e w' => e = .returned (.tuple #[.int .i64 (strR J xs ls ts).1, .int .i64 (strR J xs ls ts).2.1, .int .i64 (strR J xs ls ts).2.2]) ∧ Below w.heap.size w w' := by
  have HLm := Lib.hid (recs_rlen Awy.clen (by omega) hm)
  have hb : Below w.heap.size w (w.alloc (.cells #[.int .i64 J, .slice M m d] 31)) := (Below.refl _ _).alloc (Nat.le_refl _) _
  have g0 : (w.alloc (.cells #[.int .i64 J, .slice M m d] 31)).cell? ⟨w.heap.size, 0, none⟩ = some (.int .i64 J) := ((Blk.new w _ _).cell 0).trans rfl
  have g1 : (w.alloc (.cells #[.int .i64 J, .slice M m d] 31)).cell? ⟨w.heap.size, 1, none⟩ = some (.slice M m d) := ((Blk.new w _ _).cell 1).trans rfl
  have z0 : w.heap.size < (w.alloc (.cells #[.int .i64 J, .slice M m d] 31)).heap.size := by simp
  have HW := Lib.hid (fun W (hb : Below w.heap.size w W) => (hm.below hb).more hb.size)
  have HR1 := Lib.hid (fun W (hb : Below w.heap.size w W) => (hr1.below hb).more hb.size)
  have HR2 := Lib.hid (fun W (hb : Below w.heap.size w W) => (hr2.below hb).more hb.size)
  have ca := l09Ask_any J M m d xs A1 n1 c1 ls A2 n2 c2 ts ⟨w.heap.size, 0, none⟩ _ (HW.out _ hb) hmn hxs (HR1.out _ hb) hn1 (HR2.out _ hb) hn2 (Cells.new w _ _)
  clear hxs
  by_cases k0 : askR J xs ls ts = 0
  · obtain ⟨k1, k2, k3⟩ : mineOk J xs = true ∧ lstOk J (-3000) 3000 ls = true ∧ lstOk xs.length (-300) 600 ts = true := by
      rcases askR_cases J xs ls ts with ⟨h0, k1, k2, k3⟩ | h7 | h1
      · exact ⟨k1, k2, k3⟩
      · omega
      · omega
    have HV : Hid (strR J xs ls ts = if (bsT (drTo xs ls ts xs.length) (meshL J xs) (meshL J xs).length).1 < 0 then (0, 0, 3) else ((bsT (drTo xs ls ts xs.length) (meshL J xs) (meshL J xs).length).1, (bsT (drTo xs ls ts xs.length) (meshL J xs) (meshL J xs).length).2, 0)) := if_pos k0
    have hm24 : m ≤ 24 := by have := (mineOk_t k1).2.1; rw [HLm.out] at this; exact this
    have HMO := Lib.hid (meshL_ok k1)
    have HML := Lib.hid (meshL_len k1)
    have HDB := Lib.hid (drTo_bnd k2 k3)
    rw [HLm.out] at HDB HV
    have HK := Lib.hid (And.intro k1 (And.intro k2 k3))
    rw [k0] at ca
    have HCA := Lib.hid ca
    clear ca k0 k1 k2 k3
    go_enter Try.func22, Try.ntmps22
    go_wp2_with fail; ((with_reducible refine HCA.out.mono ?_); rintro e w1 ⟨rfl, hb1⟩)
    have B1 := hb.trans (hb1.mono hb.size)
    have p0 := (hb1.cell (p := ⟨w.heap.size, 0, none⟩) z0).trans g0
    have p1 := (hb1.cell (p := ⟨w.heap.size, 1, none⟩) z0).trans g1
    have z1 := Nat.lt_of_lt_of_le z0 hb1.size
    have cM := l04Meshes_any J M m d xs ⟨w.heap.size, 0, none⟩ w1 (HW.out _ B1) HK.out.1 p0 p1
    go_wp2_with fail; ((with_reducible refine cM.mono ?_); rintro e w2 ⟨A4, n4, c4, rws, rfl, hos, hda, hb2⟩)
    have B2 := B1.trans (hb2.mono B1.size)
    have q1 := (hb2.cell (p := ⟨w.heap.size, 1, none⟩) z1).trans p1
    have hn4 : n4 ≤ 24 := by have h1 := hos.reads.len; rw [← dat_len, hda] at h1; have := HML.out; omega
    have HMS : Hid (Mms w2 w1.heap.size A4 n4 c4 (meshL J xs) rws) := ⟨hos, hda⟩
    have HN4 := Lib.hid HMS.out.len
    have cD := l09Draughts_any J M m d xs A1 n1 c1 ls A2 n2 c2 ts ⟨w.heap.size, 0, none⟩ w2 (HW.out _ B2) (HR1.out _ B2) (HR2.out _ B2) q1 HK.out.1 HK.out.2.1 HK.out.2.2
    clear cM hos hda
    go_wp2_with fail; ((with_reducible refine cD.mono ?_); rintro e w3 ⟨A5, c5, rfl, ho5, hm5, hb3⟩)
    have B3 := B2.trans (hb3.mono B2.size)
    have HRD := Lib.hid (Reads.of_own ho5)
    have HB3 := Lib.hid hb3
    clear ho5 cD hb3
    go_wp2
    go_loop [12, 13, 14] (fun b t i => ∃ k : Nat, k ≤ n4 ∧ b = .int .i64 (bsT (drTo xs ls ts m) (meshL J xs) k).1 ∧ t = .int .i64 (bsT (drTo xs ls ts m) (meshL J xs) k).2 ∧ i = .int .i64 k) (fun _ _ i => n4 - (intOf i).toNat)
    case atStart => exact ⟨0, by omega, rfl, rfl, rfl⟩
    case round =>
      obtain ⟨k, hk, rfl, rfl, rfl⟩ := hrel
      have hbb := bsT_bnd (drTo xs ls ts m) (meshL J xs) k
      by_cases hlt : k < n4
      · obtain ⟨ad, r, rfl, hms, hrl, hc, hrr, hra⟩ := HMS.out.row_at HB3.out hlt
        have hmo := HMO.out r.xs (List.mem_of_getElem? hms)
        have hai := al_in (n := m) hmo.1 HDB.out
        have cA := l09Along_any A5 m c5 (drTo xs ls ts m) r.A r.n r.c r.xs 100000000000000 w3 HRD.out hrr (by omega) (by omega) (by omega) HDB.out (by have h := hmo.2.2; rw [HLm.out] at h; exact h) (by omega)
        have cB := l03Abs_any (alTo (drTo xs ls ts m) r.xs r.n) w3 (by rw [hrl]; omega) (by rw [hrl]; omega)
        have HY := Lib.hid (fun h => bsT_y (ds := drTo xs ls ts m) hms h)
        have HN := Lib.hid (fun h => bsT_n (ds := drTo xs ls ts m) hms h)
        rw [← hrl] at HY HN
        have HCA2 := Lib.hid cA
        have HCB := Lib.hid cB
        generalize hBE : bsT (drTo xs ls ts m) (meshL J xs) k = bt at *
        obtain ⟨b0, t0⟩ := bt
        generalize hAL : alTo (drTo xs ls ts m) r.xs r.n = al at *
        have hkI : (k : Int) < (n4 : Int) := by omega
        simp only at hbb HY HN
        clear hms hmo hrr hra hrl cA cB hBE hAL
        by_cases h1 : b0 < 0
        · have HH := Lib.hid (HY.out (.inl h1))
          clear HY HN
          go_wp2_with fail; ((with_reducible refine HCA2.out.mono ?_); rintro e w' ⟨rfl, rfl⟩)
          go_wp2_with fail; ((with_reducible refine HCB.out.mono ?_); rintro e w' ⟨rfl, rfl⟩)
          go_wp2
          go_round
          case rel => exact ⟨k + 1, by omega, by rw [HH.out], by rw [HH.out], by go_num⟩
          case measure => simp [intOf]; omega
        · have hd1 : decide (b0 < 0) = false := decide_eq_false h1
          by_cases h2 : t0 < absI al
          · have HH := Lib.hid (HY.out (.inr h2))
            clear HY HN
            go_wp2_with fail; ((with_reducible refine HCA2.out.mono ?_); rintro e w' ⟨rfl, rfl⟩)
            go_wp2_with fail; ((with_reducible refine HCB.out.mono ?_); rintro e w' ⟨rfl, rfl⟩)
            go_wp2
            go_round
            case rel => exact ⟨k + 1, by omega, by rw [HH.out], by rw [HH.out], by go_num⟩
            case measure => simp [intOf]; omega
          · have HH := Lib.hid (HN.out (by rintro (h | h); exact h1 h; exact h2 h))
            have hd2 : decide (t0 < absI al) = false := decide_eq_false h2
            clear HY HN
            go_wp2_with fail; ((with_reducible refine HCA2.out.mono ?_); rintro e w' ⟨rfl, rfl⟩)
            go_wp2_with fail; ((with_reducible refine HCB.out.mono ?_); rintro e w' ⟨rfl, rfl⟩)
            go_wp2
            go_round
            case rel => exact ⟨k + 1, by omega, by rw [HH.out], by rw [HH.out], by go_num⟩
            case measure => simp [intOf]; omega
      · have e : (meshL J xs).length = k := by have := HN4.out; omega
        rw [e] at HV
        generalize bsT (drTo xs ls ts m) (meshL J xs) k = bt at *
        obtain ⟨b0, t0⟩ := bt
        simp only at hbb HV
        clear e
        by_cases h1 : b0 < 0
        · have HVV := Lib.hid (HV.out.trans (if_pos h1))
          go_wp2
          go_ret3
          exact ⟨by rw [HVV.out]; rfl, B3⟩
        · have HVV := Lib.hid (HV.out.trans (if_neg h1))
          have hd1 : decide (b0 < 0) = false := decide_eq_false h1
          go_wp2
          go_ret3
          exact ⟨by rw [HVV.out]; rfl, B3⟩
  · have HV : Hid (strR J xs ls ts = (0, 0, askR J xs ls ts)) := if_neg k0
    have hne : (askR J xs ls ts != 0) = true := bne_iff_ne.2 k0
    generalize askR J xs ls ts = cd at *
    have HCA := Lib.hid ca
    clear ca k0
    go_enter Try.func22, Try.ntmps22
    go_wp2_with fail; ((with_reducible refine HCA.out.mono ?_); rintro e w1 ⟨rfl, hb1⟩)
    go_wp2
    go_ret3
    exact ⟨by rw [HV.out]; rfl, hb.trans (hb1.mono hb.size)⟩
set_option maxHeartbeats 3200000 in
set_option maxRecDepth 100000 in
theorem implStrongestMesh_any (J : Int) (M : Option Addr) (m d : Nat) (xs : List Awy) (A1 : Option Addr) (n1 c1 : Nat) (ls : List Int) (A2 : Option Addr) (n2 c2 : Nat) (ts : List Int) (w : World) (hm : Reads w w.heap.size 7 M m (Awy.recs xs)) (hmn : m ≤ 1048576) (hxs : ∀ x ∈ xs, x.s.size ≤ maxLen) (hr1 : Reads w w.heap.size 1 A1 n1 (ints ls)) (hn1 : n1 ≤ 1048576) (hr2 : Reads w w.heap.size 1 A2 n2 (ints ts)) (hn2 : n2 ≤ 1048576) :
    Calls Try.prog 23 #[.agg #[.int .i64 J, .slice M m d], .slice A1 n1 c1, .slice A2 n2 c2] w fun e w' => e = .returned (.tuple #[.int .i64 (strR J xs ls ts).1, .int .i64 (strR J xs ls ts).2.1, .int .i64 (strR J xs ls ts).2.2]) ∧ Below w.heap.size w w' := by
  have HLm := Lib.hid (recs_rlen Awy.clen (by omega) hm)
  have hb : Below w.heap.size w (w.alloc (.cells #[.int .i64 J, .slice M m d] 31)) := (Below.refl _ _).alloc (Nat.le_refl _) _
  have g0 : (w.alloc (.cells #[.int .i64 J, .slice M m d] 31)).cell? ⟨w.heap.size, 0, none⟩ = some (.int .i64 J) := ((Blk.new w _ _).cell 0).trans rfl
  have g1 : (w.alloc (.cells #[.int .i64 J, .slice M m d] 31)).cell? ⟨w.heap.size, 1, none⟩ = some (.slice M m d) := ((Blk.new w _ _).cell 1).trans rfl
  have z0 : w.heap.size < (w.alloc (.cells #[.int .i64 J, .slice M m d] 31)).heap.size := by simp
  have HW := Lib.hid (fun W (hb : Below w.heap.size w W) => (hm.below hb).more hb.size)
  have HR1 := Lib.hid (fun W (hb : Below w.heap.size w W) => (hr1.below hb).more hb.size)
  have HR2 := Lib.hid (fun W (hb : Below w.heap.size w W) => (hr2.below hb).more hb.size)
  have ca := columnsCode_any J M m d xs A1 n1 c1 ls A2 n2 c2 ts 0 _ (HW.out _ hb) hmn hxs (HR1.out _ hb) hn1 (HR2.out _ hb) hn2
  clear hxs
  by_cases k0 : askR J xs ls ts = 0
  · obtain ⟨k1, k2, k3⟩ : mineOk J xs = true ∧ lstOk J (-3000) 3000 ls = true ∧ lstOk xs.length (-300) 600 ts = true := by
      rcases askR_cases J xs ls ts with ⟨h0, k1, k2, k3⟩ | h7 | h1
      · exact ⟨k1, k2, k3⟩
      · omega
      · omega
    have HV : Hid (strR J xs ls ts = if (bsT (drTo xs ls ts xs.length) (meshL J xs) (meshL J xs).length).1 < 0 then (0, 0, 3) else ((bsT (drTo xs ls ts xs.length) (meshL J xs) (meshL J xs).length).1, (bsT (drTo xs ls ts xs.length) (meshL J xs) (meshL J xs).length).2, 0)) := if_pos k0
    have hm24 : m ≤ 24 := by have := (mineOk_t k1).2.1; rw [HLm.out] at this; exact this
    have HMO := Lib.hid (meshL_ok k1)
    have HML := Lib.hid (meshL_len k1)
    have HDB := Lib.hid (drTo_bnd k2 k3)
    rw [HLm.out] at HDB HV
    have HK := Lib.hid (And.intro k1 (And.intro k2 k3))
    rw [k0] at ca
    have HCA := Lib.hid ca
    clear ca k0 k1 k2 k3
    go_enter Try.func23, Try.ntmps23
    go_wp2_with fail; ((with_reducible refine HCA.out.mono ?_); rintro e w1 ⟨rfl, hb1⟩)
    have B1 := hb.trans (hb1.mono hb.size)
    have p0 := (hb1.cell (p := ⟨w.heap.size, 0, none⟩) z0).trans g0
    have p1 := (hb1.cell (p := ⟨w.heap.size, 1, none⟩) z0).trans g1
    have z1 := Nat.lt_of_lt_of_le z0 hb1.size
    have cM := meshes_any J M m d xs w1 (HW.out _ B1) HK.out.1
    go_wp2_with fail; ((with_reducible refine cM.mono ?_); rintro e w2 ⟨A4, n4, c4, rws, rfl, hos, hda, hb2⟩)
    have B2 := B1.trans (hb2.mono B1.size)
    have q0 := (hb2.cell (p := ⟨w.heap.size, 0, none⟩) z1).trans p0
    have q1 := (hb2.cell (p := ⟨w.heap.size, 1, none⟩) z1).trans p1
    have z2 := Nat.lt_of_lt_of_le z1 hb2.size
    have hn4 : n4 ≤ 24 := by have h1 := hos.reads.len; rw [← dat_len, hda] at h1; have := HML.out; omega
    have HMS : Hid (Mms w2 w1.heap.size A4 n4 c4 (meshL J xs) rws) := ⟨hos, hda⟩
    have HN4 := Lib.hid HMS.out.len
    clear cM hos hda
    go_wp2
    go_loopw [10, 11, 25] (fun b t i wr => ∃ k : Nat, k ≤ n4 ∧ b = .int .i64 (bsT (drTo xs ls ts m) (meshL J xs) k).1 ∧ t = .int .i64 (bsT (drTo xs ls ts m) (meshL J xs) k).2 ∧ i = .int .i64 k ∧ Below w2.heap.size w2 wr) (fun _ _ i _ => n4 - (intOf i).toNat)
    case atStart => exact ⟨0, by omega, rfl, rfl, rfl, Below.refl _ _⟩
    case round =>
      obtain ⟨k, hk, rfl, rfl, rfl, hbr⟩ := hrel
      obtain ⟨wo, rfl⟩ : ∃ wo : World, wo = wr := ⟨_, rfl⟩
      have Bo := B2.trans (hbr.mono B2.size)
      have r0 := (hbr.cell (p := ⟨w.heap.size, 0, none⟩) z2).trans q0
      have r1 := (hbr.cell (p := ⟨w.heap.size, 1, none⟩) z2).trans q1
      have hbb := bsT_bnd (drTo xs ls ts m) (meshL J xs) k
      by_cases hlt : k < n4
      · obtain ⟨ad, r, rfl, hms, hrl, hc, hrr, hra⟩ := HMS.out.row_at hbr hlt
        have hmo := HMO.out r.xs (List.mem_of_getElem? hms)
        have hai := al_in (n := m) hmo.1 HDB.out
        have cD := draughts_any J M m d xs A1 n1 c1 ls A2 n2 c2 ts wo (HW.out _ Bo) (HR1.out _ Bo) (HR2.out _ Bo) HK.out.1 HK.out.2.1 HK.out.2.2
        have HCA2 : Hid (∀ (W : World) (A5 : Option Addr) (c5 : Nat), Below wo.heap.size wo W → Reads W W.heap.size 1 A5 m (ints (drTo xs ls ts m)) → Calls Try.prog 44 #[.slice A5 m c5, .slice r.A r.n r.c] W fun e w' => e = .returned (.int .i64 (alTo (drTo xs ls ts m) r.xs r.n)) ∧ W = w') := fun W A5 c5 hW hD =>
          sumAlong_any A5 m c5 (drTo xs ls ts m) r.A r.n r.c r.xs 100000000000000 W hD ((hrr.below hW).more hW.size) (by omega) (by omega) (by omega) HDB.out (by have h := hmo.2.2; rw [HLm.out] at h; exact h) (by omega)
        have HCB : Hid (∀ W : World, Calls Try.prog 59 #[.int .i64 (alTo (drTo xs ls ts m) r.xs r.n)] W fun e w' => e = .returned (.int .i64 (absI (alTo (drTo xs ls ts m) r.xs r.n))) ∧ W = w') := fun W => abs_any _ W (by rw [hrl]; omega) (by rw [hrl]; omega)
        have HY := Lib.hid (fun h => bsT_y (ds := drTo xs ls ts m) hms h)
        have HN := Lib.hid (fun h => bsT_n (ds := drTo xs ls ts m) hms h)
        rw [← hrl] at HY HN
        have HCD := Lib.hid cD
        generalize hBE : bsT (drTo xs ls ts m) (meshL J xs) k = bt at *
        obtain ⟨b0, t0⟩ := bt
        generalize hAL : alTo (drTo xs ls ts m) r.xs r.n = al at *
        have hkI : (k : Int) < (n4 : Int) := by omega
        simp only at hbb HY HN
        clear hms hmo hrr hra hrl cD hBE hAL
        by_cases h1 : b0 < 0
        · have HH := Lib.hid (HY.out (.inl h1))
          clear HY HN
          go_wp2_with fail; ((with_reducible refine HCD.out.mono ?_); rintro e w3 ⟨A5, c5, rfl, ho5, hm5, hb3⟩)
          have HRD := Lib.hid (Reads.of_own ho5)
          have hbn := hbr.trans (hb3.mono hbr.size)
          clear ho5
          go_wp2_with fail; ((with_reducible refine (HCA2.out _ _ _ hb3 HRD.out).mono ?_); rintro e w' ⟨rfl, rfl⟩)
          go_wp2_with fail; ((with_reducible refine (HCB.out _).mono ?_); rintro e w' ⟨rfl, rfl⟩)
          go_wp2
          go_roundw
          case rel => exact ⟨k + 1, by omega, by rw [HH.out], by rw [HH.out], by go_num, hbn⟩
          case measure => simp [intOf]; omega
        · have hd1 : decide (b0 < 0) = false := decide_eq_false h1
          by_cases h2 : t0 < absI al
          · have HH := Lib.hid (HY.out (.inr h2))
            clear HY HN
            go_wp2_with fail; ((with_reducible refine HCD.out.mono ?_); rintro e w3 ⟨A5, c5, rfl, ho5, hm5, hb3⟩)
            have HRD := Lib.hid (Reads.of_own ho5)
            have hbn := hbr.trans (hb3.mono hbr.size)
            clear ho5
            go_wp2_with fail; ((with_reducible refine (HCA2.out _ _ _ hb3 HRD.out).mono ?_); rintro e w' ⟨rfl, rfl⟩)
            go_wp2_with fail; ((with_reducible refine (HCB.out _).mono ?_); rintro e w' ⟨rfl, rfl⟩)
            go_wp2
            go_roundw
            case rel => exact ⟨k + 1, by omega, by rw [HH.out], by rw [HH.out], by go_num, hbn⟩
            case measure => simp [intOf]; omega
          · have HH := Lib.hid (HN.out (by rintro (h | h); exact h1 h; exact h2 h))
            have hd2 : decide (t0 < absI al) = false := decide_eq_false h2
            clear HY HN
            go_wp2_with fail; ((with_reducible refine HCD.out.mono ?_); rintro e w3 ⟨A5, c5, rfl, ho5, hm5, hb3⟩)
            have HRD := Lib.hid (Reads.of_own ho5)
            have hbn := hbr.trans (hb3.mono hbr.size)
            clear ho5
            go_wp2_with fail; ((with_reducible refine (HCA2.out _ _ _ hb3 HRD.out).mono ?_); rintro e w' ⟨rfl, rfl⟩)
            go_wp2_with fail; ((with_reducible refine (HCB.out _).mono ?_); rintro e w' ⟨rfl, rfl⟩)
            go_wp2
            go_roundw
            case rel => exact ⟨k + 1, by omega, by rw [HH.out], by rw [HH.out], by go_num, hbn⟩
            case measure => simp [intOf]; omega
      · have e : (meshL J xs).length = k := by have := HN4.out; omega
        rw [e] at HV
        generalize bsT (drTo xs ls ts m) (meshL J xs) k = bt at *
        obtain ⟨b0, t0⟩ := bt
        simp only at hbb HV
        clear e
        by_cases h1 : b0 < 0
        · have HVV := Lib.hid (HV.out.trans (if_pos h1))
          go_wp2
          go_ret3
          exact ⟨by rw [HVV.out]; rfl, Bo⟩
        · have HVV := Lib.hid (HV.out.trans (if_neg h1))
          have hd1 : decide (b0 < 0) = false := decide_eq_false h1
          go_wp2
          go_ret3
          exact ⟨by rw [HVV.out]; rfl, Bo⟩
  · have HV : Hid (strR J xs ls ts = (0, 0, askR J xs ls ts)) := if_neg k0
    have hne : (askR J xs ls ts != 0) = true := bne_iff_ne.2 k0
    generalize askR J xs ls ts = cd at *
    have HCA := Lib.hid ca
    clear ca k0
    go_enter Try.func23, Try.ntmps23
    go_wp2_with fail; ((with_reducible refine HCA.out.mono ?_); rintro e w1 ⟨rfl, hb1⟩)
    go_wp2
    go_ret3
    exact ⟨by rw [HV.out]; rfl, hb.trans (hb1.mono hb.size)⟩
end Go.Proofs.Ytjmhhbjbmgpagaa
