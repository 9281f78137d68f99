/- Several texts in one: Mer Cor Sol SolS SolI. -/
import Derived.Test.YtjmhhbjbmgpagaaGreatMgG
import Derived.Test.YtjmhhbjbmgpagaaGreatMgE
import Derived.Test.YtjmhhbjbmgpagaaGreatMgA
import Derived.Test.YtjmhhbjbmgpagaaGreatMgD
import Derived.Deep.Cut
import Derived.Deep.RegionWith
import Derived.Deep.RegionHeld3
import Derived.BigRegion
/- Contracts of the errors of all meshes, both sides. -/
namespace Go.Proofs.YtjmhhbjbmgpagaaGreat
set_option linter.unusedVariables false
set_option linter.unusedSimpArgs false
open Go.RowKit
def errsL (rs ps fs : List Int) (ms : List (List Int)) : List Int := ms.map fun s => erT rs ps fs s s.length
theorem errs_snoc {rs ps fs s : List Int} {ms : List (List Int)} {k : Nat} (h : ms[k]? = some s) : errsL rs ps fs (ms.take (k + 1)) = errsL rs ps fs (ms.take k) ++ [erT rs ps fs s s.length] := by
  unfold errsL; rw [List.take_add_one, h, List.map_append]; rfl
/-- A resistance, a pressure and a flow for each airway. -/
def sysOk (m : Nat) (rs ps fs : List Int) : Bool := lstOk m 1 1000000 rs && lstOk m (-100000) 100000 ps && lstOk m (-100000) 100000 fs
theorem sysOk_t {m : Nat} {rs ps fs : List Int} (h : sysOk m rs ps fs = true) : lstOk m 1 1000000 rs = true ∧ lstOk m (-100000) 100000 ps = true ∧ lstOk m (-100000) 100000 fs = true := by
  unfold sysOk at h
  rw [Bool.and_eq_true, Bool.and_eq_true] at h
  exact ⟨h.1.1, h.1.2, h.2⟩
theorem sys_of {m : Nat} {rs ps fs ws : List Int} (h1 : lstOk m 1 1000000 rs = true) (h2 : ∀ p ∈ ps, -1000000 ≤ p ∧ p ≤ 1000000) (h3 : lstOk m (-100000) 100000 fs = true) (h4 : ∀ x ∈ ws, wkB m x = true) : SysB rs ps fs ws m :=
  ⟨fun r hr => decide_eq_true ((lstOk_t h1).2 r hr), h2, fun f hf => decide_eq_true ((lstOk_t h3).2 f hf), h4⟩
theorem lst_wide {m : Nat} {ps : List Int} (h : lstOk m (-100000) 100000 ps = true) : ∀ p ∈ ps, -1000000 ≤ p ∧ p ≤ 1000000 := fun p hp => by have := (lstOk_t h).2 p hp; omega
/-- The code of a mine and a system. -/
def sysC (J : Int) (xs : List Awy) (rs ps fs : List Int) : Int := if mineOk J xs = true then (if sysOk xs.length rs ps fs = true then 0 else 7) else 1
theorem sysC_1 {J : Int} {xs : List Awy} {rs ps fs : List Int} (h : mineOk J xs = false) : sysC J xs rs ps fs = 1 := by unfold sysC; rw [if_neg (by rw [h]; exact Bool.false_ne_true)]
theorem sysC_7 {J : Int} {xs : List Awy} {rs ps fs : List Int} (h : mineOk J xs = true) (h1 : sysOk xs.length rs ps fs = false) : sysC J xs rs ps fs = 7 := by unfold sysC; rw [if_pos h, if_neg (by rw [h1]; exact Bool.false_ne_true)]
theorem sysC_0 {J : Int} {xs : List Awy} {rs ps fs : List Int} (h : mineOk J xs = true) (h1 : sysOk xs.length rs ps fs = true) : sysC J xs rs ps fs = 0 := by unfold sysC; rw [if_pos h, if_pos h1]
def merR (J : Int) (xs : List Awy) (rs ps fs : List Int) : List Int × Int := (if sysC J xs rs ps fs = 0 then errsL rs ps fs (meshL J xs) else [], sysC J xs rs ps fs)
theorem lenR {w : World} {B n : Nat} {A : Option Addr} {xs : List Int} (h : Reads w B 1 A n (ints xs)) {m : Nat} {l u : Int} (hl : lstOk m l u xs = true) : n = m := by
  have h1 := ints_len h
  have h2 := (lstOk_t hl).1
  omega
set_option maxHeartbeats 1600000 in
set_option maxRecDepth 100000 in
theorem l07Errors_any (M : Option Addr) (n mc : Nat) (rws : List Row) (A : Option Addr) (m a : Nat) (rs : List Int) (B : Option Addr) (b : Nat) (ps : List Int) (C : Option Addr) (c : Nat) (fs : List Int) (w : World)
    (hM : RSS w w.heap.size M n rws) (hA : Reads w w.heap.size 1 A m (ints rs)) (hB : Reads w w.heap.size 1 B m (ints ps)) (hC : Reads w w.heap.size 1 C m (ints fs)) (hs : ∀ s ∈ dat rws, SysB rs ps fs s m ∧ s.length ≤ 20) (hn : n ≤ 1000) (hm1 : m ≤ 1000000) :
    Calls Tryz.prog 61 #[.slice M n mc, .slice A m a, .slice B m b, .slice C m c] w fun e w' => ∃ A' c', e = .returned (.slice A' n c') ∧ w'.ownsRow w.heap.size 2 1 (.slice A' n c') n (ints (errsL rs ps fs (dat rws))) ∧ Below w.heap.size w w' := by
  obtain ⟨i0, hi0, hz0, hz1, hz2⟩ := info_parts info_Int64S
  have HL := Lib.hid hM.len
  have HS := Lib.hid hs
  have HR := Lib.hid (And.intro hM (And.intro hA (And.intro hB hC)))
  clear hs hM hA hB hC
  go_enter Tryz.func61, Tryz.ntmps61
  go_wp2
  go_loopw [9, 10] (fun o i wr => ∃ (k : Nat) (A' : Option Addr) (c' : Nat), k ≤ n ∧ o = .slice A' k c' ∧ i = .int .i64 k ∧ wr.ownsRow w.heap.size 2 1 (.slice A' k c') k (ints (errsL rs ps fs ((dat rws).take k))) ∧ Below w.heap.size w wr) (fun _ i _ => n - (intOf i).toNat)
  case atStart => exact ⟨0, _, 0, by omega, rfl, rfl, own_empty _ _ _, by (repeat (first | exact Below.refl _ _ | assumption | (refine Below.alloc ?_ (by first | exact Nat.le_refl _ | (simp; done) | (simp; omega)) _) | (refine below_drewN ?_ _) | (refine Below.trans ?_ (Below.mono (by assumption) (by first | exact Nat.le_refl _ | (simp; done) | (simp; omega) | omega)))))⟩
  case round =>
    obtain ⟨k, A', c', hk, rfl, rfl, hown, hbr⟩ := hrel
    obtain ⟨wo, rfl⟩ : ∃ wo : World, wo = wr := ⟨_, rfl⟩
    have hz := hbr.size
    by_cases hlt : k < n
    · obtain ⟨hM2, hA2, hB2, hC2⟩ := HR.out
      obtain ⟨ad, r, rfl, hx, hc, hrr0⟩ := (hM2.below hbr).at_ hlt
      have hrr := hrr0.more hz
      have hA2 := (hA2.below hbr).more hz
      have hB2 := (hB2.below hbr).more hz
      have hC2 := (hC2.below hbr).more hz
      have hdx := dat_at hx
      obtain ⟨hsy, hsl⟩ := HS.out r.xs (List.mem_of_getElem? hdx)
      have hrl := ints_len hrr
      have cc := l07Error_any A m a rs B b ps C c fs r.A r.n r.c r.xs wo hA2 hB2 hC2 hrr hsy hm1 (by omega)
      rw [← hrl] at cc
      have HCC := Lib.hid cc
      have HN := Lib.hid (errs_snoc (rs := rs) (ps := ps) (fs := fs) hdx)
      have HRL := Lib.hid hrl
      have hkI : (k : Int) < (n : Int) := by omega
      have HO := Lib.hid hown
      generalize hEE : erT rs ps fs r.xs r.xs.length = ee at *
      clear hM2 hx hrr0 hrr hA2 hB2 hC2 hdx hsy hsl cc hown hEE
      go_wp2_with fail; ((with_reducible refine (HRL.out ▸ HCC.out).mono ?_); rintro e w' ⟨rfl, md, rfl⟩)
      go_wp2_with (at_builtin; (refine wpList_app _ rfl _ _ 25 rfl w.heap.size 2 i0 _ 1 8 Tryz.underlying25 hi0 hz0 hz1 hz2 rfl (by omega) A' _ c' _ rfl (((own_drew HO.out _)).alloc _) ⟨_, 0, none⟩ 1 1 [.int .i64 ee] rfl rfl (cell_one_at (by simp) _ _) (by simp [Value.oneCell']) (by unfold maxLen; omega) (by omega) (by have hz := (hbr).size; simp at hz ⊢; omega) ?_); intro A1 c1 w2 ho2 hb2)
      go_roundw
      case rel => exact ⟨k + 1, A1, c1, by omega, by first | rfl | go_num, by go_num, by rw [HN.out]; simpa [ints] using ho2, ((below_drewN hbr _).alloc (by have := hbr.size; simp; omega) _).trans hb2⟩
      case measure => simp [intOf]; omega
    · have e : k = n := by omega
      have HF : Hid ((dat rws).take k = dat rws) := List.take_of_length_le (by rw [dat_len, HL.out]; omega)
      rw [HF.out] at hown
      have HO := Lib.hid hown
      subst e
      clear hown
      go_wp2
      go_ret
      exact ⟨A', c', rfl, HO.out, hbr⟩
set_option maxHeartbeats 1600000 in
set_option maxRecDepth 100000 in
theorem meshErrors_any (M : Option Addr) (n mc : Nat) (rws : List Row) (A : Option Addr) (m a : Nat) (rs : List Int) (B : Option Addr) (b : Nat) (ps : List Int) (C : Option Addr) (c : Nat) (fs : List Int) (w : World)
    (hM : RSS w w.heap.size M n rws) (hA : Reads w w.heap.size 1 A m (ints rs)) (hB : Reads w w.heap.size 1 B m (ints ps)) (hC : Reads w w.heap.size 1 C m (ints fs)) (hs : ∀ s ∈ dat rws, SysB rs ps fs s m ∧ s.length ≤ 20) (hn : n ≤ 1000) (hm1 : m ≤ 1000000) :
    Calls Tryz.prog 39 #[.slice M n mc, .slice A m a, .slice B m b, .slice C m c] w fun e w' => ∃ A' c', e = .returned (.slice A' n c') ∧ w'.ownsRow w.heap.size 2 1 (.slice A' n c') n (ints (errsL rs ps fs (dat rws))) ∧ Below w.heap.size w w' := by
  obtain ⟨i0, hi0, hz0, hz1, hz2⟩ := info_parts info_Int64S
  have HL := Lib.hid hM.len
  have HS := Lib.hid hs
  have HR := Lib.hid (And.intro hM (And.intro hA (And.intro hB hC)))
  clear hs hM hA hB hC
  go_enter Tryz.func39, Tryz.ntmps39
  go_wp2
  go_loopw [9, 14] (fun o i wr => ∃ (k : Nat) (A' : Option Addr) (c' : Nat), k ≤ n ∧ o = .slice A' k c' ∧ i = .int .i64 k ∧ wr.ownsRow w.heap.size 2 1 (.slice A' k c') k (ints (errsL rs ps fs ((dat rws).take k))) ∧ Below w.heap.size w wr) (fun _ i _ => n - (intOf i).toNat)
  case atStart => exact ⟨0, none, 0, by omega, rfl, rfl, own_nil _ _ _ _, Below.refl _ _⟩
  case round =>
    obtain ⟨k, A', c', hk, rfl, rfl, hown, hbr⟩ := hrel
    obtain ⟨wo, rfl⟩ : ∃ wo : World, wo = wr := ⟨_, rfl⟩
    have hz := hbr.size
    by_cases hlt : k < n
    · obtain ⟨hM2, hA2, hB2, hC2⟩ := HR.out
      obtain ⟨ad, r, rfl, hx, hc, hrr0⟩ := (hM2.below hbr).at_ hlt
      have hrr := hrr0.more hz
      have hA2 := (hA2.below hbr).more hz
      have hB2 := (hB2.below hbr).more hz
      have hC2 := (hC2.below hbr).more hz
      have hdx := dat_at hx
      obtain ⟨hsy, hsl⟩ := HS.out r.xs (List.mem_of_getElem? hdx)
      have hrl := ints_len hrr
      have cc := walkError_any r.A r.n r.c r.xs A m a rs B b ps C c fs wo hA2 hB2 hC2 hrr hsy hm1 (by omega)
      rw [← hrl] at cc
      have HCC := Lib.hid cc
      have HN := Lib.hid (errs_snoc (rs := rs) (ps := ps) (fs := fs) hdx)
      have HRL := Lib.hid hrl
      have hkI : (k : Int) < (n : Int) := by omega
      have HO := Lib.hid hown
      generalize hEE : erT rs ps fs r.xs r.xs.length = ee at *
      clear hM2 hx hrr0 hrr hA2 hB2 hC2 hdx hsy hsl cc hown hEE
      go_wp2_with fail; ((with_reducible refine (HRL.out ▸ HCC.out).mono ?_); rintro e w' ⟨rfl, md, rfl⟩)
      go_wp2_with (at_builtin; (refine wpList_app _ rfl _ _ 25 rfl w.heap.size 2 i0 _ 1 8 Tryz.underlying25 hi0 hz0 hz1 hz2 rfl (by omega) A' _ c' _ rfl (((own_drew HO.out _)).alloc _) ⟨_, 0, none⟩ 1 1 [.int .i64 ee] rfl rfl (cell_one_at (by simp) _ _) (by simp [Value.oneCell']) (by unfold maxLen; omega) (by omega) (by have hz := (hbr).size; simp at hz ⊢; omega) ?_); intro A1 c1 w2 ho2 hb2)
      go_roundw
      case rel => exact ⟨k + 1, A1, c1, by omega, by first | rfl | go_num, by go_num, by rw [HN.out]; simpa [ints] using ho2, ((below_drewN hbr _).alloc (by have := hbr.size; simp; omega) _).trans hb2⟩
      case measure => simp [intOf]; omega
    · have e : k = n := by omega
      have HF : Hid ((dat rws).take k = dat rws) := List.take_of_length_le (by rw [dat_len, HL.out]; omega)
      rw [HF.out] at hown
      have HO := Lib.hid hown
      subst e
      clear hown
      go_wp2
      go_ret
      exact ⟨A', c', rfl, HO.out, hbr⟩
set_option maxHeartbeats 1600000 in
theorem hasSystem_any (J : Int) (M : Option Addr) (m d : Nat) (A : Option Addr) (n1 a : Nat) (rs : List Int) (B : Option Addr) (n2 b : Nat) (ps : List Int) (C : Option Addr) (n3 c : Nat) (fs : List Int) (w : World)
    (hA : Reads w w.heap.size 1 A n1 (ints rs)) (hn1 : n1 ≤ 1048576) (hB : Reads w w.heap.size 1 B n2 (ints ps)) (hn2 : n2 ≤ 1048576) (hC : Reads w w.heap.size 1 C n3 (ints fs)) (hn3 : n3 ≤ 1048576) :
    Calls Tryz.prog 34 #[.agg #[.int .i64 J, .slice M m d], .slice A n1 a, .slice B n2 b, .slice C n3 c] w fun e w' => e = .returned (.bool (sysOk m rs ps fs)) ∧ Below w.heap.size w w' := by
  have hb : Below w.heap.size w (w.alloc (.cells #[.int .i64 J, .slice M m d] 33)) := (Below.refl _ _).alloc (Nat.le_refl _) _
  have g0 : (w.alloc (.cells #[.int .i64 J, .slice M m d] 33)).cell? ⟨w.heap.size, 0, none⟩ = some (.int .i64 J) := ((Blk.new w _ _).cell 0).trans rfl
  have g1 : (w.alloc (.cells #[.int .i64 J, .slice M m d] 33)).cell? ⟨w.heap.size, 1, none⟩ = some (.slice M m d) := ((Blk.new w _ _).cell 1).trans rfl
  have z0 : w.heap.size < (w.alloc (.cells #[.int .i64 J, .slice M m d] 33)).heap.size := by simp
  have HA := Lib.hid (And.intro hA (And.intro hB hC))
  have H1 : Hid (∀ W, Below w.heap.size w W → Calls Tryz.prog 70 #[.agg #[.int .i64 J, .slice M m d], .slice A n1 a, .int .i64 1, .int .i64 1000000] W fun e w' => e = .returned (.bool (lstOk m 1 1000000 rs)) ∧ Below W.heap.size W w') := fun W hW => hasList_any J M m d A n1 a 1 1000000 rs W ((HA.out.1.below hW).more hW.size) hn1
  have H2 : Hid (∀ W, Below w.heap.size w W → Calls Tryz.prog 70 #[.agg #[.int .i64 J, .slice M m d], .slice B n2 b, .int .i64 (-100000), .int .i64 100000] W fun e w' => e = .returned (.bool (lstOk m (-100000) 100000 ps)) ∧ Below W.heap.size W w') := fun W hW => hasList_any J M m d B n2 b (-100000) 100000 ps W ((HA.out.2.1.below hW).more hW.size) hn2
  have H3 : Hid (∀ W, Below w.heap.size w W → Calls Tryz.prog 44 #[.agg #[.int .i64 J, .slice M m d], .slice C n3 c] W fun e w' => e = .returned (.bool (lstOk m (-100000) 100000 fs)) ∧ Below W.heap.size W w') := fun W hW => hasFlows_any J M m d C n3 c fs W ((HA.out.2.2.below hW).more hW.size) hn3
  clear hA hB hC
  have HV : Hid (sysOk m rs ps fs = (lstOk m 1 1000000 rs && lstOk m (-100000) 100000 ps && lstOk m (-100000) 100000 fs)) := rfl
  rcases Bool.eq_false_or_eq_true (lstOk m 1 1000000 rs) with k2 | k2
  · rw [k2] at H1 HV
    clear k2
    rcases Bool.eq_false_or_eq_true (lstOk m (-100000) 100000 ps) with k3 | k3
    · rw [k3] at H2 HV
      clear k3
      go_enter Tryz.func34, Tryz.ntmps34
      go_wp2_with fail; ((with_reducible refine (H1.out _ hb).mono ?_); rintro e w1 ⟨rfl, hb1⟩)
      have B1 := hb.trans (hb1.mono hb.size)
      have p0 := (hb1.cell (p := ⟨w.heap.size, 0, none⟩) z0).trans g0
      have p1 := (hb1.cell (p := ⟨w.heap.size, 1, none⟩) z0).trans g1
      have z1 := Nat.lt_of_lt_of_le z0 hb1.size
      go_wp2_with fail; ((with_reducible refine (H2.out _ B1).mono ?_); rintro e w2 ⟨rfl, hb2⟩)
      have B2 := B1.trans (hb2.mono B1.size)
      have q0 := (hb2.cell (p := ⟨w.heap.size, 0, none⟩) z1).trans p0
      have q1 := (hb2.cell (p := ⟨w.heap.size, 1, none⟩) z1).trans p1
      go_wp2_with fail; ((with_reducible refine (H3.out _ B2).mono ?_); rintro e w3 ⟨rfl, hb3⟩)
      go_wp2
      go_ret
      exact ⟨ret_bool (by rw [HV.out]; simp), B2.trans (hb3.mono B2.size)⟩
    · rw [k3] at H2 HV
      clear k3
      go_enter Tryz.func34, Tryz.ntmps34
      go_wp2_with fail; ((with_reducible refine (H1.out _ hb).mono ?_); rintro e w1 ⟨rfl, hb1⟩)
      have B1 := hb.trans (hb1.mono hb.size)
      have p0 := (hb1.cell (p := ⟨w.heap.size, 0, none⟩) z0).trans g0
      have p1 := (hb1.cell (p := ⟨w.heap.size, 1, none⟩) z0).trans g1
      have z1 := Nat.lt_of_lt_of_le z0 hb1.size
      go_wp2_with fail; ((with_reducible refine (H2.out _ B1).mono ?_); rintro e w2 ⟨rfl, hb2⟩)
      go_wp2
      go_ret
      exact ⟨ret_bool (by rw [HV.out]; simp), B1.trans (hb2.mono B1.size)⟩
  · rw [k2] at H1 HV
    clear k2
    go_enter Tryz.func34, Tryz.ntmps34
    go_wp2_with fail; ((with_reducible refine (H1.out _ hb).mono ?_); rintro e w1 ⟨rfl, hb1⟩)
    go_wp2
    go_ret
    exact ⟨ret_bool (by rw [HV.out]; simp), hb.trans (hb1.mono hb.size)⟩
end Go.Proofs.YtjmhhbjbmgpagaaGreat

/- Contracts of the correction of a mesh, both sides. -/
namespace Go.Proofs.YtjmhhbjbmgpagaaGreat
set_option linter.unusedVariables false
set_option linter.unusedSimpArgs false
open Go.RowKit
def corF (rs ps fs s : List Int) : List Int := addL fs s (stR rs ps fs s s.length) s.length
def corR (J : Int) (xs : List Awy) (rs ps fs : List Int) (k : Int) : List Int × Int :=
  if mineOk J xs = true then (if inB k 0 (((meshL J xs).length : Int) - 1) = true then (if sysOk xs.length rs ps fs = true then (if lstOk xs.length (-100000) 100000 (corF rs ps fs ((meshL J xs).getD k.toNat [])) = true then (corF rs ps fs ((meshL J xs).getD k.toNat []), 0) else ([], 6)) else ([], 7)) else ([], 2)) else ([], 1)
section
variable {J k : Int} {xs : List Awy} {rs ps fs : List Int}
theorem ff_ne {b : Bool} (h : b = false) : ¬ b = true := by rw [h]; exact Bool.false_ne_true
theorem corR_1 (h : mineOk J xs = false) : corR J xs rs ps fs k = ([], 1) := by unfold corR; rw [if_neg (ff_ne h)]
theorem corR_2 (h : mineOk J xs = true) (h1 : inB k 0 (((meshL J xs).length : Int) - 1) = false) : corR J xs rs ps fs k = ([], 2) := by unfold corR; rw [if_pos h, if_neg (ff_ne h1)]
theorem corR_7 (h : mineOk J xs = true) (h1 : inB k 0 (((meshL J xs).length : Int) - 1) = true) (h2 : sysOk xs.length rs ps fs = false) : corR J xs rs ps fs k = ([], 7) := by unfold corR; rw [if_pos h, if_pos h1, if_neg (ff_ne h2)]
theorem corR_x (h : mineOk J xs = true) (h1 : inB k 0 (((meshL J xs).length : Int) - 1) = true) (h2 : sysOk xs.length rs ps fs = true) : corR J xs rs ps fs k = if lstOk xs.length (-100000) 100000 (corF rs ps fs ((meshL J xs).getD k.toNat [])) = true then (corF rs ps fs ((meshL J xs).getD k.toNat []), 0) else ([], 6) := by unfold corR; rw [if_pos h, if_pos h1, if_pos h2]
end
end Go.Proofs.YtjmhhbjbmgpagaaGreat

/- Contracts of the search for balanced flows, the reference's. -/
namespace Go.Proofs.YtjmhhbjbmgpagaaGreat
set_option linter.unusedVariables false
set_option linter.unusedSimpArgs false
open Go.RowKit
/-- The greatest of the first k errors, by size. -/
def worT (es : List Int) : Nat → Int
  | 0 => 0
  | k + 1 => max (worT es k) (absI (es.getD k 0))
theorem worT_s {es : List Int} {k : Nat} {e : Int} (h : es[k]? = some e) : worT es (k + 1) = max (worT es k) (absI e) := by
  simp only [worT]; rw [getW_at h]
theorem l07Worst_any (A : Option Addr) (n c : Nat) (es : List Int) (w : World) (hr : Reads w w.heap.size 1 A n (ints es)) (hn : n ≤ 1048576) (hb : ∀ e ∈ es, -40000000 ≤ e ∧ e ≤ 40000000) :
    Calls Tryz.prog 60 #[.slice A n c] w fun e w' => e = .returned (.int .i64 (worT es n)) ∧ w = w' := by
  have HB := Lib.hid hb
  clear hb
  go_enter Tryz.func60, Tryz.ntmps60
  go_wp2
  go_loop [3, 4] (fun s i => ∃ k : Nat, k ≤ n ∧ i = .int .i64 k ∧ s = .int .i64 (worT es k)) (fun _ i => n - (intOf i).toNat)
  case atStart => exact ⟨0, by omega, rfl, rfl⟩
  case round =>
    obtain ⟨k, hk, rfl, rfl⟩ := hrel
    by_cases hlt : k < n
    · obtain ⟨ad, u, rfl, had, hx, hc⟩ := hr.at_ hlt
      obtain ⟨b, hbx, rfl⟩ := ints_at hx
      have HX := Lib.hid (worT_s hbx)
      obtain ⟨s3, s4⟩ := HB.out b (mem_of_at hbx)
      have cA := l03Abs_any b w (by omega) (by omega)
      have HCM := Lib.hid (l00Max_any (worT es k) (absI b) w)
      generalize worT es k = wk at *
      generalize absI b = ab at *
      have HCA := Lib.hid cA
      clear hbx hx cA
      go_wp2_with fail; ((with_reducible refine HCA.out.mono ?_); rintro e w' ⟨rfl, rfl⟩)
      go_wp2_with fail; ((with_reducible refine HCM.out.mono ?_); rintro e w' ⟨rfl, rfl⟩)
      go_wp2
      go_round
      case rel => exact ⟨k + 1, by omega, by go_num, by rw [HX.out]⟩
      case measure => simp [intOf]; omega
    · have e : k = n := by omega
      subst e
      go_wp2
      go_ret
      exact ⟨rfl, rfl⟩
/-- The flows in a row of their own, the meshes in others. -/
structure SolW (w wr : World) (A5 : Option Addr) (m c5 : Nat) (f : List Int) (A6 : Option Addr) (n6 c6 : Nat) (ms : List (List Int)) (rws : List Row) : Prop where
  bel : Below w.heap.size w wr
  mms : Mms wr w.heap.size A6 n6 c6 ms rws
  own : wr.ownsRow w.heap.size 2 1 (.slice A5 m c5) m (ints f)
  apo : ∀ k, Value.ownBlock (.slice A6 n6 c6) = some k → Value.ownBlock (.slice A5 m c5) = some k → False
  apr : ∀ r ∈ rws, ∀ k, r.val.ownBlock = some k → Value.ownBlock (.slice A5 m c5) = some k → False
section
variable {w wr w' : World} {A5 A6 : Option Addr} {m c5 n6 c6 g k : Nat} {f f' : List Int} {ms : List (List Int)} {rws : List Row}
theorem SolW.below (h : SolW w wr A5 m c5 f A6 n6 c6 ms rws) (hb : Below wr.heap.size wr w') : SolW w w' A5 m c5 f A6 n6 c6 ms rws :=
  ⟨h.bel.trans (hb.mono h.bel.size), h.mms.below hb, own_below h.own hb, h.apo, h.apr⟩
theorem SolW.grown (h : SolW w wr (some ⟨g, 0, none⟩) m c5 f A6 n6 c6 ms rws) (hg : wr.grownBy w' (some g)) (ho : w'.ownsRow w.heap.size 2 1 (.slice (some ⟨g, 0, none⟩) m c5) m (ints f')) : SolW w w' (some ⟨g, 0, none⟩) m c5 f' A6 n6 c6 ms rws :=
  ⟨h.bel.grown hg h.bel.size (fun q hq => by have h1 := (h.own.lt g rfl).1; have h2 := Option.some.inj hq; omega),
   ⟨⟨own_keep h.mms.oss.out hg (fun k h1 h2 => h.apo k h1 h2), fun r hr => own_keep (h.mms.oss.row r hr) hg (fun k h1 h2 => h.apr r hr k h1 h2), h.mms.oss.apart⟩, h.mms.dat⟩, ho, h.apo, h.apr⟩
theorem SolW.row_at (h : SolW w wr A5 m c5 f A6 n6 c6 ms rws) (hk : k < n6) :
    ∃ (ad : Addr) (r : Row), A6 = some ad ∧ ms[k]? = some r.xs ∧ r.n = r.xs.length ∧ wr.cell? (ad.add k) = some (.slice r.A r.n r.c) ∧ Reads wr wr.heap.size 1 r.A r.n (ints r.xs) ∧ ∀ a g, r.A = some a → A5 = some ⟨g, 0, none⟩ → a.block ≠ g := by
  obtain ⟨ad, r, e, hr, hc, hrr⟩ := h.mms.oss.reads.at_ hk
  exact ⟨ad, r, e, by rw [← h.mms.dat]; exact dat_at hr, (ints_len hrr).symm, hc, hrr, fun a g ha e5 hne => h.apr r (List.mem_of_getElem? hr) g (by unfold Row.val; rw [ha, ← hne]; rfl) (by rw [e5]; rfl)⟩
end
/-- The greatest error of the flows f. -/
def wrsF (ks : List FKey) (rs ds : List Int) (ms : List (List Int)) (f : List Int) : Int := worT (errsL rs (puTo ks ds f ks.length) f ms) ms.length
/-- The flows behind one mesh's correction. -/
def oneF (ks : List FKey) (rs ds : List Int) (f s : List Int) : List Int := corF rs (puTo ks ds f ks.length) f s
/-- The flows behind the first k meshes of a sweep, nothing where one left the range. -/
def swpT (ks : List FKey) (rs ds : List Int) (ms : List (List Int)) (m : Nat) (f : List Int) : Nat → Option (List Int)
  | 0 => some f
  | k + 1 => match swpT ks rs ds ms m f k with
    | none => none
    | some g => if lstOk m (-100000) 100000 (oneF ks rs ds g (ms.getD k [])) = true then some (oneF ks rs ds g (ms.getD k [])) else none
def solN (ks : List FKey) (rs ds : List Int) (ms : List (List Int)) (m : Nat) (tol : Int) : Nat → List Int → List Int × Int × Int
  | 0, f => if wrsF ks rs ds ms f ≤ tol then (f, wrsF ks rs ds ms f, 0) else ([], wrsF ks rs ds ms f, 5)
  | r + 1, f => if wrsF ks rs ds ms f ≤ tol then (f, wrsF ks rs ds ms f, 0) else match swpT ks rs ds ms m f ms.length with
    | none => ([], 0, 6)
    | some g => solN ks rs ds ms m tol r g
section
variable {ks : List FKey} {rs ds f g : List Int} {ms : List (List Int)} {m r : Nat} {tol : Int}
theorem solN_y (h : wrsF ks rs ds ms f ≤ tol) : solN ks rs ds ms m tol r f = (f, wrsF ks rs ds ms f, 0) := by cases r <;> (unfold solN; rw [if_pos h])
theorem solN_0 (h : ¬ wrsF ks rs ds ms f ≤ tol) : solN ks rs ds ms m tol 0 f = ([], wrsF ks rs ds ms f, 5) := by unfold solN; rw [if_neg h]
theorem solN_n (h : ¬ wrsF ks rs ds ms f ≤ tol) (h1 : swpT ks rs ds ms m f ms.length = none) : solN ks rs ds ms m tol (r + 1) f = ([], 0, 6) := by
  show (if _ then _ else _) = _
  rw [if_neg h, h1]
theorem solN_s (h : ¬ wrsF ks rs ds ms f ≤ tol) (h1 : swpT ks rs ds ms m f ms.length = some g) : solN ks rs ds ms m tol (r + 1) f = solN ks rs ds ms m tol r g := by
  show (if _ then _ else _) = _
  rw [if_neg h, h1]
theorem swpT_y {s : List Int} {k : Nat} (h : swpT ks rs ds ms m f k = some g) (hs : ms[k]? = some s) (h1 : lstOk m (-100000) 100000 (oneF ks rs ds g s) = true) : swpT ks rs ds ms m f (k + 1) = some (oneF ks rs ds g s) := by
  simp only [swpT]; rw [h]; simp only []; rw [show ms.getD k [] = s by rw [List.getD_eq_getElem?_getD, hs]; rfl, if_pos h1]
theorem swpT_n {s : List Int} {k : Nat} (h : swpT ks rs ds ms m f k = some g) (hs : ms[k]? = some s) (h1 : lstOk m (-100000) 100000 (oneF ks rs ds g s) = false) : swpT ks rs ds ms m f (k + 1) = none := by
  simp only [swpT]; rw [h]; simp only []; rw [show ms.getD k [] = s by rw [List.getD_eq_getElem?_getD, hs]; rfl, if_neg (ff_ne h1)]
theorem swpT_no {k : Nat} (h : swpT ks rs ds ms m f k = none) : ∀ q, k ≤ q → swpT ks rs ds ms m f q = none
  | q, hq => by
    induction q with
    | zero => rw [← h, show k = 0 by omega]
    | succ q ih =>
      by_cases hk : k ≤ q
      · simp only [swpT]; rw [ih hk]
      · rw [← h, show k = q + 1 by omega]
/-- What a mesh's walk, the fans and the flows are to a system. -/
theorem sol_sys {s : List Int} (h1 : lstOk m 1 1000000 rs = true) (h2 : lstOk m (-100000) 100000 ds = true) (hk : fansOk ks = true) (hf : lstOk m (-100000) 100000 f = true) (hs : ∀ x ∈ s, wkB m x = true) : SysB rs (puTo ks ds f ks.length) f s m := by
  obtain ⟨k1, k2⟩ := fansOk_t hk
  refine sys_of h1 (fun p hp => ?_) hf hs
  have := puTo_bnd (fs := f) (fun x hx => (fanOk_t (k2 x hx)).2.2) (lstOk_t h2).2 ks.length p hp
  omega
theorem errs_bnd {rs ps fs : List Int} {ms : List (List Int)} {n : Nat} (h : ∀ s ∈ ms, SysB rs ps fs s n ∧ s.length ≤ 20) (hr : rs.length = n) (hp : ps.length = n) (hf : fs.length = n) : ∀ e ∈ errsL rs ps fs ms, -40000000 ≤ e ∧ e ≤ 40000000 := by
  intro e he
  obtain ⟨s, hs, rfl⟩ := List.mem_map.1 he
  obtain ⟨h1, h2⟩ := h s hs
  have := erT_bnd h1 hr hp hf s.length (Nat.le_refl _)
  omega
end
set_option maxHeartbeats 6400000 in
set_option maxRecDepth 100000 in
theorem l07Solve_any (J : Int) (M : Option Addr) (m d : Nat) (xs : List Awy) (p : Addr) (A1 : Option Addr) (c1 : Nat) (rs : List Int) (A2 : Option Addr) (n2 c2 : Nat) (fn : List Fan) (A3 : Option Addr) (c3 : Nat) (ds : List Int) (A4 : Option Addr) (c4 : Nat) (fs : List Int) (tol R : Int) (w : World)
    (hm : Reads w w.heap.size 7 M m (Awy.recs xs)) (hok : mineOk J xs = true) (hp0 : w.cell? p = some (.int .i64 J)) (hp1 : w.cell? ⟨p.block, p.off + 1, none⟩ = some (.slice M m d))
    (hr1 : Reads w w.heap.size 1 A1 m (ints rs)) (hr2 : FSS w w.heap.size A2 n2 fn) (hr3 : Reads w w.heap.size 1 A3 m (ints ds)) (hr4 : Reads w w.heap.size 1 A4 m (ints fs))
    (hfo : fansOk (fdat fn) = true) (hfi : fansIn m (fdat fn) = true) (hs : sysOk m rs ds fs = true) (hR : 0 ≤ R ∧ R ≤ 500) :
    Calls Tryz.prog 28 #[.pointer (some p), .slice A1 m c1, .slice A2 n2 c2, .slice A3 m c3, .slice A4 m c4, .int .i64 tol, .int .i64 R] w fun e w' => ∃ A' n' c', e = .returned (.tuple #[.slice A' n' c', .int .i64 (solN (fdat fn) rs ds (meshL J xs) m tol R.toNat fs).2.1, .int .i64 (solN (fdat fn) rs ds (meshL J xs) m tol R.toNat fs).2.2]) ∧ w'.ownsRow w.heap.size 2 1 (.slice A' n' c') n' (ints (solN (fdat fn) rs ds (meshL J xs) m tol R.toNat fs).1) ∧ n' ≤ 1048576 ∧ Below w.heap.size w w' := by
  obtain ⟨N, rfl⟩ : ∃ N : Nat, R = N := ⟨R.toNat, by omega⟩
  rw [Int.toNat_natCast]
  have HLm := Lib.hid (recs_rlen Awy.clen (by omega) hm)
  have HLk : Hid ((fdat fn).length = n2) := show _ = _ by rw [fdat_len]; exact hr2.len
  have hm24 : m ≤ 24 := by have := (mineOk_t hok).2.1; rw [HLm.out] at this; exact this
  obtain ⟨s1, s2, s3⟩ := sysOk_t hs
  have S3 := Lib.hid s3
  have HDB := Lib.hid (lstOk_t s2).2
  have HMO := Lib.hid (meshL_ok hok)
  have HML := Lib.hid (meshL_len hok)
  have HSY : Hid (∀ f, lstOk m (-100000) 100000 f = true → ∀ s ∈ meshL J xs, SysB rs (puTo (fdat fn) ds f n2) f s m ∧ s.length ≤ 20) := fun f hf s h => by
    have h1 := meshL_ok hok s h
    have h2 := sol_sys s1 s2 hfo hf (s := s) (by have := h1.2.2; rw [HLm.out] at this; exact this)
    rw [HLk.out] at h2
    exact ⟨h2, by omega⟩
  have HR1 := Lib.hid (fun W (hb : Below w.heap.size w W) => (hr1.below hb).more hb.size)
  have HR2 := Lib.hid (fun W (hb : Below w.heap.size w W) => (hr2.below hb).more hb.size)
  have HR3 := Lib.hid (fun W (hb : Below w.heap.size w W) => (hr3.below hb).more hb.size)
  have HLR := Lib.hid (ints_len hr1)
  have HLD := Lib.hid (ints_len hr3)
  have HFO := Lib.hid (And.intro hfo hfi)
  have hpl1 := block_lt_of_cell hp1
  have HP1 := Lib.hid (fun W (hb : Below w.heap.size w W) => (hb.cell (p := ⟨p.block, p.off + 1, none⟩) hpl1).trans hp1)
  have cM := l04Meshes_any J M m d xs p w hm hok hp0 hp1
  have HR4 := Lib.hid (fun W (hb : Below w.heap.size w W) => (hr4.below hb).more hb.size)
  clear hok hfo hfi hs s1 s2 s3 hr1 hr2 hr3 hr4 hm hp0 hp1
  go_enter Tryz.func28, Tryz.ntmps28
  go_wp2_with fail; ((with_reducible refine cM.mono ?_); rintro e w1 ⟨A6, n6, c6, rws, rfl, hos, hda, hb1⟩)
  have HMS : Hid (Mms w1 w.heap.size A6 n6 c6 (meshL J xs) rws) := ⟨hos, hda⟩
  have HN6 := Lib.hid HMS.out.len
  have hn6 : n6 ≤ 24 := by rw [← HN6.out]; exact HML.out
  have cO := l00Own_any A4 m c4 fs w1 (HR4.out _ hb1) (by omega)
  clear cM hos hda
  go_wp2_with fail; ((with_reducible refine cO.mono ?_); rintro e w2 ⟨A5, c5, rfl, ho5, hb2⟩)
  have HSW : Hid (SolW w w2 A5 m c5 fs A6 n6 c6 (meshL J xs) rws) := ⟨hb1.trans (hb2.mono hb1.size), HMS.out.below hb2, own_base ho5 hb1.size, fun k h1 h2 => by have h3 := (HMS.out.oss.out.lt k h1).2; have h4 := (ho5.lt k h2).1; omega, fun r hr k h1 h2 => by have h3 := (HMS.out.oss.row r hr).lt k h1; have h4 := ho5.lt k h2; omega⟩
  clear cO ho5 hb1 hb2
  go_wp2
  go_loopw [19] (fun i wr => ∃ (k : Nat) (f : List Int), k ≤ N ∧ i = .int .i64 k ∧ Hid (SolW w wr A5 m c5 f A6 n6 c6 (meshL J xs) rws) ∧ Hid (lstOk m (-100000) 100000 f = true) ∧ Hid (solN (fdat fn) rs ds (meshL J xs) m tol (N - k) f = solN (fdat fn) rs ds (meshL J xs) m tol N fs)) (fun i _ => N - (intOf i).toNat)
  case atStart => exact ⟨0, fs, by omega, rfl, HSW, S3, rfl⟩
  case round =>
    obtain ⟨k, f, hk, rfl, HS, HF, HE⟩ := hrel
    obtain ⟨wo, rfl⟩ : ∃ wo : World, wo = wr := ⟨_, rfl⟩
    have Bo := HS.out.bel
    have HSYf := Lib.hid (HSY.out f HF.out)
    have cP := l07Pushes_any A2 n2 c2 fn A3 m c3 ds A5 c5 f wo (HR2.out _ Bo) HFO.out.1 HFO.out.2 (HR3.out _ Bo) (Reads.of_own HS.out.own) (by omega) HDB.out (lstOk_t HF.out).2
    have HLF : Hid (f.length = m) := show _ = _ by have := (lstOk_t HF.out).1; omega
    have HWV : Hid (worT (errsL rs (puTo (fdat fn) ds f n2) f (meshL J xs)) n6 = wrsF (fdat fn) rs ds (meshL J xs) f) := show _ = _ by unfold wrsF; rw [HLk.out, HN6.out]
    have HVY := Lib.hid (fun h => solN_y (ks := fdat fn) (rs := rs) (ds := ds) (ms := meshL J xs) (f := f) (m := m) (tol := tol) (r := N - k) h)
    have HV0 := Lib.hid (fun h => solN_0 (ks := fdat fn) (rs := rs) (ds := ds) (ms := meshL J xs) (f := f) (m := m) (tol := tol) h)
    have HVN := Lib.hid (fun h h1 => solN_n (ks := fdat fn) (rs := rs) (ds := ds) (ms := meshL J xs) (f := f) (m := m) (tol := tol) (r := N - k - 1) h h1)
    have HVS := Lib.hid (fun g h h1 => solN_s (ks := fdat fn) (rs := rs) (ds := ds) (ms := meshL J xs) (f := f) (g := g) (m := m) (tol := tol) (r := N - k - 1) h h1)
    generalize hWV : wrsF (fdat fn) rs ds (meshL J xs) f = wv at HWV HVY HV0 HVN HVS
    clear hWV
    go_wp2_with fail; ((with_reducible refine cP.mono ?_); rintro e w3 ⟨A7, c7, rfl, ho7, hb3⟩)
    have HS3 := Lib.hid (HS.out.below hb3)
    have B3 := HS3.out.bel
    have cE := l07Errors_any A6 n6 c6 rws A1 m c1 rs A7 c7 (puTo (fdat fn) ds f n2) A5 c5 f w3 HS3.out.mms.oss.reads (HR1.out _ B3) (Reads.of_own ho7) (Reads.of_own HS3.out.own) (by rw [HS3.out.mms.dat]; exact HSYf.out) (by omega) (by omega)
    rw [HS3.out.mms.dat] at cE
    clear cP ho7 hb3 Bo
    go_wp2_with fail; ((with_reducible refine cE.mono ?_); rintro e w4 ⟨A8, c8, rfl, ho8, hb4⟩)
    have HS4 := Lib.hid (HS3.out.below hb4)
    have cW := l07Worst_any A8 n6 c8 _ w4 (Reads.of_own ho8) (by omega) (errs_bnd HSYf.out HLR.out (by rw [puTo_len]; exact HLD.out) HLF.out)
    rw [HWV.out] at cW
    have HCW := Lib.hid cW
    clear cE ho8 hb4 B3 cW
    by_cases h1 : wv ≤ tol
    · have HV := Lib.hid (HE.out.symm.trans (HVY.out h1))
      go_wp2_with fail; ((with_reducible refine HCW.out.mono ?_); rintro e w' ⟨rfl, rfl⟩)
      go_wp2
      go_ret3
      rw [HV.out]
      exact ⟨A5, m, c5, rfl, HS4.out.own, by omega, HS4.out.bel⟩
    · have hd1 : decide (wv ≤ tol) = false := decide_eq_false h1
      by_cases h2 : k = N
      · have HV : Hid (solN (fdat fn) rs ds (meshL J xs) m tol N fs = ([], wv, 5)) := HE.out.symm.trans (by rw [h2, Nat.sub_self]; exact HV0.out (by first | exact h1 | omega))
        have h3 : (k : Int) = (N : Int) := by omega
        clear h2
        go_wp2_with fail; ((with_reducible refine HCW.out.mono ?_); rintro e w' ⟨rfl, rfl⟩)
        go_wp2
        go_ret3
        rw [HV.out]
        exact ⟨none, 0, 0, rfl, own_nil _ _ _ _, by omega, HS4.out.bel⟩
      · have h3 : ¬ (k : Int) = (N : Int) := by omega
        have hd3 : decide ((k : Int) = (N : Int)) = false := decide_eq_false h3
        have hd4 : ((k : Int) == (N : Int)) = false := by simpa using h3
        have hNk : N - k - 1 + 1 = N - k := by omega
        have HVN2 := Lib.hid (HVN.out (by first | exact h1 | omega))
        have HVS2 := Lib.hid (fun g => HVS.out g (by first | exact h1 | omega))
        rw [hNk] at HVN2 HVS2
        clear h2 hNk
        go_wp2_with fail; ((with_reducible refine HCW.out.mono ?_); rintro e w' ⟨rfl, rfl⟩)
        go_wp2
        go_loopw [21] (fun i wq => ∃ (j : Nat) (g : List Int), j ≤ n6 ∧ i = .int .i64 j ∧ Hid (SolW w wq A5 m c5 g A6 n6 c6 (meshL J xs) rws) ∧ Hid (lstOk m (-100000) 100000 g = true) ∧ Hid (swpT (fdat fn) rs ds (meshL J xs) m f j = some g)) (fun i _ => n6 - (intOf i).toNat)
        case atStart => exact ⟨0, f, by omega, rfl, HS4, HF, rfl⟩
        case round =>
          obtain ⟨j, g, hj, rfl, HT, HG, HP⟩ := hrel
          obtain ⟨wi, rfl⟩ : ∃ wi : World, wi = wr := ⟨_, rfl⟩
          by_cases hlt : j < n6
          · obtain ⟨ad, r, rfl, hms, hrl, hc, hrr, hap⟩ := HT.out.row_at hlt
            have hmem := List.mem_of_getElem? hms
            have hmo := HMO.out r.xs hmem
            have hsy := (HSY.out g HG.out r.xs hmem).1
            have hq1 : 1 ≤ r.n := by rw [hrl]; exact List.length_pos_iff.2 hmo.2.1
            have hq2 : r.n ≤ 18 := by rw [hrl]; exact hmo.1
            have hwk : ∀ x ∈ r.xs, wkB m x = true := hsy.2.2.2
            have hn0 : 0 < m := by
              obtain ⟨x, hx⟩ := List.exists_mem_of_ne_nil _ hmo.2.1
              have := wkI_lt (hwk x hx); omega
            obtain ⟨gb, rfl, _⟩ := own_upd HT.out.own hn0 0
            have hsb : -10000 ≤ stR rs (puTo (fdat fn) ds g n2) g r.xs r.xs.length ∧ stR rs (puTo (fdat fn) ds g n2) g r.xs r.xs.length ≤ 10000 := stC_bnd (erT rs (puTo (fdat fn) ds g n2) g r.xs r.xs.length) (slT rs g r.xs r.xs.length) (alT rs r.xs r.xs.length)
            have HGB := Lib.hid (lstOk_t HG.out).2
            have HPU : Hid (∀ W : World, Below wi.heap.size wi W → Calls Tryz.prog 62 #[.slice A2 n2 c2, .slice A3 m c3, .slice (some ⟨gb, 0, none⟩) m c5] W fun e w' => ∃ A' c', e = .returned (.slice A' m c') ∧ w'.ownsRow W.heap.size 2 1 (.slice A' m c') m (ints (puTo (fdat fn) ds g n2)) ∧ Below W.heap.size W w') := fun W hW => by
              have T := HT.out.below hW
              exact l07Pushes_any A2 n2 c2 fn A3 m c3 ds _ c5 g W (HR2.out _ T.bel) HFO.out.1 HFO.out.2 (HR3.out _ T.bel) (Reads.of_own T.own) (by omega) HDB.out HGB.out
            have HST : Hid (∀ (W : World) (A9 : Option Addr) (c9 : Nat), Below wi.heap.size wi W → Reads W W.heap.size 1 A9 m (ints (puTo (fdat fn) ds g n2)) → Calls Tryz.prog 63 #[.slice A1 m c1, .slice A9 m c9, .slice (some ⟨gb, 0, none⟩) m c5, .slice r.A r.n r.c] W fun e w' => e = .returned (.int .i64 (stR rs (puTo (fdat fn) ds g n2) g r.xs r.xs.length)) ∧ Below W.heap.size W w') := fun W A9 c9 hW h9 => by
              have T := HT.out.below hW
              have h := l07Step_any A1 m c1 rs A9 c9 _ (some ⟨gb, 0, none⟩) c5 g r.A r.n r.c r.xs W (HR1.out _ T.bel) h9 (Reads.of_own T.own) ((hrr.below hW).more hW.size) hsy (by omega) (by omega) hq1
              rw [hrl] at h; rw [hrl]; exact h
            have HAD : Hid (∀ W : World, Below wi.heap.size wi W → Calls Tryz.prog 64 #[.slice (some ⟨gb, 0, none⟩) m c5, .slice r.A r.n r.c, .int .i64 (stR rs (puTo (fdat fn) ds g n2) g r.xs r.xs.length)] W fun e w' => e = .returned (.tuple #[]) ∧ SolW w w' (some ⟨gb, 0, none⟩) m c5 (oneF (fdat fn) rs ds g r.xs) (some ad) n6 c6 (meshL J xs) rws) := fun W hW => by
              have T := HT.out.below hW
              have h := l07Add_any w.heap.size gb m c5 g r.A r.n r.c r.xs (stR rs (puTo (fdat fn) ds g n2) g r.xs r.xs.length) 100000 W T.own ((hrr.below hW).more hW.size) (by omega) (fun a ha => hap a _ ha rfl) hwk (by omega) (by omega) (by omega) HGB.out (by omega) (by omega)
              refine h.mono ?_
              rintro e w' ⟨e1, e2, e3⟩
              refine ⟨e1, T.grown e3 ?_⟩
              have hO : oneF (fdat fn) rs ds g r.xs = addL g r.xs (stR rs (puTo (fdat fn) ds g n2) g r.xs r.xs.length) r.n := by unfold oneF corF; rw [HLk.out, hrl]
              rw [hO]; exact e2
            have HFL : Hid (∀ W f', SolW w W (some ⟨gb, 0, none⟩) m c5 f' (some ad) n6 c6 (meshL J xs) rws → Calls Tryz.prog 26 #[.pointer (some p), .slice (some ⟨gb, 0, none⟩) m c5] W fun e w' => e = .returned (.bool (lstOk m (-100000) 100000 f')) ∧ W = w') := fun W f' h => l07Flows_any m M d p _ m c5 f' W (Reads.of_own h.own) (by omega) (HP1.out _ h.bel)
            have HPY := Lib.hid (fun h => swpT_y HP.out hms h)
            have HPN := Lib.hid (fun h => swpT_n HP.out hms h)
            have hkI : (j : Int) < (n6 : Int) := by omega
            generalize stR rs (puTo (fdat fn) ds g n2) g r.xs r.xs.length = st at *
            generalize oneF (fdat fn) rs ds g r.xs = g2 at *
            clear hms hmem hmo hsy hwk hrr hap hsb hn0 hq1 hq2 hrl
            go_wp2
            go_region_held3 (fun w' => w'.cell? (ad.add j) = some (.slice r.A r.n r.c))
              (first | go_keep | (exact (hb6.cell (block_lt_of_cell ((hb5.cell (block_lt_of_cell hc)).trans hc))).trans ((hb5.cell (block_lt_of_cell hc)).trans hc)) | (exact (hb5.cell (block_lt_of_cell hc)).trans hc))
              (first
                | (go_at_call 62; refine (HPU.out _ ((Below.refl _ _).drew)).mono ?_; rintro e w5 ⟨A9, c9, rfl, ho9, hb5⟩)
                | (go_at_call 63; refine (HST.out _ _ _ (((Below.refl _ _).drew).trans hb5) (Reads.of_own ho9)).mono ?_; rintro e w6 ⟨rfl, hb6⟩))
            have hb56 : Below wi.heap.size wi w6 := (((Below.refl wi.heap.size wi).drew).trans hb5).trans (hb6.mono hb5.size)
            go_wp2_with fail; ((with_reducible refine (HAD.out _ hb56).mono ?_); rintro e w7 ⟨rfl, hs7⟩)
            have HS7 := Lib.hid hs7
            clear hs7 hb5 hb6 ho9 hb56
            have cf := HFL.out _ _ HS7.out
            rcases Bool.eq_false_or_eq_true (lstOk m (-100000) 100000 g2) with k4 | k4
            · have HP2 := Lib.hid (HPY.out k4)
              have K4 := Lib.hid k4
              rw [k4] at cf
              clear k4
              go_wp2_with fail; ((with_reducible refine cf.mono ?_); rintro e w' ⟨rfl, rfl⟩)
              go_wp2
              go_roundw
              case rel => exact ⟨j + 1, g2, by omega, by go_num, HS7, K4, HP2⟩
              case measure => simp [intOf]; omega
            · have HV := Lib.hid (HE.out.symm.trans (HVN2.out (swpT_no (HPN.out k4) _ (by rw [HN6.out]; omega))))
              rw [k4] at cf
              clear k4
              go_wp2_with fail; ((with_reducible refine cf.mono ?_); rintro e w' ⟨rfl, rfl⟩)
              go_wp2
              go_ret3
              rw [HV.out]
              exact ⟨none, 0, 0, rfl, own_nil _ _ _ _, by omega, HS7.out.bel⟩
          · have e : j = n6 := by omega
            have HV := Lib.hid (HE.out.symm.trans (HVS2.out g (by rw [HN6.out, ← e]; exact HP.out)))
            have hk2 : k + 1 ≤ N := by omega
            have HV2 : Hid (solN (fdat fn) rs ds (meshL J xs) m tol (N - (k + 1)) g = solN (fdat fn) rs ds (meshL J xs) m tol N fs) := show _ = _ by rw [HV.out, Nat.sub_sub]
            clear e HV
            go_wp2
            go_roundw
            case rel => exact ⟨k + 1, g, hk2, by go_num, HT, HG, HV2⟩
            case measure => simp [intOf]; omega
end Go.Proofs.YtjmhhbjbmgpagaaGreat

/- Contract of the search for balanced flows, the reference's. -/
namespace Go.Proofs.YtjmhhbjbmgpagaaGreat
set_option linter.unusedVariables false
set_option linter.unusedSimpArgs false
open Go.RowKit
def solR (J : Int) (xs : List Awy) (ks : List FKey) (rs ds fs : List Int) (tol R : Int) : List Int × Int × Int :=
  if mineOk J xs = true ∧ fansOk ks = true then (if inB tol 0 100000 = true ∧ inB R 0 500 = true then (if fansIn xs.length ks = true ∧ sysOk xs.length rs ds fs = true then (if balOk J xs fs = true then solN ks rs ds (meshL J xs) xs.length tol R.toNat fs else ([], 0, 6)) else ([], 0, 7)) else ([], 0, 2)) else ([], 0, 1)
section
variable {J tol R : Int} {xs : List Awy} {ks : List FKey} {rs ds fs : List Int}
theorem solR_1a (h : mineOk J xs = false) : solR J xs ks rs ds fs tol R = ([], 0, 1) := if_neg (fun h1 => ff_ne h h1.1)
theorem solR_1b (h : fansOk ks = false) : solR J xs ks rs ds fs tol R = ([], 0, 1) := if_neg (fun h1 => ff_ne h h1.2)
theorem solR_2a (a : mineOk J xs = true) (b : fansOk ks = true) (h : inB tol 0 100000 = false) : solR J xs ks rs ds fs tol R = ([], 0, 2) := by unfold solR; rw [if_pos ⟨a, b⟩, if_neg (fun h1 => ff_ne h h1.1)]
theorem solR_2b (a : mineOk J xs = true) (b : fansOk ks = true) (h : inB R 0 500 = false) : solR J xs ks rs ds fs tol R = ([], 0, 2) := by unfold solR; rw [if_pos ⟨a, b⟩, if_neg (fun h1 => ff_ne h h1.2)]
theorem solR_7 (a : mineOk J xs = true) (b : fansOk ks = true) (c : inB tol 0 100000 = true) (d : inB R 0 500 = true) (h : ¬ (fansIn xs.length ks = true ∧ sysOk xs.length rs ds fs = true)) : solR J xs ks rs ds fs tol R = ([], 0, 7) := by unfold solR; rw [if_pos ⟨a, b⟩, if_pos ⟨c, d⟩, if_neg h]
theorem solR_6 (a : mineOk J xs = true) (b : fansOk ks = true) (c : inB tol 0 100000 = true) (d : inB R 0 500 = true) (e : fansIn xs.length ks = true) (f : sysOk xs.length rs ds fs = true) (h : balOk J xs fs = false) : solR J xs ks rs ds fs tol R = ([], 0, 6) := by unfold solR; rw [if_pos ⟨a, b⟩, if_pos ⟨c, d⟩, if_pos ⟨e, f⟩, if_neg (ff_ne h)]
theorem solR_0 (a : mineOk J xs = true) (b : fansOk ks = true) (c : inB tol 0 100000 = true) (d : inB R 0 500 = true) (e : fansIn xs.length ks = true) (f : sysOk xs.length rs ds fs = true) (h : balOk J xs fs = true) : solR J xs ks rs ds fs tol R = solN ks rs ds (meshL J xs) xs.length tol R.toNat fs := by unfold solR; rw [if_pos ⟨a, b⟩, if_pos ⟨c, d⟩, if_pos ⟨e, f⟩, if_pos h]
end
set_option maxHeartbeats 3200000 in
set_option maxRecDepth 100000 in
theorem specSolveFlows_any (J : Int) (M : Option Addr) (m d : Nat) (xs : List Awy) (A1 : Option Addr) (n1 c1 : Nat) (rs : List Int) (A2 : Option Addr) (n2 c2 : Nat) (fn : List Fan) (A3 : Option Addr) (n3 c3 : Nat) (ds : List Int) (A4 : Option Addr) (n4 c4 : Nat) (fs : List Int) (tol R : Int) (w : World) (hm : Reads w w.heap.size 7 M m (Awy.recs xs)) (hmn : m ≤ 1048576) (hxs : ∀ x ∈ xs, x.s.size ≤ maxLen) (hr1 : Reads w w.heap.size 1 A1 n1 (ints rs)) (hn1 : n1 ≤ 1048576) (hr2 : FSS w w.heap.size A2 n2 fn) (hn2 : n2 ≤ 1048576) (hx2 : ∀ x ∈ fn, x.ok) (hr3 : Reads w w.heap.size 1 A3 n3 (ints ds)) (hn3 : n3 ≤ 1048576) (hr4 : Reads w w.heap.size 1 A4 n4 (ints fs)) (hn4 : n4 ≤ 1048576) :
    Calls Tryz.prog 6 #[.agg #[.int .i64 J, .slice M m d], .slice A1 n1 c1, .slice A2 n2 c2, .slice A3 n3 c3, .slice A4 n4 c4, .int .i64 tol, .int .i64 R] w fun e w' => ∃ A' n' c', e = .returned (.tuple #[.slice A' n' c', .int .i64 (solR J xs (fdat fn) rs ds fs tol R).2.1, .int .i64 (solR J xs (fdat fn) rs ds fs tol R).2.2]) ∧ w'.ownsRow w.heap.size 2 1 (.slice A' n' c') n' (ints (solR J xs (fdat fn) rs ds fs tol R).1) ∧ n' ≤ 1048576 ∧ Below w.heap.size w w' := by
  have HLm := Lib.hid (recs_rlen Awy.clen (by omega) hm)
  have hb : Below w.heap.size w (w.alloc (.cells #[.int .i64 J, .slice M m d] 33)) := (Below.refl _ _).alloc (Nat.le_refl _) _
  have g0 : (w.alloc (.cells #[.int .i64 J, .slice M m d] 33)).cell? ⟨w.heap.size, 0, none⟩ = some (.int .i64 J) := ((Blk.new w _ _).cell 0).trans rfl
  have g1 : (w.alloc (.cells #[.int .i64 J, .slice M m d] 33)).cell? ⟨w.heap.size, 1, none⟩ = some (.slice M m d) := ((Blk.new w _ _).cell 1).trans rfl
  have z0 : w.heap.size < (w.alloc (.cells #[.int .i64 J, .slice M m d] 33)).heap.size := by simp
  have HW := Lib.hid (fun W (hb : Below w.heap.size w W) => (hm.below hb).more hb.size)
  have HR1 := Lib.hid (fun W (hb : Below w.heap.size w W) => (hr1.below hb).more hb.size)
  have HR2 := Lib.hid (fun W (hb : Below w.heap.size w W) => (hr2.below hb).more hb.size)
  have HR3 := Lib.hid (fun W (hb : Below w.heap.size w W) => (hr3.below hb).more hb.size)
  have HR4 := Lib.hid (fun W (hb : Below w.heap.size w W) => (hr4.below hb).more hb.size)
  have HX2 := Lib.hid hx2
  have HL1 := Lib.hid (ints_len hr1)
  have HL3 := Lib.hid (ints_len hr3)
  have HL4 := Lib.hid (ints_len hr4)
  have cc := l04Ok_any J M m d xs ⟨w.heap.size, 0, none⟩ (w.alloc (.cells #[.int .i64 J, .slice M m d] 33)) (HW.out _ hb) hmn hxs (Cells.new w _ _)
  go_enter Tryz.func6, Tryz.ntmps6
  rcases Bool.eq_false_or_eq_true (mineOk J xs) with k1 | k1
  · skip
    rw [k1] at cc
    have HC := Lib.hid cc
    have K1 := Lib.hid k1
    have hm24 : m ≤ 24 := by have := (mineOk_t k1).2.1; rw [HLm.out] at this; exact this
    clear cc k1
    go_wp2_with fail; ((with_reducible refine HC.out.mono ?_); rintro e w1 ⟨rfl, hbw1⟩)
    have Bw1 := hb.trans (hbw1.mono hb.size)
    have p0 := (hbw1.cell (p := ⟨w.heap.size, 0, none⟩) z0).trans g0
    have p1 := (hbw1.cell (p := ⟨w.heap.size, 1, none⟩) z0).trans g1
    have zw1 := Nat.lt_of_lt_of_le z0 hbw1.size
    have cc := l06List_any A2 n2 c2 fn w1 (HR2.out _ Bw1) hn2 HX2.out
    rcases Bool.eq_false_or_eq_true (fansOk (fdat fn)) with k2 | k2
    · skip
      rw [k2] at cc
      have HC := Lib.hid cc
      have K2 := Lib.hid k2
      clear cc k2
      go_wp2_with fail; ((with_reducible refine HC.out.mono ?_); rintro e w2 ⟨rfl, hbw2⟩)
      have Bw2 := Bw1.trans (hbw2.mono Bw1.size)
      have p0 := (hbw2.cell (p := ⟨w.heap.size, 0, none⟩) zw1).trans p0
      have p1 := (hbw2.cell (p := ⟨w.heap.size, 1, none⟩) zw1).trans p1
      have zw2 := Nat.lt_of_lt_of_le zw1 hbw2.size
      have cc := l00In_any tol 0 100000 w2
      rcases Bool.eq_false_or_eq_true (inB tol 0 100000) with k3 | k3
      · skip
        rw [k3] at cc
        have HC := Lib.hid cc
        have K3 := Lib.hid k3
        clear cc k3
        go_wp2_with fail; ((with_reducible refine HC.out.mono ?_); rintro e w' ⟨rfl, rfl⟩)
        have cc := l00In_any R 0 500 w2
        rcases Bool.eq_false_or_eq_true (inB R 0 500) with k4 | k4
        · skip
          rw [k4] at cc
          have HC := Lib.hid cc
          have K4 := Lib.hid k4
          clear cc k4
          go_wp2_with fail; ((with_reducible refine HC.out.mono ?_); rintro e w' ⟨rfl, rfl⟩)
          have cc := l07Res_any m M d ⟨w.heap.size, 0, none⟩ A1 n1 c1 rs w2 (HR1.out _ Bw2) hn1 p1
          rcases Bool.eq_false_or_eq_true (lstOk m 1 1000000 rs) with k5 | k5
          · skip
            rw [k5] at cc
            have HC := Lib.hid cc
            have K5 := Lib.hid k5
            clear cc k5
            go_wp2_with fail; ((with_reducible refine HC.out.mono ?_); rintro e w' ⟨rfl, rfl⟩)
            have cc := l07Fans_any M m d A2 n2 c2 fn ⟨w.heap.size, 0, none⟩ w2 (HR2.out _ Bw2) hn2 hmn K2.out p1
            rcases Bool.eq_false_or_eq_true (fansIn m (fdat fn)) with k6 | k6
            · skip
              rw [k6] at cc
              have HC := Lib.hid cc
              have K6 := Lib.hid k6
              clear cc k6
              go_wp2_with fail; ((with_reducible refine HC.out.mono ?_); rintro e w6 ⟨rfl, qw6, HQw6⟩)
              have hbw6 : Below w2.heap.size w2 w6 := by rw [HQw6]; exact below_drewN (Below.refl _ _) _
              clear HQw6
              have Bw6 := Bw2.trans (hbw6.mono Bw2.size)
              have p0 := (hbw6.cell (p := ⟨w.heap.size, 0, none⟩) zw2).trans p0
              have p1 := (hbw6.cell (p := ⟨w.heap.size, 1, none⟩) zw2).trans p1
              have zw6 := Nat.lt_of_lt_of_le zw2 hbw6.size
              have cc := l07Pressures_any m M d ⟨w.heap.size, 0, none⟩ A3 n3 c3 ds w6 (HR3.out _ Bw6) hn3 p1
              rcases Bool.eq_false_or_eq_true (lstOk m (-100000) 100000 ds) with k7 | k7
              · skip
                rw [k7] at cc
                have HC := Lib.hid cc
                have K7 := Lib.hid k7
                clear cc k7
                go_wp2_with fail; ((with_reducible refine HC.out.mono ?_); rintro e w' ⟨rfl, rfl⟩)
                have cc := l07Flows_any m M d ⟨w.heap.size, 0, none⟩ A4 n4 c4 fs w6 (HR4.out _ Bw6) hn4 p1
                rcases Bool.eq_false_or_eq_true (lstOk m (-100000) 100000 fs) with k8 | k8
                · skip
                  rw [k8] at cc
                  have HC := Lib.hid cc
                  have K8 := Lib.hid k8
                  have HSO : Hid (sysOk m rs ds fs = true) := show _ = _ by unfold sysOk; rw [K5.out, K7.out, K8.out]; rfl
                  clear cc k8
                  go_wp2_with fail; ((with_reducible refine HC.out.mono ?_); rintro e w' ⟨rfl, rfl⟩)
                  have cc := l07Balanced_any J M m d xs A4 n4 c4 fs ⟨w.heap.size, 0, none⟩ w6 (HW.out _ Bw6) (HR4.out _ Bw6) K1.out (by rw [HLm.out]; exact K8.out) p0 p1
                  rcases Bool.eq_false_or_eq_true (balOk J xs fs) with k9 | k9
                  · skip
                    rw [k9] at cc
                    have HC := Lib.hid cc
                    have K9 := Lib.hid k9
                    clear cc k9
                    go_wp2_with fail; ((with_reducible refine HC.out.mono ?_); rintro e w' ⟨rfl, rfl⟩)
                    have HV := Lib.hid (solR_0 (rs := rs) (ds := ds) (fs := fs) (tol := tol) (R := R) K1.out K2.out K3.out K4.out (by rw [HLm.out]; exact K6.out) (by rw [HLm.out]; exact HSO.out) K9.out)
                    obtain rfl : n1 = m := by have h1 := (lstOk_t K5.out).1; have h2 := HL1.out; omega
                    obtain rfl : n3 = n1 := by have h1 := (lstOk_t K7.out).1; have h2 := HL3.out; omega
                    obtain rfl : n4 = n3 := by have h1 := (lstOk_t K8.out).1; have h2 := HL4.out; omega
                    rw [HLm.out] at HV
                    have cS := l07Solve_any J M n4 d xs ⟨w.heap.size, 0, none⟩ A1 c1 rs A2 n2 c2 fn A3 c3 ds A4 c4 fs tol R w6 (HW.out _ Bw6) K1.out p0 p1 (HR1.out _ Bw6) (HR2.out _ Bw6) (HR3.out _ Bw6) (HR4.out _ Bw6) K2.out K6.out HSO.out (inB_t K4.out)
                    generalize solN (fdat fn) rs ds (meshL J xs) n4 tol R.toNat fs = sv at *
                    obtain ⟨v1, v2, v3⟩ := sv
                    have HCS := Lib.hid cS
                    clear cS
                    go_wp2_with fail; ((with_reducible refine HCS.out.mono ?_); rintro e wz ⟨Az, nz, cz, rfl, hoz, hnz, hbz⟩)
                    have HOZ := Lib.hid hoz
                    clear hoz
                    go_wp2
                    go_ret3
                    rw [HV.out]
                    exact ⟨Az, nz, cz, rfl, own_base HOZ.out Bw6.size, hnz, Bw6.trans (hbz.mono Bw6.size)⟩
                  · skip
                    rw [k9] at cc
                    have HC := Lib.hid cc
                    have HV : Hid (solR J xs (fdat fn) rs ds fs tol R = ([], 0, 6)) := solR_6 K1.out K2.out K3.out K4.out (by rw [HLm.out]; exact K6.out) (by rw [HLm.out]; exact HSO.out) k9
                    clear cc k9
                    go_wp2_with fail; ((with_reducible refine HC.out.mono ?_); rintro e w' ⟨rfl, rfl⟩)
                    go_wp2
                    go_ret3
                    rw [HV.out]
                    exact ⟨none, 0, 0, rfl, own_nil _ _ _ _, by omega, Bw6⟩
                · skip
                  rw [k8] at cc
                  have HC := Lib.hid cc
                  have HV : Hid (solR J xs (fdat fn) rs ds fs tol R = ([], 0, 7)) := solR_7 (R := R) (tol := tol) K1.out K2.out K3.out K4.out (by rw [HLm.out]; unfold sysOk; rw [k8]; simp)
                  clear cc k8
                  go_wp2_with fail; ((with_reducible refine HC.out.mono ?_); rintro e w' ⟨rfl, rfl⟩)
                  go_wp2
                  go_ret3
                  rw [HV.out]
                  exact ⟨none, 0, 0, rfl, own_nil _ _ _ _, by omega, Bw6⟩
              · skip
                rw [k7] at cc
                have HC := Lib.hid cc
                have HV : Hid (solR J xs (fdat fn) rs ds fs tol R = ([], 0, 7)) := solR_7 (R := R) (tol := tol) K1.out K2.out K3.out K4.out (by rw [HLm.out]; unfold sysOk; rw [k7]; simp)
                clear cc k7
                go_wp2_with fail; ((with_reducible refine HC.out.mono ?_); rintro e w' ⟨rfl, rfl⟩)
                go_wp2
                go_ret3
                rw [HV.out]
                exact ⟨none, 0, 0, rfl, own_nil _ _ _ _, by omega, Bw6⟩
            · skip
              rw [k6] at cc
              have HC := Lib.hid cc
              have HV : Hid (solR J xs (fdat fn) rs ds fs tol R = ([], 0, 7)) := solR_7 (R := R) (tol := tol) K1.out K2.out K3.out K4.out (by rw [HLm.out]; rw [k6]; simp)
              clear cc k6
              go_wp2_with fail; ((with_reducible refine HC.out.mono ?_); rintro e w6 ⟨rfl, qw6, HQw6⟩)
              have hbw6 : Below w2.heap.size w2 w6 := by rw [HQw6]; exact below_drewN (Below.refl _ _) _
              clear HQw6
              have Bw6 := Bw2.trans (hbw6.mono Bw2.size)
              have p0 := (hbw6.cell (p := ⟨w.heap.size, 0, none⟩) zw2).trans p0
              have p1 := (hbw6.cell (p := ⟨w.heap.size, 1, none⟩) zw2).trans p1
              have zw6 := Nat.lt_of_lt_of_le zw2 hbw6.size
              go_wp2
              go_ret3
              rw [HV.out]
              exact ⟨none, 0, 0, rfl, own_nil _ _ _ _, by omega, Bw6⟩
          · skip
            rw [k5] at cc
            have HC := Lib.hid cc
            have HV : Hid (solR J xs (fdat fn) rs ds fs tol R = ([], 0, 7)) := solR_7 (R := R) (tol := tol) K1.out K2.out K3.out K4.out (by rw [HLm.out]; unfold sysOk; rw [k5]; simp)
            clear cc k5
            go_wp2_with fail; ((with_reducible refine HC.out.mono ?_); rintro e w' ⟨rfl, rfl⟩)
            go_wp2
            go_ret3
            rw [HV.out]
            exact ⟨none, 0, 0, rfl, own_nil _ _ _ _, by omega, Bw2⟩
        · skip
          rw [k4] at cc
          have HC := Lib.hid cc
          have HV : Hid (solR J xs (fdat fn) rs ds fs tol R = ([], 0, 2)) := solR_2b K1.out K2.out k4
          clear cc k4
          go_wp2_with fail; ((with_reducible refine HC.out.mono ?_); rintro e w' ⟨rfl, rfl⟩)
          go_wp2
          go_ret3
          rw [HV.out]
          exact ⟨none, 0, 0, rfl, own_nil _ _ _ _, by omega, Bw2⟩
      · skip
        rw [k3] at cc
        have HC := Lib.hid cc
        have HV : Hid (solR J xs (fdat fn) rs ds fs tol R = ([], 0, 2)) := solR_2a K1.out K2.out k3
        clear cc k3
        go_wp2_with fail; ((with_reducible refine HC.out.mono ?_); rintro e w' ⟨rfl, rfl⟩)
        go_wp2
        go_ret3
        rw [HV.out]
        exact ⟨none, 0, 0, rfl, own_nil _ _ _ _, by omega, Bw2⟩
    · skip
      rw [k2] at cc
      have HC := Lib.hid cc
      have HV : Hid (solR J xs (fdat fn) rs ds fs tol R = ([], 0, 1)) := solR_1b k2
      clear cc k2
      go_wp2_with fail; ((with_reducible refine HC.out.mono ?_); rintro e w2 ⟨rfl, hbw2⟩)
      have Bw2 := Bw1.trans (hbw2.mono Bw1.size)
      have p0 := (hbw2.cell (p := ⟨w.heap.size, 0, none⟩) zw1).trans p0
      have p1 := (hbw2.cell (p := ⟨w.heap.size, 1, none⟩) zw1).trans p1
      have zw2 := Nat.lt_of_lt_of_le zw1 hbw2.size
      go_wp2
      go_ret3
      rw [HV.out]
      exact ⟨none, 0, 0, rfl, own_nil _ _ _ _, by omega, Bw2⟩
  · skip
    rw [k1] at cc
    have HC := Lib.hid cc
    have HV : Hid (solR J xs (fdat fn) rs ds fs tol R = ([], 0, 1)) := solR_1a k1
    clear cc k1
    go_wp2_with fail; ((with_reducible refine HC.out.mono ?_); rintro e w1 ⟨rfl, hbw1⟩)
    have Bw1 := hb.trans (hbw1.mono hb.size)
    have p0 := (hbw1.cell (p := ⟨w.heap.size, 0, none⟩) z0).trans g0
    have p1 := (hbw1.cell (p := ⟨w.heap.size, 1, none⟩) z0).trans g1
    have zw1 := Nat.lt_of_lt_of_le z0 hbw1.size
    go_wp2
    go_ret3
    rw [HV.out]
    exact ⟨none, 0, 0, rfl, own_nil _ _ _ _, by omega, Bw1⟩
end Go.Proofs.YtjmhhbjbmgpagaaGreat

/- Contract of the search for balanced flows, the program's. -/
namespace Go.Proofs.YtjmhhbjbmgpagaaGreat
set_option linter.unusedVariables false
set_option linter.unusedSimpArgs false
open Go.RowKit
/-- Behind the copy of the flows and the meshes. -/
def SolCut (ms : List (List Int)) (fs : List Int) (m : Nat) (w3 : World) (s17 s18 : Value) (w' : World) : Prop :=
  ∃ (A5 : Option Addr) (c5 : Nat) (A6 : Option Addr) (n6 c6 : Nat) (rws : List Row), s17 = .slice A5 m c5 ∧ s18 = .slice A6 n6 c6 ∧ SolW w3 w' A5 m c5 fs A6 n6 c6 ms rws
set_option maxHeartbeats 6400000 in
set_option maxRecDepth 100000 in
theorem implSolveFlows_any (J : Int) (M : Option Addr) (m d : Nat) (xs : List Awy) (A1 : Option Addr) (n1 c1 : Nat) (rs : List Int) (A2 : Option Addr) (n2 c2 : Nat) (fn : List Fan) (A3 : Option Addr) (n3 c3 : Nat) (ds : List Int) (A4 : Option Addr) (n4 c4 : Nat) (fs : List Int) (tol R : Int) (w : World) (hm : Reads w w.heap.size 7 M m (Awy.recs xs)) (hmn : m ≤ 1048576) (hxs : ∀ x ∈ xs, x.s.size ≤ maxLen) (hr1 : Reads w w.heap.size 1 A1 n1 (ints rs)) (hn1 : n1 ≤ 1048576) (hr2 : FSS w w.heap.size A2 n2 fn) (hn2 : n2 ≤ 1048576) (hx2 : ∀ x ∈ fn, x.ok) (hr3 : Reads w w.heap.size 1 A3 n3 (ints ds)) (hn3 : n3 ≤ 1048576) (hr4 : Reads w w.heap.size 1 A4 n4 (ints fs)) (hn4 : n4 ≤ 1048576) :
    Calls Tryz.prog 10 #[.agg #[.int .i64 J, .slice M m d], .slice A1 n1 c1, .slice A2 n2 c2, .slice A3 n3 c3, .slice A4 n4 c4, .int .i64 tol, .int .i64 R] w fun e w' => ∃ A' n' c', e = .returned (.tuple #[.slice A' n' c', .int .i64 (solR J xs (fdat fn) rs ds fs tol R).2.1, .int .i64 (solR J xs (fdat fn) rs ds fs tol R).2.2]) ∧ w'.ownsRow w.heap.size 2 1 (.slice A' n' c') n' (ints (solR J xs (fdat fn) rs ds fs tol R).1) ∧ n' ≤ 1048576 ∧ Below w.heap.size w w' := by
  have HLm := Lib.hid (recs_rlen Awy.clen (by omega) hm)
  have hb : Below w.heap.size w (w.alloc (.cells #[.int .i64 J, .slice M m d] 33)) := (Below.refl _ _).alloc (Nat.le_refl _) _
  have g0 : (w.alloc (.cells #[.int .i64 J, .slice M m d] 33)).cell? ⟨w.heap.size, 0, none⟩ = some (.int .i64 J) := ((Blk.new w _ _).cell 0).trans rfl
  have g1 : (w.alloc (.cells #[.int .i64 J, .slice M m d] 33)).cell? ⟨w.heap.size, 1, none⟩ = some (.slice M m d) := ((Blk.new w _ _).cell 1).trans rfl
  have z0 : w.heap.size < (w.alloc (.cells #[.int .i64 J, .slice M m d] 33)).heap.size := by simp
  have HW := Lib.hid (fun W (hb : Below w.heap.size w W) => (hm.below hb).more hb.size)
  have HR1 := Lib.hid (fun W (hb : Below w.heap.size w W) => (hr1.below hb).more hb.size)
  have HR2 := Lib.hid (fun W (hb : Below w.heap.size w W) => (hr2.below hb).more hb.size)
  have HR3 := Lib.hid (fun W (hb : Below w.heap.size w W) => (hr3.below hb).more hb.size)
  have HR4 := Lib.hid (fun W (hb : Below w.heap.size w W) => (hr4.below hb).more hb.size)
  have HX2 := Lib.hid hx2
  have HL1 := Lib.hid (ints_len hr1)
  have HL3 := Lib.hid (ints_len hr3)
  have HL4 := Lib.hid (ints_len hr4)
  have cc := implValidMine_any J M m d xs (w.alloc (.cells #[.int .i64 J, .slice M m d] 33)) (HW.out _ hb) hmn hxs
  go_enter Tryz.func10, Tryz.ntmps10
  rcases Bool.eq_false_or_eq_true (mineOk J xs) with k1 | k1
  · skip
    rw [k1] at cc
    have HC := Lib.hid cc
    have K1 := Lib.hid k1
    have hm24 : m ≤ 24 := by have := (mineOk_t k1).2.1; rw [HLm.out] at this; exact this
    clear cc k1
    go_wp2_with fail; ((with_reducible refine HC.out.mono ?_); rintro e w1 ⟨rfl, hbw1⟩)
    have Bw1 := hb.trans (hbw1.mono hb.size)
    have p0 := (hbw1.cell (p := ⟨w.heap.size, 0, none⟩) z0).trans g0
    have p1 := (hbw1.cell (p := ⟨w.heap.size, 1, none⟩) z0).trans g1
    have zw1 := Nat.lt_of_lt_of_le z0 hbw1.size
    have cc := implValidFans_any A2 n2 c2 fn w1 (HR2.out _ Bw1) hn2 HX2.out
    rcases Bool.eq_false_or_eq_true (fansOk (fdat fn)) with k2 | k2
    · skip
      rw [k2] at cc
      have HC := Lib.hid cc
      have K2 := Lib.hid k2
      clear cc k2
      go_wp2_with fail; ((with_reducible refine HC.out.mono ?_); rintro e w2 ⟨rfl, hbw2⟩)
      have Bw2 := Bw1.trans (hbw2.mono Bw1.size)
      have p0 := (hbw2.cell (p := ⟨w.heap.size, 0, none⟩) zw1).trans p0
      have p1 := (hbw2.cell (p := ⟨w.heap.size, 1, none⟩) zw1).trans p1
      have zw2 := Nat.lt_of_lt_of_le zw1 hbw2.size
      have cc := within_any tol 0 100000 w2
      rcases Bool.eq_false_or_eq_true (inB tol 0 100000) with k3 | k3
      · skip
        rw [k3] at cc
        have HC := Lib.hid cc
        have K3 := Lib.hid k3
        clear cc k3
        go_wp2_with fail; ((with_reducible refine HC.out.mono ?_); rintro e w' ⟨rfl, rfl⟩)
        have cc := within_any R 0 500 w2
        rcases Bool.eq_false_or_eq_true (inB R 0 500) with k4 | k4
        · skip
          rw [k4] at cc
          have HC := Lib.hid cc
          have K4 := Lib.hid k4
          clear cc k4
          go_wp2_with fail; ((with_reducible refine HC.out.mono ?_); rintro e w' ⟨rfl, rfl⟩)
          have cc := hasSystem_any J M m d A1 n1 c1 rs A3 n3 c3 ds A4 n4 c4 fs w2 (HR1.out _ Bw2) hn1 (HR3.out _ Bw2) hn3 (HR4.out _ Bw2) hn4
          rcases Bool.eq_false_or_eq_true (sysOk m rs ds fs) with k5 | k5
          · skip
            rw [k5] at cc
            have HC := Lib.hid cc
            have K5 := Lib.hid k5
            obtain ⟨s1, s2, s3⟩ := sysOk_t k5
            have S1 := Lib.hid s1
            have S2 := Lib.hid s2
            have S3 := Lib.hid s3
            clear s1 s2 s3
            clear cc k5
            go_wp2_with fail; ((with_reducible refine HC.out.mono ?_); rintro e w5 ⟨rfl, hbw5⟩)
            have Bw5 := Bw2.trans (hbw5.mono Bw2.size)
            have p0 := (hbw5.cell (p := ⟨w.heap.size, 0, none⟩) zw2).trans p0
            have p1 := (hbw5.cell (p := ⟨w.heap.size, 1, none⟩) zw2).trans p1
            have zw5 := Nat.lt_of_lt_of_le zw2 hbw5.size
            have cc := hasFans_any J M m d A2 n2 c2 fn w5 (HR2.out _ Bw5) hn2 hmn
            rcases Bool.eq_false_or_eq_true (fansIn m (fdat fn)) with k6 | k6
            · skip
              rw [k6] at cc
              have HC := Lib.hid cc
              have K6 := Lib.hid k6
              clear cc k6
              go_wp2_with fail; ((with_reducible refine HC.out.mono ?_); rintro e w6 ⟨rfl, hbw6⟩)
              have Bw6 := Bw5.trans (hbw6.mono Bw5.size)
              have p0 := (hbw6.cell (p := ⟨w.heap.size, 0, none⟩) zw5).trans p0
              have p1 := (hbw6.cell (p := ⟨w.heap.size, 1, none⟩) zw5).trans p1
              have zw6 := Nat.lt_of_lt_of_le zw5 hbw6.size
              have cc := balanced_any J M m d xs A4 n4 c4 fs w6 (HW.out _ Bw6) (HR4.out _ Bw6) K1.out (by rw [HLm.out]; exact S3.out)
              rcases Bool.eq_false_or_eq_true (balOk J xs fs) with k7 | k7
              · skip
                rw [k7] at cc
                have HC := Lib.hid cc
                have K7 := Lib.hid k7
                clear cc k7
                go_wp2_with fail; ((with_reducible refine HC.out.mono ?_); rintro e w7 ⟨rfl, hbw7⟩)
                have Bw7 := Bw6.trans (hbw7.mono Bw6.size)
                have p0 := (hbw7.cell (p := ⟨w.heap.size, 0, none⟩) zw6).trans p0
                have p1 := (hbw7.cell (p := ⟨w.heap.size, 1, none⟩) zw6).trans p1
                have zw7 := Nat.lt_of_lt_of_le zw6 hbw7.size
                have HV := Lib.hid (solR_0 (rs := rs) (ds := ds) (tol := tol) (R := R) K1.out K2.out K3.out K4.out (by rw [HLm.out]; exact K6.out) (by rw [HLm.out]; exact K5.out) K7.out)
                obtain rfl : n1 = m := by have h1 := (lstOk_t S1.out).1; have h2 := HL1.out; omega
                obtain rfl : n3 = n1 := by have h1 := (lstOk_t S2.out).1; have h2 := HL3.out; omega
                obtain rfl : n4 = n3 := by have h1 := (lstOk_t S3.out).1; have h2 := HL4.out; omega
                rw [HLm.out] at HV
                have HRR := Lib.hid (inB_t K4.out)
                obtain ⟨N, rfl⟩ : ∃ N : Nat, R = N := ⟨R.toNat, by have := HRR.out; omega⟩
                rw [Int.toNat_natCast] at HV
                have hN5 : N ≤ 500 := by have := HRR.out; omega
                have HLk : Hid ((fdat fn).length = n2) := show _ = _ by rw [fdat_len]; exact (HR2.out _ Bw7).len
                have hn28 : n2 ≤ 8 := by have := (fansOk_t K2.out).1; rw [HLk.out] at this; exact this
                have HDB := Lib.hid (lstOk_t S2.out).2
                have HMO := Lib.hid (meshL_ok K1.out)
                have HML := Lib.hid (meshL_len K1.out)
                have HSY : Hid (∀ f, lstOk n4 (-100000) 100000 f = true → ∀ s ∈ meshL J xs, SysB rs (puTo (fdat fn) ds f n2) f s n4 ∧ s.length ≤ 20) := fun f hf s h => by
                  have h1 := meshL_ok K1.out s h
                  have h2 := sol_sys S1.out S2.out K2.out hf (s := s) (by have := h1.2.2; rw [HLm.out] at this; exact this)
                  rw [HLk.out] at h2
                  exact ⟨h2, by omega⟩
                have HCL : Hid (∀ W : World, Below w7.heap.size w7 W → Calls Tryz.prog 37 #[.slice A4 n4 c4] W fun e w' => ∃ A' c', e = .returned (.slice A' n4 c') ∧ w'.ownsRow W.heap.size 2 1 (.slice A' n4 c') n4 (ints fs) ∧ Below W.heap.size W w') := fun W hW => clone_any A4 n4 c4 fs W (HR4.out _ (Bw7.trans (hW.mono Bw7.size))) hn4
                have HMH : Hid (∀ W : World, Below w7.heap.size w7 W → Calls Tryz.prog 38 #[.agg #[.int .i64 J, .slice M n4 d]] W (MshRet J xs W)) := fun W hW => meshes_any J M n4 d xs W (HW.out _ (Bw7.trans (hW.mono Bw7.size))) K1.out
                have HR1 := Lib.hid (fun W (hb : Below w7.heap.size w7 W) => HR1.out W (Bw7.trans (hb.mono Bw7.size)))
                have HR2 := Lib.hid (fun W (hb : Below w7.heap.size w7 W) => HR2.out W (Bw7.trans (hb.mono Bw7.size)))
                have HR3 := Lib.hid (fun W (hb : Below w7.heap.size w7 W) => HR3.out W (Bw7.trans (hb.mono Bw7.size)))
                have p0_3 := p0
                have p1_3 := p1
                have HP0 := Lib.hid (fun W (hb : Below w7.heap.size w7 W) => (hb.cell (p := ⟨w.heap.size, 0, none⟩) zw7).trans p0_3)
                have HP1 := Lib.hid (fun W (hb : Below w7.heap.size w7 W) => (hb.cell (p := ⟨w.heap.size, 1, none⟩) zw7).trans p1_3)
                go_upto_region 9 with (fail)
                go_cut [17, 18] from 61 (fun s17 s18 w' => SolCut (meshL J xs) fs n4 w7 s17 s18 w')
                case first =>
                  go_region_with (first
                    | (go_at_call 37; refine (HCL.out _ (by first | exact (Below.refl _ _).drew | exact ((Below.refl _ _).drew).trans hbm)).mono ?_; rintro e wc ⟨A5, c5, rfl, ho5, hbc⟩; have p0c := (hbc.cell (p := ⟨w.heap.size, 0, none⟩) zw7).trans p0; have p1c := (hbc.cell (p := ⟨w.heap.size, 1, none⟩) zw7).trans p1)
                    | (go_at_call 38; refine (HMH.out _ (by first | exact (Below.refl _ _).drew | exact ((Below.refl _ _).drew).trans hbc)).mono ?_; rintro e wm ⟨A6, n6, c6, rw6, rfl, hos, hda, hbm⟩; have HOS := Lib.hid hos; have HDA := Lib.hid hda; clear hos hda))
                  all_goals (go_wp2_with fail; go_meet; exact ⟨A5, c5, A6, n6, c6, rw6, rfl, rfl, (((Below.refl _ _).drew).trans hbc).trans (hbm.mono hbc.size), ⟨HOS.out.base hbc.size, HDA.out⟩, own_below ho5 hbm, fun k h1 h2 => by have h3 := (HOS.out.out.lt k h1).1; have h4 := (ho5.lt k h2).2; omega, fun r hr k h1 h2 => by have h3 := ((HOS.out.row r hr).lt k h1).1; have h4 := (ho5.lt k h2).2; omega⟩)
                case rest =>
                  obtain ⟨A5, c5, A6, n6, c6, rws, rfl, rfl, hsw⟩ := hcut
                  obtain ⟨wq, rfl⟩ : ∃ wq : World, wq = wc := ⟨_, rfl⟩
                  have HSW := Lib.hid hsw
                  have p0 := HP0.out _ hsw.bel
                  have p1 := HP1.out _ hsw.bel
                  clear hsw
                  have HN6 := Lib.hid HSW.out.mms.len
                  have hn6 : n6 ≤ 24 := by rw [← HN6.out]; exact HML.out
                  go_wp2
                  go_loopw [19, 20] (fun i _ wr => ∃ (k : Nat) (f : List Int), k ≤ N ∧ i = .int .i64 k ∧ Hid (SolW w7 wr A5 n4 c5 f A6 n6 c6 (meshL J xs) rws) ∧ Hid (lstOk n4 (-100000) 100000 f = true) ∧ Hid (solN (fdat fn) rs ds (meshL J xs) n4 tol (N - k) f = solN (fdat fn) rs ds (meshL J xs) n4 tol N fs)) (fun i _ _ => N - (intOf i).toNat)
                  case atStart => exact ⟨0, fs, by omega, rfl, HSW, S3, rfl⟩
                  case round =>
                    obtain ⟨k, f, hk, rfl, HS, HF, HE⟩ := hrel
                    obtain ⟨wo, rfl⟩ : ∃ wo : World, wo = wr := ⟨_, rfl⟩
                    have Bo := HS.out.bel
                    have HSYf := Lib.hid (HSY.out f HF.out)
                    have cP := pushesOf_any A2 n2 c2 fn A3 n4 c3 ds A5 c5 f wo (HR2.out _ Bo) K2.out K6.out (HR3.out _ Bo) (Reads.of_own HS.out.own) (by omega) HDB.out (lstOk_t HF.out).2
                    have HLF : Hid (f.length = n4) := show _ = _ by have := (lstOk_t HF.out).1; omega
                    have HWV : Hid (worT (errsL rs (puTo (fdat fn) ds f n2) f (meshL J xs)) n6 = wrsF (fdat fn) rs ds (meshL J xs) f) := show _ = _ by unfold wrsF; rw [HLk.out, HN6.out]
                    have HVY := Lib.hid (fun h => solN_y (ks := fdat fn) (rs := rs) (ds := ds) (ms := meshL J xs) (f := f) (m := n4) (tol := tol) (r := N - k) h)
                    have HV0 := Lib.hid (fun h => solN_0 (ks := fdat fn) (rs := rs) (ds := ds) (ms := meshL J xs) (f := f) (m := n4) (tol := tol) h)
                    have HVN := Lib.hid (fun h h1 => solN_n (ks := fdat fn) (rs := rs) (ds := ds) (ms := meshL J xs) (f := f) (m := n4) (tol := tol) (r := N - k - 1) h h1)
                    have HVS := Lib.hid (fun g h h1 => solN_s (ks := fdat fn) (rs := rs) (ds := ds) (ms := meshL J xs) (f := f) (g := g) (m := n4) (tol := tol) (r := N - k - 1) h h1)
                    generalize hWV : wrsF (fdat fn) rs ds (meshL J xs) f = wv at HWV HVY HV0 HVN HVS
                    clear hWV
                    go_wp2_with fail; ((with_reducible refine cP.mono ?_); rintro e w3 ⟨A7, c7, rfl, ho7, hb3⟩)
                    have HS3 := Lib.hid (HS.out.below hb3)
                    have B3 := HS3.out.bel
                    have cE := meshErrors_any A6 n6 c6 rws A1 n4 c1 rs A7 c7 (puTo (fdat fn) ds f n2) A5 c5 f w3 HS3.out.mms.oss.reads (HR1.out _ B3) (Reads.of_own ho7) (Reads.of_own HS3.out.own) (by rw [HS3.out.mms.dat]; exact HSYf.out) (by omega) (by omega)
                    rw [HS3.out.mms.dat] at cE
                    clear cP ho7 hb3 Bo
                    go_wp2_with fail; ((with_reducible refine cE.mono ?_); rintro e w4 ⟨A8, c8, rfl, ho8, hb4⟩)
                    have HS4 := Lib.hid (HS3.out.below hb4)
                    have HRE := Lib.hid (Reads.of_own ho8)
                    have HEB := Lib.hid (errs_bnd HSYf.out HL1.out (by rw [puTo_len]; exact HL3.out) HLF.out)
                    clear cE ho8 hb4 B3
                    generalize errsL rs (puTo (fdat fn) ds f n2) f (meshL J xs) = es at *
                    go_wp2
                    go_loop [20, 76] (fun s i => ∃ q : Nat, q ≤ n6 ∧ i = .int .i64 q ∧ s = .int .i64 (worT es q)) (fun _ i => n6 - (intOf i).toNat)
                    case atStart => exact ⟨0, by omega, rfl, rfl⟩
                    case round =>
                      obtain ⟨q, hq, rfl, rfl⟩ := hrel
                      by_cases hlt : q < n6
                      · obtain ⟨ad, u, rfl, had, hx, hc⟩ := HRE.out.at_ hlt
                        obtain ⟨b, hbx, rfl⟩ := ints_at hx
                        have HX := Lib.hid (worT_s hbx)
                        obtain ⟨t3, t4⟩ := HEB.out b (mem_of_at hbx)
                        have cA := abs_any b w4 (by omega) (by omega)
                        generalize worT es q = wk at *
                        generalize absI b = ab at *
                        have HCA := Lib.hid cA
                        have hqI : (q : Int) < (n6 : Int) := by omega
                        clear hbx hx cA
                        go_wp2_with fail; ((with_reducible refine HCA.out.mono ?_); rintro e w' ⟨rfl, rfl⟩)
                        go_wp2
                        go_round
                        case rel => exact ⟨q + 1, by omega, by go_num, by rw [HX.out]; first | rfl | go_num⟩
                        case measure => simp [intOf]; omega
                      · have e : q = n6 := by omega
                        have HWV2 : Hid (worT es q = wv) := show _ = _ by rw [e]; exact HWV.out
                        clear e
                        rw [HWV2.out]
                        have p0w := HP0.out _ HS4.out.bel
                        have p1w := HP1.out _ HS4.out.bel
                        by_cases h1 : wv ≤ tol
                        · have HVV := Lib.hid (HV.out.trans (HE.out.symm.trans (HVY.out h1)))
                          go_wp2
                          go_ret3
                          rw [HVV.out]
                          exact ⟨A5, n4, c5, rfl, own_base HS4.out.own Bw7.size, by omega, Bw7.trans (HS4.out.bel.mono Bw7.size)⟩
                        · have hd1 : decide (wv ≤ tol) = false := decide_eq_false h1
                          by_cases h2 : k = N
                          · have HV5 : Hid (solN (fdat fn) rs ds (meshL J xs) n4 tol N fs = ([], wv, 5)) := HE.out.symm.trans (by rw [h2, Nat.sub_self]; exact HV0.out (by first | exact h1 | omega))
                            have HVV := Lib.hid (HV.out.trans HV5.out)
                            have h3 : (k : Int) = (N : Int) := by omega
                            clear h2
                            go_wp2
                            go_ret3
                            rw [HVV.out]
                            exact ⟨none, 0, 0, rfl, own_nil _ _ _ _, by omega, Bw7.trans (HS4.out.bel.mono Bw7.size)⟩
                          · have h3 : ¬ (k : Int) = (N : Int) := by omega
                            have hd3 : decide ((k : Int) = (N : Int)) = false := decide_eq_false h3
                            have hd4 : ((k : Int) == (N : Int)) = false := by simpa using h3
                            have hNk : N - k - 1 + 1 = N - k := by omega
                            have HVN2 := Lib.hid (HVN.out (by first | exact h1 | omega))
                            have HVS2 := Lib.hid (fun g => HVS.out g (by first | exact h1 | omega))
                            rw [hNk] at HVN2 HVS2
                            clear h2 hNk
                            go_wp2
                            go_loopw [98] (fun i wq => ∃ (j : Nat) (g : List Int), j ≤ n6 ∧ i = .int .i64 j ∧ Hid (SolW w7 wq A5 n4 c5 g A6 n6 c6 (meshL J xs) rws) ∧ Hid (lstOk n4 (-100000) 100000 g = true) ∧ Hid (swpT (fdat fn) rs ds (meshL J xs) n4 f j = some g)) (fun i _ => n6 - (intOf i).toNat)
                            case atStart => exact ⟨0, f, by omega, rfl, HS4, HF, rfl⟩
                            case round =>
                              obtain ⟨j, g, hj, rfl, HT, HG, HP⟩ := hrel
                              obtain ⟨wi, rfl⟩ : ∃ wi : World, wi = wr := ⟨_, rfl⟩
                              by_cases hlt : j < n6
                              · obtain ⟨ad, r, rfl, hms, hrl, hc, hrr, hap⟩ := HT.out.row_at hlt
                                have hmem := List.mem_of_getElem? hms
                                have hmo := HMO.out r.xs hmem
                                have hsy := (HSY.out g HG.out r.xs hmem).1
                                have hq1 : 1 ≤ r.n := by rw [hrl]; exact List.length_pos_iff.2 hmo.2.1
                                have hq2 : r.n ≤ 18 := by rw [hrl]; exact hmo.1
                                have hwk : ∀ x ∈ r.xs, wkB n4 x = true := hsy.2.2.2
                                have hn0 : 0 < n4 := by
                                  obtain ⟨x, hx⟩ := List.exists_mem_of_ne_nil _ hmo.2.1
                                  have := wkI_lt (hwk x hx); omega
                                obtain ⟨gb, rfl, _⟩ := own_upd HT.out.own hn0 0
                                have hsb : -10000 ≤ stR rs (puTo (fdat fn) ds g n2) g r.xs r.xs.length ∧ stR rs (puTo (fdat fn) ds g n2) g r.xs r.xs.length ≤ 10000 := stC_bnd (erT rs (puTo (fdat fn) ds g n2) g r.xs r.xs.length) (slT rs g r.xs r.xs.length) (alT rs r.xs r.xs.length)
                                have HGB := Lib.hid (lstOk_t HG.out).2
                                have HPU : Hid (Calls Tryz.prog 40 #[.slice A2 n2 c2, .slice A3 n4 c3, .slice (some ⟨gb, 0, none⟩) n4 c5] wi fun e w' => ∃ A' c', e = .returned (.slice A' n4 c') ∧ w'.ownsRow wi.heap.size 2 1 (.slice A' n4 c') n4 (ints (puTo (fdat fn) ds g n2)) ∧ Below wi.heap.size wi w') := pushesOf_any A2 n2 c2 fn A3 n4 c3 ds _ c5 g wi (HR2.out _ HT.out.bel) K2.out K6.out (HR3.out _ HT.out.bel) (Reads.of_own HT.out.own) (by omega) HDB.out HGB.out
                                have HST : Hid (∀ (W : World) (A9 : Option Addr) (c9 : Nat), Below wi.heap.size wi W → Reads W W.heap.size 1 A9 n4 (ints (puTo (fdat fn) ds g n2)) → Calls Tryz.prog 43 #[.slice r.A r.n r.c, .slice A1 n4 c1, .slice A9 n4 c9, .slice (some ⟨gb, 0, none⟩) n4 c5] W fun e w' => e = .returned (.int .i64 (stR rs (puTo (fdat fn) ds g n2) g r.xs r.xs.length)) ∧ Below W.heap.size W w') := fun W A9 c9 hW h9 => by
                                  have T := HT.out.below hW
                                  have h := stepOf_any r.A r.n r.c r.xs A1 n4 c1 rs A9 c9 _ (some ⟨gb, 0, none⟩) c5 g W (HR1.out _ T.bel) h9 (Reads.of_own T.own) ((hrr.below hW).more hW.size) hsy (by omega) (by omega) hq1
                                  rw [hrl] at h; rw [hrl]; exact h
                                have HAD : Hid (∀ W : World, Below wi.heap.size wi W → Calls Tryz.prog 42 #[.slice (some ⟨gb, 0, none⟩) n4 c5, .slice r.A r.n r.c, .int .i64 (stR rs (puTo (fdat fn) ds g n2) g r.xs r.xs.length)] W fun e w' => e = .returned (.tuple #[]) ∧ SolW w7 w' (some ⟨gb, 0, none⟩) n4 c5 (oneF (fdat fn) rs ds g r.xs) (some ad) n6 c6 (meshL J xs) rws) := fun W hW => by
                                  have T := HT.out.below hW
                                  have h := addAlong_any w7.heap.size gb n4 c5 g r.A r.n r.c r.xs (stR rs (puTo (fdat fn) ds g n2) g r.xs r.xs.length) 100000 W T.own ((hrr.below hW).more hW.size) (by omega) (fun a ha => hap a _ ha rfl) hwk (by omega) (by omega) (by omega) HGB.out (by omega) (by omega)
                                  refine h.mono ?_
                                  rintro e w' ⟨e1, e2, e3⟩
                                  refine ⟨e1, T.grown e3 ?_⟩
                                  have hO : oneF (fdat fn) rs ds g r.xs = addL g r.xs (stR rs (puTo (fdat fn) ds g n2) g r.xs r.xs.length) r.n := by unfold oneF corF; rw [HLk.out, hrl]
                                  rw [hO]; exact e2
                                have HFL : Hid (∀ W f', SolW w7 W (some ⟨gb, 0, none⟩) n4 c5 f' (some ad) n6 c6 (meshL J xs) rws → Calls Tryz.prog 44 #[.agg #[.int .i64 J, .slice M n4 d], .slice (some ⟨gb, 0, none⟩) n4 c5] W fun e w' => e = .returned (.bool (lstOk n4 (-100000) 100000 f')) ∧ Below W.heap.size W w') := fun W f' h => hasFlows_any J M n4 d _ n4 c5 f' W (Reads.of_own h.own) (by omega)
                                have HPY := Lib.hid (fun h => swpT_y HP.out hms h)
                                have HPN := Lib.hid (fun h => swpT_n HP.out hms h)
                                have hkI : (j : Int) < (n6 : Int) := by omega
                                generalize stR rs (puTo (fdat fn) ds g n2) g r.xs r.xs.length = st at *
                                generalize oneF (fdat fn) rs ds g r.xs = g2 at *
                                clear hms hmem hmo hsy hwk hrr hap hsb hn0 hq1 hq2 hrl
                                go_wp2_with fail; ((with_reducible refine HPU.out.mono ?_); rintro e w5 ⟨A9, c9, rfl, ho9, hb5⟩)
                                go_wp2_with fail; ((with_reducible refine (HST.out _ _ _ hb5 (Reads.of_own ho9)).mono ?_); rintro e w6 ⟨rfl, hb6⟩)
                                go_wp2_with fail; ((with_reducible refine (HAD.out _ (hb5.trans (hb6.mono hb5.size))).mono ?_); rintro e w7 ⟨rfl, hs7⟩)
                                have HS7 := Lib.hid hs7
                                have p0y := HP0.out _ hs7.bel
                                have p1y := HP1.out _ hs7.bel
                                clear hs7 hb5 hb6 ho9
                                have cf := HFL.out _ _ HS7.out
                                rcases Bool.eq_false_or_eq_true (lstOk n4 (-100000) 100000 g2) with k8 | k8
                                · have HP2 := Lib.hid (HPY.out k8)
                                  have K8 := Lib.hid k8
                                  rw [k8] at cf
                                  clear k8
                                  go_wp2_with fail; ((with_reducible refine cf.mono ?_); rintro e w8 ⟨rfl, hb8⟩)
                                  have HS8 := Lib.hid (HS7.out.below hb8)
                                  clear hb8
                                  go_wp2
                                  go_roundw
                                  case rel => exact ⟨j + 1, g2, by omega, by go_num, HS8, K8, HP2⟩
                                  case measure => simp [intOf]; omega
                                · have HVV := Lib.hid (HV.out.trans (HE.out.symm.trans (HVN2.out (swpT_no (HPN.out k8) _ (by rw [HN6.out]; omega)))))
                                  rw [k8] at cf
                                  clear k8
                                  go_wp2_with fail; ((with_reducible refine cf.mono ?_); rintro e w8 ⟨rfl, hb8⟩)
                                  have HS8 := Lib.hid (HS7.out.below hb8)
                                  clear hb8
                                  go_wp2
                                  go_ret3
                                  rw [HVV.out]
                                  exact ⟨none, 0, 0, rfl, own_nil _ _ _ _, by omega, Bw7.trans (HS8.out.bel.mono Bw7.size)⟩
                              · have e : j = n6 := by omega
                                have HVX := Lib.hid (HE.out.symm.trans (HVS2.out g (by rw [HN6.out, ← e]; exact HP.out)))
                                have hk2 : k + 1 ≤ N := by omega
                                have HV2 : Hid (solN (fdat fn) rs ds (meshL J xs) n4 tol (N - (k + 1)) g = solN (fdat fn) rs ds (meshL J xs) n4 tol N fs) := show _ = _ by rw [HVX.out, Nat.sub_sub]
                                clear e HVX
                                go_wp2
                                go_roundw
                                case rel => exact ⟨k + 1, g, hk2, by go_num, HT, HG, HV2⟩
                                case measure => simp [intOf]; omega
              · skip
                rw [k7] at cc
                have HC := Lib.hid cc
                have HV : Hid (solR J xs (fdat fn) rs ds fs tol R = ([], 0, 6)) := solR_6 K1.out K2.out K3.out K4.out (by rw [HLm.out]; exact K6.out) (by rw [HLm.out]; exact K5.out) k7
                clear cc k7
                go_wp2_with fail; ((with_reducible refine HC.out.mono ?_); rintro e w7 ⟨rfl, hbw7⟩)
                have Bw7 := Bw6.trans (hbw7.mono Bw6.size)
                have p0 := (hbw7.cell (p := ⟨w.heap.size, 0, none⟩) zw6).trans p0
                have p1 := (hbw7.cell (p := ⟨w.heap.size, 1, none⟩) zw6).trans p1
                have zw7 := Nat.lt_of_lt_of_le zw6 hbw7.size
                go_wp2
                go_ret3
                rw [HV.out]
                exact ⟨none, 0, 0, rfl, own_nil _ _ _ _, by omega, Bw7⟩
            · skip
              rw [k6] at cc
              have HC := Lib.hid cc
              have HV : Hid (solR J xs (fdat fn) rs ds fs tol R = ([], 0, 7)) := solR_7 (R := R) (tol := tol) K1.out K2.out K3.out K4.out (by rw [HLm.out]; rw [k6]; simp)
              clear cc k6
              go_wp2_with fail; ((with_reducible refine HC.out.mono ?_); rintro e w6 ⟨rfl, hbw6⟩)
              have Bw6 := Bw5.trans (hbw6.mono Bw5.size)
              have p0 := (hbw6.cell (p := ⟨w.heap.size, 0, none⟩) zw5).trans p0
              have p1 := (hbw6.cell (p := ⟨w.heap.size, 1, none⟩) zw5).trans p1
              have zw6 := Nat.lt_of_lt_of_le zw5 hbw6.size
              go_wp2
              go_ret3
              rw [HV.out]
              exact ⟨none, 0, 0, rfl, own_nil _ _ _ _, by omega, Bw6⟩
          · skip
            rw [k5] at cc
            have HC := Lib.hid cc
            have HV : Hid (solR J xs (fdat fn) rs ds fs tol R = ([], 0, 7)) := solR_7 (R := R) (tol := tol) K1.out K2.out K3.out K4.out (by rw [HLm.out]; rw [k5]; simp)
            clear cc k5
            go_wp2_with fail; ((with_reducible refine HC.out.mono ?_); rintro e w5 ⟨rfl, hbw5⟩)
            have Bw5 := Bw2.trans (hbw5.mono Bw2.size)
            have p0 := (hbw5.cell (p := ⟨w.heap.size, 0, none⟩) zw2).trans p0
            have p1 := (hbw5.cell (p := ⟨w.heap.size, 1, none⟩) zw2).trans p1
            have zw5 := Nat.lt_of_lt_of_le zw2 hbw5.size
            go_wp2
            go_ret3
            rw [HV.out]
            exact ⟨none, 0, 0, rfl, own_nil _ _ _ _, by omega, Bw5⟩
        · skip
          rw [k4] at cc
          have HC := Lib.hid cc
          have HV : Hid (solR J xs (fdat fn) rs ds fs tol R = ([], 0, 2)) := solR_2b K1.out K2.out k4
          clear cc k4
          go_wp2_with fail; ((with_reducible refine HC.out.mono ?_); rintro e w' ⟨rfl, rfl⟩)
          go_wp2
          go_ret3
          rw [HV.out]
          exact ⟨none, 0, 0, rfl, own_nil _ _ _ _, by omega, Bw2⟩
      · skip
        rw [k3] at cc
        have HC := Lib.hid cc
        have HV : Hid (solR J xs (fdat fn) rs ds fs tol R = ([], 0, 2)) := solR_2a K1.out K2.out k3
        clear cc k3
        go_wp2_with fail; ((with_reducible refine HC.out.mono ?_); rintro e w' ⟨rfl, rfl⟩)
        go_wp2
        go_ret3
        rw [HV.out]
        exact ⟨none, 0, 0, rfl, own_nil _ _ _ _, by omega, Bw2⟩
    · skip
      rw [k2] at cc
      have HC := Lib.hid cc
      have HV : Hid (solR J xs (fdat fn) rs ds fs tol R = ([], 0, 1)) := solR_1b k2
      clear cc k2
      go_wp2_with fail; ((with_reducible refine HC.out.mono ?_); rintro e w2 ⟨rfl, hbw2⟩)
      have Bw2 := Bw1.trans (hbw2.mono Bw1.size)
      have p0 := (hbw2.cell (p := ⟨w.heap.size, 0, none⟩) zw1).trans p0
      have p1 := (hbw2.cell (p := ⟨w.heap.size, 1, none⟩) zw1).trans p1
      have zw2 := Nat.lt_of_lt_of_le zw1 hbw2.size
      go_wp2
      go_ret3
      rw [HV.out]
      exact ⟨none, 0, 0, rfl, own_nil _ _ _ _, by omega, Bw2⟩
  · skip
    rw [k1] at cc
    have HC := Lib.hid cc
    have HV : Hid (solR J xs (fdat fn) rs ds fs tol R = ([], 0, 1)) := solR_1a k1
    clear cc k1
    go_wp2_with fail; ((with_reducible refine HC.out.mono ?_); rintro e w1 ⟨rfl, hbw1⟩)
    have Bw1 := hb.trans (hbw1.mono hb.size)
    have p0 := (hbw1.cell (p := ⟨w.heap.size, 0, none⟩) z0).trans g0
    have p1 := (hbw1.cell (p := ⟨w.heap.size, 1, none⟩) z0).trans g1
    have zw1 := Nat.lt_of_lt_of_le z0 hbw1.size
    go_wp2
    go_ret3
    rw [HV.out]
    exact ⟨none, 0, 0, rfl, own_nil _ _ _ _, by omega, Bw1⟩
end Go.Proofs.YtjmhhbjbmgpagaaGreat
