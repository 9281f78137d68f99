/- Contracts of walks: their numbers, their ends, sums along them. -/
import Derived.Test.YtjmhhbjbmgpagaaDrt
namespace Go.Proofs.Ytjmhhbjbmgpagaa
set_option linter.unusedVariables false
set_option linter.unusedSimpArgs false
open Go.RowKit
/-- A number of a walk through m airways. -/
def wkB (m : Nat) (x : Int) : Bool := !(x == 0) && inB x (-(m : Int)) m
theorem wkB_t {m : Nat} {x : Int} (h : wkB m x = true) : x ≠ 0 ∧ -(m : Int) ≤ x ∧ x ≤ m := by
  unfold wkB at h
  simp only [Bool.and_eq_true, Bool.not_eq_true', beq_eq_false_iff_ne] at h
  have := inB_t h.2
  exact ⟨h.1, this⟩
theorem wkB_z {m : Nat} : wkB m 0 = false := rfl
theorem wkB_in {m : Nat} {x : Int} (h : x ≠ 0) : wkB m x = inB x (-(m : Int)) m := by
  unfold wkB; rw [show (x == 0) = false from beq_eq_false_iff_ne.2 h]; rfl
def wkI (x : Int) : Nat := (absI x - 1).toNat
def wkS (x : Int) : Int := if 0 < x then 1 else -1
theorem wkI_pos {x : Int} (h : 0 < x) : wkI x = (x - 1).toNat := by unfold wkI absI; omega
theorem wkI_neg {x : Int} (h : x < 0) : wkI x = (-x - 1).toNat := by unfold wkI absI; omega
theorem wkI_lt {m : Nat} {x : Int} (h : wkB m x = true) : wkI x < m := by
  have := wkB_t h
  unfold wkI absI; omega
theorem wkI_int {x : Int} (h : x ≠ 0) : (wkI x : Int) = absI x - 1 := by unfold wkI absI; omega
def alTo (ds ws : List Int) : Nat → Int
  | 0 => 0
  | k + 1 => alTo ds ws k + wkS (ws.getD k 0) * ds.getD (wkI (ws.getD k 0)) 0
theorem getD_at {xs : List Int} {k : Nat} {b : Int} (h : xs[k]? = some b) : xs.getD k 0 = b := by rw [List.getD_eq_getElem?_getD, h]; rfl
theorem alTo_pos {ds ws : List Int} {k : Nat} {x d : Int} (hx : ws[k]? = some x) (hd : ds[wkI x]? = some d) (h : 0 < x) : alTo ds ws (k + 1) = alTo ds ws k + d := by
  simp only [alTo]; rw [getD_at hx, getD_at hd]; unfold wkS; rw [if_pos h]; omega
theorem alTo_neg {ds ws : List Int} {k : Nat} {x d : Int} (hx : ws[k]? = some x) (hd : ds[wkI x]? = some d) (h : ¬ 0 < x) : alTo ds ws (k + 1) = alTo ds ws k - d := by
  simp only [alTo]; rw [getD_at hx, getD_at hd]; unfold wkS; rw [if_neg h]; omega
theorem alTo_bnd {ds ws : List Int} {D : Int} (h0 : 0 ≤ D) (h : ∀ d ∈ ds, -D ≤ d ∧ d ≤ D) : ∀ k : Nat, -(D * (k : Int)) ≤ alTo ds ws k ∧ alTo ds ws k ≤ D * (k : Int)
  | 0 => by simp [alTo]
  | k + 1 => by
    have h1 := alTo_bnd (ws := ws) h0 h k
    have h2 : -D ≤ ds.getD (wkI (ws.getD k 0)) 0 ∧ ds.getD (wkI (ws.getD k 0)) 0 ≤ D := by
      rw [List.getD_eq_getElem?_getD]
      cases e : ds[wkI (ws.getD k 0)]? with
      | none => simp; omega
      | some d => exact h d (List.mem_of_getElem? e)
    have h3 : D * ((k + 1 : Nat) : Int) = D * k + D := by rw [show ((k + 1 : Nat) : Int) = (k : Int) + 1 by omega, Int.mul_add, Int.mul_one]
    rw [h3]
    simp only [alTo]
    unfold wkS
    split
    · rw [Int.one_mul]; omega
    · rw [Int.neg_mul, Int.one_mul]; omega
theorem drTo_bnd {J : Int} {xs : List Awy} {ls ts : List Int} (hl : lstOk J (-3000) 3000 ls = true) (ht : lstOk xs.length (-300) 600 ts = true) : ∀ d ∈ drTo xs ls ts xs.length, -100000000000000 ≤ d ∧ d ≤ 100000000000000 := by
  intro d hd
  unfold drTo at hd
  obtain ⟨k, hk, rfl⟩ := List.mem_map.1 hd
  have hk := List.mem_range.1 hk
  unfold drAt
  rw [List.getElem?_eq_getElem hk]
  dsimp only
  obtain ⟨t, htt, t1, t2⟩ := lst_at ht (k := k) (by omega)
  have hb := (lstOk_t hl).2
  have key : ∀ i : Nat, -3000 ≤ ls.getD i 0 ∧ ls.getD i 0 ≤ 3000 := fun i => by
    rw [List.getD_eq_getElem?_getD]
    cases e : ls[i]? with
    | none => simp
    | some d => exact hb d (List.mem_of_getElem? e)
  rw [getD_at htt]
  have k1 := key xs[k].b.toNat
  have k2 := key xs[k].a.toNat
  unfold columnT
  have h2 := column_bnd (ls.getD xs[k].b.toNat 0 - ls.getD xs[k].a.toNat 0) t (decide_eq_true (by omega)) (decide_eq_true (by omega))
  exact dr_bnd (by omega) (by omega) h2.2
theorem airwayOf_any (x : Int) (w : World) (h0 : x ≠ 0) (h1 : -1000000000 ≤ x) (h2 : x ≤ 1000000000) :
    Calls Try.prog 99 #[.int .i64 x] w fun e w' => e = .returned (.tuple #[.int .i64 (wkI x), .int .i64 (wkS x)]) ∧ w = w' := by
  have HI := Lib.hid (wkI_int h0)
  by_cases h : 0 < x
  · have HS : Hid (wkS x = 1) := if_pos h
    go_enter Try.func99, Try.ntmps99
    go_wp2
    go_ret2
    exact ⟨ret_int2 (by rw [HI.out]; unfold absI; omega) HS.out.symm, rfl⟩
  · have HS : Hid (wkS x = -1) := if_neg h
    go_enter Try.func99, Try.ntmps99
    go_wp2
    go_ret2
    exact ⟨ret_int2 (by rw [HI.out]; unfold absI; omega) HS.out.symm, rfl⟩
set_option maxHeartbeats 800000 in
theorem l09Along_any (A : Option Addr) (n c : Nat) (ds : List Int) (B : Option Addr) (m d : Nat) (ws : List Int) (D : Int) (w : World) (hr : Reads w w.heap.size 1 A n (ints ds)) (hw : Reads w w.heap.size 1 B m (ints ws)) (hm : m ≤ 1000)
    (hD0 : 0 ≤ D) (hD1 : D ≤ 1000000000000000) (hD : ∀ x ∈ ds, -D ≤ x ∧ x ≤ D) (hws : ∀ x ∈ ws, wkB n x = true) (hn : n ≤ 1048576) :
    Calls Try.prog 39 #[.slice A n c, .slice B m d] w fun e w' => e = .returned (.int .i64 (alTo ds ws m)) ∧ w = w' := by
  have HL := Lib.hid (ints_len hr)
  have HW := Lib.hid hws
  have HD := Lib.hid hD
  clear hws hD
  go_enter Try.func39, Try.ntmps39
  go_wp2
  go_loop [5, 6] (fun s i => ∃ k : Nat, k ≤ m ∧ s = .int .i64 (alTo ds ws k) ∧ i = .int .i64 k) (fun _ i => m - (intOf i).toNat)
  case atStart => exact ⟨0, by omega, rfl, rfl⟩
  case round =>
    obtain ⟨k, hk, rfl, rfl⟩ := hrel
    by_cases hlt : k < m
    · obtain ⟨bd, u, rfl, hbd, hx, hc⟩ := hw.at_ hlt
      obtain ⟨x, hxk, rfl⟩ := ints_at hx
      have hxb := HW.out x (mem_of_at hxk)
      obtain ⟨x0, x1, x2⟩ := wkB_t hxb
      have hIl := wkI_lt hxb
      obtain ⟨ad, u', rfl, had, hd, hcd⟩ := hr.at_ hIl
      obtain ⟨dv, hdv, rfl⟩ := ints_at hd
      have hb := alTo_bnd (ws := ws) hD0 HD.out k
      have hdb := HD.out dv (mem_of_at hdv)
      have hDk : D * (k : Int) ≤ 1000000000000000 * 1000 := Int.mul_le_mul hD1 (by omega) (by omega) (by omega)
      have HP := Lib.hid (And.intro hxk hdv)
      clear hx hd hxk hdv hxb
      by_cases hp : 0 < x
      · have HS := Lib.hid (alTo_pos HP.out.1 HP.out.2 hp)
        have hi : x.toNat - 1 = wkI x := by rw [wkI_pos hp]; omega
        have hcx : w.cell? (ad.add (x.toNat - 1)) = some (.int .i64 dv) := by rw [hi]; exact hcd
        clear hi hcd HP
        generalize alTo ds ws k = s at *
        go_wp2
        go_round
        case rel => exact ⟨k + 1, by omega, by rw [HS.out], by go_num⟩
        case measure => simp [intOf]; omega
      · have HS := Lib.hid (alTo_neg HP.out.1 HP.out.2 hp)
        have hi : (-x).toNat - 1 = wkI x := by rw [wkI_neg (by omega)]; omega
        have hcx : w.cell? (ad.add ((-x).toNat - 1)) = some (.int .i64 dv) := by rw [hi]; exact hcd
        clear hi hcd HP
        generalize alTo ds ws k = s at *
        go_wp2
        go_round
        case rel => exact ⟨k + 1, by omega, by rw [HS.out], by go_num⟩
        case measure => simp [intOf]; omega
    · have e : k = m := by omega
      subst e
      go_wp2
      go_ret
      exact ⟨rfl, rfl⟩
set_option maxHeartbeats 800000 in
theorem sumAlong_any (A : Option Addr) (n c : Nat) (ds : List Int) (B : Option Addr) (m d : Nat) (ws : List Int) (D : Int) (w : World) (hr : Reads w w.heap.size 1 A n (ints ds)) (hw : Reads w w.heap.size 1 B m (ints ws)) (hm : m ≤ 1000)
    (hD0 : 0 ≤ D) (hD1 : D ≤ 1000000000000000) (hD : ∀ x ∈ ds, -D ≤ x ∧ x ≤ D) (hws : ∀ x ∈ ws, wkB n x = true) (hn : n ≤ 1048576) :
    Calls Try.prog 44 #[.slice A n c, .slice B m d] w fun e w' => e = .returned (.int .i64 (alTo ds ws m)) ∧ w = w' := by
  have HL := Lib.hid (ints_len hr)
  have HW := Lib.hid hws
  have HD := Lib.hid hD
  clear hws hD
  go_enter Try.func44, Try.ntmps44
  go_wp2
  go_loop [5, 12] (fun s i => ∃ k : Nat, k ≤ m ∧ s = .int .i64 (alTo ds ws k) ∧ i = .int .i64 k) (fun _ i => m - (intOf i).toNat)
  case atStart => exact ⟨0, by omega, rfl, rfl⟩
  case round =>
    obtain ⟨k, hk, rfl, rfl⟩ := hrel
    by_cases hlt : k < m
    · obtain ⟨bd, u, rfl, hbd, hx, hc⟩ := hw.at_ hlt
      obtain ⟨x, hxk, rfl⟩ := ints_at hx
      have hxb := HW.out x (mem_of_at hxk)
      obtain ⟨x0, x1, x2⟩ := wkB_t hxb
      have hIl := wkI_lt hxb
      obtain ⟨ad, u', rfl, had, hd, hcd⟩ := hr.at_ hIl
      obtain ⟨dv, hdv, rfl⟩ := ints_at hd
      have hb := alTo_bnd (ws := ws) hD0 HD.out k
      have hdb := HD.out dv (mem_of_at hdv)
      have hDk : D * (k : Int) ≤ 1000000000000000 * 1000 := Int.mul_le_mul hD1 (by omega) (by omega) (by omega)
      have HP := Lib.hid (And.intro hxk hdv)
      have cc := airwayOf_any x w x0 (by omega) (by omega)
      have hltI : (k : Int) < (m : Int) := by omega
      have hIlI : (wkI x : Int) < (n : Int) := by omega
      clear hx hd hxk hdv hxb
      by_cases hp : 0 < x
      · have HS := Lib.hid (alTo_pos HP.out.1 HP.out.2 hp)
        rw [show wkS x = 1 from if_pos hp] at cc
        have HC := Lib.hid cc
        clear HP cc
        generalize alTo ds ws k = s at *
        go_wp2_with fail; ((with_reducible refine HC.out.mono ?_); rintro e w' ⟨rfl, rfl⟩)
        go_wp2
        go_round
        case rel => exact ⟨k + 1, by omega, by rw [HS.out]; try (first | rfl | exact congrArg (Value.int .i64) (by omega)), by go_num⟩
        case measure => simp [intOf]; omega
      · have HS := Lib.hid (alTo_neg HP.out.1 HP.out.2 hp)
        rw [show wkS x = -1 from if_neg hp] at cc
        have HC := Lib.hid cc
        clear HP cc
        generalize alTo ds ws k = s at *
        go_wp2_with fail; ((with_reducible refine HC.out.mono ?_); rintro e w' ⟨rfl, rfl⟩)
        go_wp2
        go_round
        case rel => exact ⟨k + 1, by omega, by rw [HS.out]; try (first | rfl | exact congrArg (Value.int .i64) (by omega)), by go_num⟩
        case measure => simp [intOf]; omega
    · have e : k = m := by omega
      subst e
      go_wp2
      go_ret
      exact ⟨rfl, rfl⟩
end Go.Proofs.Ytjmhhbjbmgpagaa
