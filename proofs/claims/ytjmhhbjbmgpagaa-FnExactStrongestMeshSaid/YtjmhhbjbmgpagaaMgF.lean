/- Several texts in one: Wlk Psh PshR Grf. -/
import Derived.Test.YtjmhhbjbmgpagaaMgE
import Derived.Test.YtjmhhbjbmgpagaaMgD
import Derived.Test.YtjmhhbjbmgpagaaMgA
import Derived.Below
/- Contracts of walks: their numbers, their ends, sums along them. -/
namespace Go.Proofs.Ytjmhhbjbmgpagaa
set_option linter.unusedVariables false
set_option linter.unusedSimpArgs false
open Go.RowKit
/-- A number of a walk through m airways. -/
def wkB (m : Nat) (x : Int) : Bool := !(x == 0) && inB x (-(m : Int)) m
theorem wkB_t {m : Nat} {x : Int} (h : wkB m x = true) : x ≠ 0 ∧ -(m : Int) ≤ x ∧ x ≤ m := by
  unfold wkB at h
  simp only [Bool.and_eq_true, Bool.not_eq_true', beq_eq_false_iff_ne] at h
  have := inB_t h.2
  exact ⟨h.1, this⟩
theorem wkB_z {m : Nat} : wkB m 0 = false := rfl
theorem wkB_in {m : Nat} {x : Int} (h : x ≠ 0) : wkB m x = inB x (-(m : Int)) m := by
  unfold wkB; rw [show (x == 0) = false from beq_eq_false_iff_ne.2 h]; rfl
def wkI (x : Int) : Nat := (absI x - 1).toNat
def wkS (x : Int) : Int := if 0 < x then 1 else -1
theorem wkI_pos {x : Int} (h : 0 < x) : wkI x = (x - 1).toNat := by unfold wkI absI; omega
theorem wkI_neg {x : Int} (h : x < 0) : wkI x = (-x - 1).toNat := by unfold wkI absI; omega
theorem wkI_lt {m : Nat} {x : Int} (h : wkB m x = true) : wkI x < m := by
  have := wkB_t h
  unfold wkI absI; omega
theorem wkI_int {x : Int} (h : x ≠ 0) : (wkI x : Int) = absI x - 1 := by unfold wkI absI; omega
def alTo (ds ws : List Int) : Nat → Int
  | 0 => 0
  | k + 1 => alTo ds ws k + wkS (ws.getD k 0) * ds.getD (wkI (ws.getD k 0)) 0
theorem getW_at {xs : List Int} {k : Nat} {b : Int} (h : xs[k]? = some b) : xs.getD k 0 = b := by rw [List.getD_eq_getElem?_getD, h]; rfl
theorem alTo_pos {ds ws : List Int} {k : Nat} {x d : Int} (hx : ws[k]? = some x) (hd : ds[wkI x]? = some d) (h : 0 < x) : alTo ds ws (k + 1) = alTo ds ws k + d := by
  simp only [alTo]; rw [getW_at hx, getW_at hd]; unfold wkS; rw [if_pos h]; omega
theorem alTo_neg {ds ws : List Int} {k : Nat} {x d : Int} (hx : ws[k]? = some x) (hd : ds[wkI x]? = some d) (h : ¬ 0 < x) : alTo ds ws (k + 1) = alTo ds ws k - d := by
  simp only [alTo]; rw [getW_at hx, getW_at hd]; unfold wkS; rw [if_neg h]; omega
theorem alTo_bnd {ds ws : List Int} {D : Int} (h0 : 0 ≤ D) (h : ∀ d ∈ ds, -D ≤ d ∧ d ≤ D) : ∀ k : Nat, -(D * (k : Int)) ≤ alTo ds ws k ∧ alTo ds ws k ≤ D * (k : Int)
  | 0 => by simp [alTo]
  | k + 1 => by
    have h1 := alTo_bnd (ws := ws) h0 h k
    have h2 : -D ≤ ds.getD (wkI (ws.getD k 0)) 0 ∧ ds.getD (wkI (ws.getD k 0)) 0 ≤ D := by
      rw [List.getD_eq_getElem?_getD]
      cases e : ds[wkI (ws.getD k 0)]? with
      | none => simp; omega
      | some d => exact h d (List.mem_of_getElem? e)
    have h3 : D * ((k + 1 : Nat) : Int) = D * k + D := by rw [show ((k + 1 : Nat) : Int) = (k : Int) + 1 by omega, Int.mul_add, Int.mul_one]
    rw [h3]
    simp only [alTo]
    unfold wkS
    split
    · rw [Int.one_mul]; omega
    · rw [Int.neg_mul, Int.one_mul]; omega
theorem drTo_bnd {J : Int} {xs : List Awy} {ls ts : List Int} (hl : lstOk J (-3000) 3000 ls = true) (ht : lstOk xs.length (-300) 600 ts = true) : ∀ d ∈ drTo xs ls ts xs.length, -100000000000000 ≤ d ∧ d ≤ 100000000000000 := by
  intro d hd
  unfold drTo at hd
  obtain ⟨k, hk, rfl⟩ := List.mem_map.1 hd
  have hk := List.mem_range.1 hk
  unfold drAt
  rw [List.getElem?_eq_getElem hk]
  dsimp only
  obtain ⟨t, htt, t1, t2⟩ := lst_at ht (k := k) (by omega)
  have hb := (lstOk_t hl).2
  have key : ∀ i : Nat, -3000 ≤ ls.getD i 0 ∧ ls.getD i 0 ≤ 3000 := fun i => by
    rw [List.getD_eq_getElem?_getD]
    cases e : ls[i]? with
    | none => simp
    | some d => exact hb d (List.mem_of_getElem? e)
  rw [getW_at htt]
  have k1 := key xs[k].b.toNat
  have k2 := key xs[k].a.toNat
  unfold columnT
  have h2 := column_bnd (ls.getD xs[k].b.toNat 0 - ls.getD xs[k].a.toNat 0) t (decide_eq_true (by omega)) (decide_eq_true (by omega))
  exact dr_bnd (by omega) (by omega) h2.2
theorem airwayOf_any (x : Int) (w : World) (h0 : x ≠ 0) (h1 : -1000000000 ≤ x) (h2 : x ≤ 1000000000) :
    Calls Try.prog 99 #[.int .i64 x] w fun e w' => e = .returned (.tuple #[.int .i64 (wkI x), .int .i64 (wkS x)]) ∧ w = w' := by
  have HI := Lib.hid (wkI_int h0)
  by_cases h : 0 < x
  · have HS : Hid (wkS x = 1) := if_pos h
    go_enter Try.func99, Try.ntmps99
    go_wp2
    go_ret2
    exact ⟨ret_int2 (by rw [HI.out]; unfold absI; omega) HS.out.symm, rfl⟩
  · have HS : Hid (wkS x = -1) := if_neg h
    go_enter Try.func99, Try.ntmps99
    go_wp2
    go_ret2
    exact ⟨ret_int2 (by rw [HI.out]; unfold absI; omega) HS.out.symm, rfl⟩
set_option maxHeartbeats 800000 in
theorem l09Along_any (A : Option Addr) (n c : Nat) (ds : List Int) (B : Option Addr) (m d : Nat) (ws : List Int) (D : Int) (w : World) (hr : Reads w w.heap.size 1 A n (ints ds)) (hw : Reads w w.heap.size 1 B m (ints ws)) (hm : m ≤ 1000)
    (hD0 : 0 ≤ D) (hD1 : D ≤ 1000000000000000) (hD : ∀ x ∈ ds, -D ≤ x ∧ x ≤ D) (hws : ∀ x ∈ ws, wkB n x = true) (hn : n ≤ 1048576) :
    Calls Try.prog 39 #[.slice A n c, .slice B m d] w fun e w' => e = .returned (.int .i64 (alTo ds ws m)) ∧ w = w' := by
  have HL := Lib.hid (ints_len hr)
  have HW := Lib.hid hws
  have HD := Lib.hid hD
  clear hws hD
  go_enter Try.func39, Try.ntmps39
  go_wp2
  go_loop [5, 6] (fun s i => ∃ k : Nat, k ≤ m ∧ s = .int .i64 (alTo ds ws k) ∧ i = .int .i64 k) (fun _ i => m - (intOf i).toNat)
  case atStart => exact ⟨0, by omega, rfl, rfl⟩
  case round =>
    obtain ⟨k, hk, rfl, rfl⟩ := hrel
    by_cases hlt : k < m
    · obtain ⟨bd, u, rfl, hbd, hx, hc⟩ := hw.at_ hlt
      obtain ⟨x, hxk, rfl⟩ := ints_at hx
      have hxb := HW.out x (mem_of_at hxk)
      obtain ⟨x0, x1, x2⟩ := wkB_t hxb
      have hIl := wkI_lt hxb
      obtain ⟨ad, u', rfl, had, hd, hcd⟩ := hr.at_ hIl
      obtain ⟨dv, hdv, rfl⟩ := ints_at hd
      have hb := alTo_bnd (ws := ws) hD0 HD.out k
      have hdb := HD.out dv (mem_of_at hdv)
      have hDk : D * (k : Int) ≤ 1000000000000000 * 1000 := Int.mul_le_mul hD1 (by omega) (by omega) (by omega)
      have HP := Lib.hid (And.intro hxk hdv)
      clear hx hd hxk hdv hxb
      by_cases hp : 0 < x
      · have HS := Lib.hid (alTo_pos HP.out.1 HP.out.2 hp)
        have hi : x.toNat - 1 = wkI x := by rw [wkI_pos hp]; omega
        have hcx : w.cell? (ad.add (x.toNat - 1)) = some (.int .i64 dv) := by rw [hi]; exact hcd
        clear hi hcd HP
        generalize alTo ds ws k = s at *
        go_wp2
        go_round
        case rel => exact ⟨k + 1, by omega, by rw [HS.out], by go_num⟩
        case measure => simp [intOf]; omega
      · have HS := Lib.hid (alTo_neg HP.out.1 HP.out.2 hp)
        have hi : (-x).toNat - 1 = wkI x := by rw [wkI_neg (by omega)]; omega
        have hcx : w.cell? (ad.add ((-x).toNat - 1)) = some (.int .i64 dv) := by rw [hi]; exact hcd
        clear hi hcd HP
        generalize alTo ds ws k = s at *
        go_wp2
        go_round
        case rel => exact ⟨k + 1, by omega, by rw [HS.out], by go_num⟩
        case measure => simp [intOf]; omega
    · have e : k = m := by omega
      subst e
      go_wp2
      go_ret
      exact ⟨rfl, rfl⟩
set_option maxHeartbeats 800000 in
theorem sumAlong_any (A : Option Addr) (n c : Nat) (ds : List Int) (B : Option Addr) (m d : Nat) (ws : List Int) (D : Int) (w : World) (hr : Reads w w.heap.size 1 A n (ints ds)) (hw : Reads w w.heap.size 1 B m (ints ws)) (hm : m ≤ 1000)
    (hD0 : 0 ≤ D) (hD1 : D ≤ 1000000000000000) (hD : ∀ x ∈ ds, -D ≤ x ∧ x ≤ D) (hws : ∀ x ∈ ws, wkB n x = true) (hn : n ≤ 1048576) :
    Calls Try.prog 44 #[.slice A n c, .slice B m d] w fun e w' => e = .returned (.int .i64 (alTo ds ws m)) ∧ w = w' := by
  have HL := Lib.hid (ints_len hr)
  have HW := Lib.hid hws
  have HD := Lib.hid hD
  clear hws hD
  go_enter Try.func44, Try.ntmps44
  go_wp2
  go_loop [5, 12] (fun s i => ∃ k : Nat, k ≤ m ∧ s = .int .i64 (alTo ds ws k) ∧ i = .int .i64 k) (fun _ i => m - (intOf i).toNat)
  case atStart => exact ⟨0, by omega, rfl, rfl⟩
  case round =>
    obtain ⟨k, hk, rfl, rfl⟩ := hrel
    by_cases hlt : k < m
    · obtain ⟨bd, u, rfl, hbd, hx, hc⟩ := hw.at_ hlt
      obtain ⟨x, hxk, rfl⟩ := ints_at hx
      have hxb := HW.out x (mem_of_at hxk)
      obtain ⟨x0, x1, x2⟩ := wkB_t hxb
      have hIl := wkI_lt hxb
      obtain ⟨ad, u', rfl, had, hd, hcd⟩ := hr.at_ hIl
      obtain ⟨dv, hdv, rfl⟩ := ints_at hd
      have hb := alTo_bnd (ws := ws) hD0 HD.out k
      have hdb := HD.out dv (mem_of_at hdv)
      have hDk : D * (k : Int) ≤ 1000000000000000 * 1000 := Int.mul_le_mul hD1 (by omega) (by omega) (by omega)
      have HP := Lib.hid (And.intro hxk hdv)
      have cc := airwayOf_any x w x0 (by omega) (by omega)
      have hltI : (k : Int) < (m : Int) := by omega
      have hIlI : (wkI x : Int) < (n : Int) := by omega
      clear hx hd hxk hdv hxb
      by_cases hp : 0 < x
      · have HS := Lib.hid (alTo_pos HP.out.1 HP.out.2 hp)
        rw [show wkS x = 1 from if_pos hp] at cc
        have HC := Lib.hid cc
        clear HP cc
        generalize alTo ds ws k = s at *
        go_wp2_with fail; ((with_reducible refine HC.out.mono ?_); rintro e w' ⟨rfl, rfl⟩)
        go_wp2
        go_round
        case rel => exact ⟨k + 1, by omega, by rw [HS.out]; try (first | rfl | exact congrArg (Value.int .i64) (by omega)), by go_num⟩
        case measure => simp [intOf]; omega
      · have HS := Lib.hid (alTo_neg HP.out.1 HP.out.2 hp)
        rw [show wkS x = -1 from if_neg hp] at cc
        have HC := Lib.hid cc
        clear HP cc
        generalize alTo ds ws k = s at *
        go_wp2_with fail; ((with_reducible refine HC.out.mono ?_); rintro e w' ⟨rfl, rfl⟩)
        go_wp2
        go_round
        case rel => exact ⟨k + 1, by omega, by rw [HS.out]; try (first | rfl | exact congrArg (Value.int .i64) (by omega)), by go_num⟩
        case measure => simp [intOf]; omega
    · have e : k = m := by omega
      subst e
      go_wp2
      go_ret
      exact ⟨rfl, rfl⟩
end Go.Proofs.Ytjmhhbjbmgpagaa

/- Contracts of the pushes of fans and draught. -/
namespace Go.Proofs.Ytjmhhbjbmgpagaa
set_option linter.unusedVariables false
set_option linter.unusedSimpArgs false
open Go.RowKit
/-- A number of a row of the call's own is written. -/
theorem own_upd {w : World} {base n c : Nat} {A : Option Addr} {xs : List Int} (h : w.ownsRow base 2 1 (.slice A n c) n (ints xs)) {k : Nat} (hk : k < n) (v : Int) :
    ∃ g, A = some ⟨g, 0, none⟩ ∧ base ≤ g ∧ g < w.heap.size ∧ w.cell? ⟨g, k, none⟩ = some (.int .i64 (xs.getD k 0)) ∧ w.frozen? ⟨g, k, none⟩ = false ∧
      (w.setCell ⟨g, k, none⟩ (.int .i64 v)).ownsRow base 2 1 (.slice A n c) n (ints (xs.set k v)) := by
  have hl : xs.length = n := by have := h.1; simpa [ints] using this
  rcases h.2 with ⟨_, h0⟩ | ⟨g, cap, cur, hv, hbg, hgb, hnc, hcm, hcs, htake⟩
  · exfalso
    have : n = 0 := by simpa [ints] using h0
    omega
  injection hv with hA _ hc
  subst hA
  subst hc
  have hBlk : Blk w g 2 cur := hgb
  have hkc : k < cur.size := by rw [hcs]; omega
  have hcell : cur[k]? = some (.int .i64 (xs.getD k 0)) := by
    have h1 : (cur.toList.take (n * 1))[k]? = (ints xs)[k]? := by rw [htake]
    rw [List.getElem?_take, if_pos (by omega), Array.getElem?_toList] at h1
    rw [h1]
    unfold ints
    rw [List.getElem?_map, List.getElem?_eq_getElem (by omega), List.getD_eq_getElem?_getD, List.getElem?_eq_getElem (by omega)]
    rfl
  refine ⟨g, rfl, hbg, hBlk.lt, (hBlk.cell k).trans hcell, hBlk.frozen k, ⟨by simp [ints]; omega, .inr ⟨g, _, _, rfl, hbg, hBlk.set_ k _, hnc, hcm, by simpa using hcs, ?_⟩⟩⟩
  apply List.ext_getElem?
  intro l
  have h1 : (cur.toList.take (n * 1))[l]? = (ints xs)[l]? := by rw [htake]
  rw [List.getElem?_take] at h1 ⊢
  unfold ints at *
  rw [List.getElem?_map, List.getElem?_set]
  rw [List.getElem?_map] at h1
  by_cases hln : l < n * 1
  · rw [if_pos hln] at h1 ⊢
    rw [Array.getElem?_toList, Array.getElem?_setIfInBounds]
    by_cases hkl : k = l
    · subst hkl
      rw [if_pos rfl, if_pos hkc, if_pos rfl, if_pos (by omega)]; rfl
    · rw [if_neg hkl, if_neg hkl, ← Array.getElem?_toList]; exact h1
  · rw [if_neg hln] at h1 ⊢
    by_cases hkl : k = l
    · subst hkl; omega
    · rw [if_neg hkl]; exact h1
/-- The pushes behind the first k fans. -/
def puTo (ks : List FKey) (ds fs : List Int) : Nat → List Int
  | 0 => ds
  | k + 1 => match ks[k]? with
    | some x => (puTo ks ds fs k).set x.2.1.toNat ((puTo ks ds fs k).getD x.2.1.toNat 0 + prT x.2.2 (fs.getD x.2.1.toNat 0))
    | none => puTo ks ds fs k
theorem puTo_snoc {ks : List FKey} {ds fs : List Int} {k t : Nat} {x : FKey} {f : Int} (h : ks[k]? = some x) (ht : x.2.1 = (t : Int)) (hf : fs[t]? = some f) :
    puTo ks ds fs (k + 1) = (puTo ks ds fs k).set t ((puTo ks ds fs k).getD t 0 + prT x.2.2 f) := by
  simp only [puTo]; rw [h]; simp only []
  rw [ht, Int.toNat_natCast, List.getD_eq_getElem?_getD (l := fs), hf]; rfl
theorem puTo_len (ks : List FKey) (ds fs : List Int) : ∀ k, (puTo ks ds fs k).length = ds.length
  | 0 => rfl
  | k + 1 => by
    simp only [puTo]
    cases ks[k]? with
    | none => exact puTo_len ks ds fs k
    | some x => simp only [List.length_set]; exact puTo_len ks ds fs k
theorem getD_bnd {xs : List Int} {D : Int} (h0 : 0 ≤ D) (h : ∀ d ∈ xs, -D ≤ d ∧ d ≤ D) (k : Nat) : -D ≤ xs.getD k 0 ∧ xs.getD k 0 ≤ D := by
  rw [List.getD_eq_getElem?_getD]
  cases e : xs[k]? with
  | none => simp; omega
  | some d => exact h d (List.mem_of_getElem? e)
theorem puTo_bnd {ks : List FKey} {ds fs : List Int} (hk : ∀ x ∈ ks, crvOk x.2.2 = true) (hd : ∀ d ∈ ds, -100000 ≤ d ∧ d ≤ 100000) : ∀ k : Nat, ∀ d ∈ puTo ks ds fs k, -(100000 + 10000 * (k : Int)) ≤ d ∧ d ≤ 100000 + 10000 * (k : Int)
  | 0 => fun d h => by have := hd d h; omega
  | k + 1 => fun d h => by
    have ih := puTo_bnd (fs := fs) hk hd k
    simp only [puTo] at h
    cases e : ks[k]? with
    | none => rw [e] at h; have := ih d h; omega
    | some x =>
      rw [e] at h
      have hp := prT_bnd (hk x (List.mem_of_getElem? e)) (fs.getD x.2.1.toNat 0)
      rcases List.mem_or_eq_of_mem_set h with h | rfl
      · have := ih d h; omega
      · have := getD_bnd (D := 100000 + 10000 * (k : Int)) (by omega) ih x.2.1.toNat
        omega
/-- Fans that stand in airways of a mine of m. -/
def fansIn (m : Nat) (ks : List FKey) : Bool := !ks.any fun x => !inB x.2.1 0 ((m : Int) - 1)
theorem fansIn_t {m : Nat} {ks : List FKey} (h : fansIn m ks = true) : ∀ x ∈ ks, 0 ≤ x.2.1 ∧ x.2.1 < m := by
  intro x hx
  unfold fansIn at h
  rw [Bool.not_eq_true', List.any_eq_false] at h
  have h1 := h x hx
  have h2 := inB_t (by simpa using h1 : inB x.2.1 0 ((m : Int) - 1) = true)
  omega
theorem any_key (xs : List Fan) (p : FKey → Bool) : (fdat xs).any p = xs.any fun x => p x.key := by
  unfold fdat; rw [List.any_map]; rfl
set_option maxHeartbeats 800000 in
theorem l07Fans_any (M : Option Addr) (m d : Nat) (A : Option Addr) (n c : Nat) (xs : List Fan) (p : Addr) (w : World) (hr : FSS w w.heap.size A n xs) (hn : n ≤ 1048576) (hm : m ≤ 1048576) (hok : fansOk (fdat xs) = true)
    (hp1 : w.cell? ⟨p.block, p.off + 1, none⟩ = some (.slice M m d)) :
    Calls Try.prog 62 #[.pointer (some p), .slice A n c] w fun e w' => e = .returned (.bool (fansIn m (fdat xs))) ∧ ∃ q, w' = w.drewN q := by
  have HL := Lib.hid hr.len
  have HOK := Lib.hid (fansOk_t hok).2
  clear hok
  go_enter Try.func62, Try.ntmps62
  go_wp2
  go_loopw [5] (fun i wr => ∃ (k q : Nat), k ≤ n ∧ i = .int .i64 k ∧ Hid ((xs.take k).any (fun x => !inB x.a 0 ((m : Int) - 1)) = false) ∧ wr = w.drewN q) (fun i _ => n - (intOf i).toNat)
  case atStart => exact ⟨0, 0, by omega, rfl, rfl, rfl⟩
  case round =>
    obtain ⟨k, q, hk, rfl, HK, rfl⟩ := hrel
    by_cases hlt : k < n
    · obtain ⟨ad, x, rfl, had, hx, hc, hrx⟩ := hr.at_ hlt
      have HX := Lib.hid hx
      have ha := (fanOk_t (HOK.out x.key (List.mem_of_getElem? (fdat_at hx)))).2.1
      simp only [Fan.key] at ha
      obtain ⟨a0, a1, a2⟩ := Fan.open_ hc
      have hltI : (k : Int) < (n : Int) := by omega
      clear hx hc hrx
      by_cases hg : (m : Int) ≤ x.a
      · have HF : Hid (fansIn m (fdat xs) = false) := by
          show _ = _
          unfold fansIn
          rw [any_key, show (xs.any fun x => !inB x.key.2.1 0 ((m : Int) - 1)) = true from List.any_eq_true.2 ⟨x, List.mem_of_getElem? HX.out, by show (!inB x.a 0 ((m : Int) - 1)) = true; unfold inB; rw [decide_eq_false (by omega)]; rfl⟩]; rfl
        go_wp2
        go_quiet (fail)
        go_wp2
        go_ret
        exact ⟨ret_bool HF.out.symm, _, by first | rfl | exact World.drewN_drewN _ _ _⟩
      · have HN := Lib.hid (any_take HX.out HK.out (by show (!inB x.a 0 ((m : Int) - 1)) = false; unfold inB; rw [decide_eq_true (by omega)]; rfl))
        go_wp2
        go_quiet (fail)
        go_wp2
        go_roundw
        case rel => exact ⟨k + 1, _, by omega, by go_num, HN.out, by first | rfl | exact World.drewN_drewN _ _ _⟩
        case measure => simp [intOf]; omega
    · have e : k = n := by omega
      have HF : Hid (fansIn m (fdat xs) = true) := by
        show _ = _
        have h := HK.out
        rw [List.take_of_length_le (by rw [HL.out]; omega)] at h
        unfold fansIn
        rw [any_key, show (xs.any fun x => !inB x.key.2.1 0 ((m : Int) - 1)) = false from h]; rfl
      clear e
      go_wp2
      go_ret
      exact ⟨ret_bool HF.out.symm, _, rfl⟩
theorem indexFan_any (A : Option Addr) (n c : Nat) (xs : List Fan) (g : Nat) (cb : Array Value) (p : Fan → Bool) (w : World) (eg : ∀ args W, (callFunc g args).run Try.prog W = .ok (.enter g args) W)
    (hr : FSS w w.heap.size A n xs) (hn : n ≤ 1099511627776)
    (hf : ∀ (W : World) (x : Fan), Below w.heap.size w W → x ∈ xs → Calls Try.prog g (#[.agg #[.string x.s, .int .i64 x.a, .slice x.A x.n x.c]] ++ cb) W fun e w' => e = .returned (.bool (p x)) ∧ Below W.heap.size W w') :
    Calls Try.prog 157 #[.slice A n c, .func (.func g) #[] cb] w fun e w' => e = .returned (.int .i64 (idxI p xs)) ∧ Below w.heap.size w w' := by
  have HF := Lib.hid hf
  have HL := Lib.hid hr.len
  clear hf
  go_enter Try.func157, Try.ntmps157
  go_wp2
  go_loopw [8] (fun i wr => ∃ k : Nat, k ≤ n ∧ i = .int .i64 k ∧ Hid ((xs.take k).any p = false) ∧ Below w.heap.size w wr) (fun i _ => n - (intOf i).toNat)
  case atStart => exact ⟨0, by omega, rfl, by simp [Hid], Below.refl _ _⟩
  case round =>
    obtain ⟨k, hk, rfl, HK, hbw⟩ := hrel
    by_cases hlt : k < n
    · obtain ⟨ad, x, rfl, had, hx, hc, hrx⟩ := (hr.below hbw).at_ hlt
      have hcall := HF.out wr x hbw (mem_of_at hx)
      have HX := Lib.hid hx
      obtain ⟨h0, h1, h2⟩ := Fan.open_ hc
      clear hx hc hrx
      cases hp : p x <;> rw [hp] at hcall
      · have HP := Lib.hid hp
        clear hp
        go_wp2_with (go_at_fn g; refine hcall.mono ?_; rintro e w' ⟨rfl, hb1⟩)
        go_roundw
        case rel => exact ⟨k + 1, by omega, by go_num, any_take HX.out HK.out HP.out, hbw.trans (hb1.mono hbw.size)⟩
        case measure => simp [intOf]; omega
      · have HP := Lib.hid hp
        clear hp
        go_wp2_with (go_at_fn g; refine hcall.mono ?_; rintro e w' ⟨rfl, hb1⟩)
        go_ret
        exact ⟨ret_int (idx_at HX.out HP.out HK.out).symm, hbw.trans (hb1.mono hbw.size)⟩
    · have e : k = n := by omega
      subst e
      go_wp2
      go_ret
      have hall : xs.any p = false := by have := HK.out; rwa [List.take_of_length_le (by rw [HL.out]; omega)] at this
      exact ⟨ret_int (idx_none hall).symm, hbw⟩
theorem containsFan_any (A : Option Addr) (n c : Nat) (xs : List Fan) (g : Nat) (cb : Array Value) (p : Fan → Bool) (w : World) (eg : ∀ args W, (callFunc g args).run Try.prog W = .ok (.enter g args) W)
    (hr : FSS w w.heap.size A n xs) (hn : n ≤ 1099511627776)
    (hf : ∀ (W : World) (x : Fan), Below w.heap.size w W → x ∈ xs → Calls Try.prog g (#[.agg #[.string x.s, .int .i64 x.a, .slice x.A x.n x.c]] ++ cb) W fun e w' => e = .returned (.bool (p x)) ∧ Below W.heap.size W w') :
    Calls Try.prog 119 #[.slice A n c, .func (.func g) #[] cb] w fun e w' => e = .returned (.bool (xs.any p)) ∧ Below w.heap.size w w' := by
  have hc := indexFan_any A n c xs g cb p w eg hr hn hf
  have HD := Lib.hid (idx_any (p := p) (xs := xs))
  clear hf
  go_enter Try.func119, Try.ntmps119
  go_wp2_with fail; ((with_reducible refine hc.mono ?_); rintro e w1 ⟨rfl, hb1⟩)
  go_wp2
  go_ret
  exact ⟨ret_bool HD.out, hb1⟩
theorem indexValidA_any (M : Option Addr) (m d : Nat) (k : Int) (w : World) (hm : m ≤ 1048576) :
    Calls Try.prog 121 #[.slice M m d, .int .i64 k] w fun e w' => e = .returned (.bool (inB k 0 ((m : Int) - 1))) ∧ w = w' := by
  go_enter Try.func121, Try.ntmps121
  go_wp2_with (go_at_call 97; refine (within_any _ _ _ _).mono ?_; rintro e w' ⟨rfl, rfl⟩)
  go_ret
  exact ⟨rfl, rfl⟩
theorem hasFansClosure_any (M : Option Addr) (m d : Nat) (x : Fan) (b1 : Nat) (w : World) (hm : m ≤ 1048576) (c1 : w.cell? ⟨b1, 1, none⟩ = some (.slice M m d)) :
    Calls Try.prog 120 #[.agg #[.string x.s, .int .i64 x.a, .slice x.A x.n x.c], .pointer (some ⟨b1, 0, none⟩)] w fun e w' => e = .returned (.bool (!inB x.a 0 ((m : Int) - 1))) ∧ Below w.heap.size w w' := by
  have hl : b1 < w.heap.size := block_lt_of_cell (a := ⟨b1, 1, none⟩) c1
  go_enter Try.func120, Try.ntmps120
  go_wp2_with fail; ((with_reducible refine (indexValidA_any M m d x.a _ hm).mono ?_); rintro e w' ⟨rfl, rfl⟩)
  go_wp2
  go_ret
  exact ⟨rfl, by (repeat (first | exact Below.refl _ _ | assumption | (refine Below.alloc ?_ (by first | exact Nat.le_refl _ | (simp; done) | (simp; omega)) _) | (refine below_drewN ?_ _) | (refine Below.trans ?_ (Below.mono (by assumption) (by first | exact Nat.le_refl _ | (simp; done) | (simp; omega) | omega)))))⟩
set_option maxRecDepth 100000 in
theorem hasFans_any (J : Int) (M : Option Addr) (m d : Nat) (A : Option Addr) (n c : Nat) (xs : List Fan) (w : World) (hr : FSS w w.heap.size A n xs) (hn : n ≤ 1048576) (hm : m ≤ 1048576) :
    Calls Try.prog 68 #[.agg #[.int .i64 J, .slice M m d], .slice A n c] w fun e w' => e = .returned (.bool (fansIn m (fdat xs))) ∧ Below w.heap.size w w' := by
  have hb0 : Below w.heap.size w (w.alloc (.cells #[.int .i64 J, .slice M m d] 31)) := (Below.refl _ _).alloc (Nat.le_refl _) _
  have cc := containsFan_any A n c xs 120 #[.pointer (some ⟨w.heap.size, 0, none⟩)] (fun x => !inB x.a 0 ((m : Int) - 1)) (w.alloc (.cells #[.int .i64 J, .slice M m d] 31)) (fun _ _ => rfl) ((hr.below hb0).more hb0.size) (by omega)
    (fun W x hb hx => hasFansClosure_any M m d x w.heap.size W hm ((hb.cell (p := ⟨w.heap.size, 1, none⟩) (by simp)).trans (((Blk.new w _ _).cell 1).trans rfl)))
  rw [show (xs.any fun x => !inB x.a 0 ((m : Int) - 1)) = !fansIn m (fdat xs) by unfold fansIn; rw [any_key, Bool.not_not]; rfl] at cc
  have HC := Lib.hid cc
  clear cc hb0
  go_enter Try.func68, Try.ntmps68
  go_wp2_with fail; ((with_reducible refine HC.out.mono ?_); rintro e w1 ⟨rfl, hb1⟩)
  go_wp2
  go_ret
  exact ⟨ret_bool rfl, ((Below.refl _ _).alloc (Nat.le_refl _) _).trans (hb1.mono (by simp))⟩
set_option maxHeartbeats 3200000 in
set_option maxRecDepth 100000 in
theorem l07Pushes_any (A : Option Addr) (n c : Nat) (xs : List Fan) (B : Option Addr) (m d : Nat) (ds : List Int) (D : Option Addr) (e : Nat) (fs : List Int) (w : World) (hr : FSS w w.heap.size A n xs) (hok : fansOk (fdat xs) = true) (hin : fansIn m (fdat xs) = true)
    (hB : Reads w w.heap.size 1 B m (ints ds)) (hD : Reads w w.heap.size 1 D m (ints fs)) (hmn : m ≤ 1048576) (hds : ∀ d ∈ ds, -100000 ≤ d ∧ d ≤ 100000) (hfs : ∀ f ∈ fs, -100000 ≤ f ∧ f ≤ 100000) :
    Calls Try.prog 64 #[.slice A n c, .slice B m d, .slice D m e] w fun e w' => ∃ A' c', e = .returned (.slice A' m c') ∧ w'.ownsRow w.heap.size 2 1 (.slice A' m c') m (ints (puTo (fdat xs) ds fs n)) ∧ Below w.heap.size w w' := by
  have HL := Lib.hid hr.len
  have HLd := Lib.hid (ints_len hB)
  have HLf := Lib.hid (ints_len hD)
  have HOK := Lib.hid (fansOk_t hok)
  have n8 : n ≤ 8 := by have h := HOK.out.1; rw [fdat_len, HL.out] at h; exact h
  have HIN := Lib.hid (fansIn_t hin)
  have HCV : Hid (∀ x ∈ fdat xs, crvOk x.2.2 = true) := fun x hx => (fanOk_t (HOK.out.2 x hx)).2.2
  have HDS := Lib.hid hds
  have HFS := Lib.hid hfs
  have co := l00Own_any B m d ds w hB hmn
  clear hok hin hds hfs
  go_enter Try.func64, Try.ntmps64
  go_wp2_with fail; ((with_reducible refine co.mono ?_); rintro e' w1 ⟨A', c', rfl, ho1, hb1⟩)
  clear co
  go_wp2
  go_loopw [8] (fun i wr => ∃ k : Nat, k ≤ n ∧ i = .int .i64 k ∧ wr.ownsRow w.heap.size 2 1 (.slice A' m c') m (ints (puTo (fdat xs) ds fs k)) ∧ Below w.heap.size w wr) (fun i _ => n - (intOf i).toNat)
  case atStart => exact ⟨0, by omega, rfl, ho1, hb1⟩
  case round =>
    obtain ⟨k, hk, rfl, hown, hbr⟩ := hrel
    obtain ⟨wo, rfl⟩ : ∃ wo : World, wo = wr := ⟨_, rfl⟩
    by_cases hlt : k < n
    · obtain ⟨ad, x, rfl, had, hx, hc, hrx⟩ := (hr.below hbr).at_ hlt
      have hkey := fdat_at hx
      have hmem := List.mem_of_getElem? hkey
      obtain ⟨t, ht⟩ : ∃ t : Nat, x.a = t := ⟨x.a.toNat, by have := HIN.out x.key hmem; simp only [Fan.key] at this; omega⟩
      have htm : t < m := by have := HIN.out x.key hmem; simp only [Fan.key] at this; omega
      obtain ⟨f, hf⟩ : ∃ f, fs[t]? = some f := ⟨_, List.getElem?_eq_getElem (by rw [HLf.out]; exact htm)⟩
      have hfb := HFS.out f (List.mem_of_getElem? hf)
      have hcv := HCV.out x.key hmem
      have hpb := prT_bnd hcv f
      have hcb := getD_bnd (D := 100000 + 10000 * (k : Int)) (by omega) (puTo_bnd (fs := fs) HCV.out HDS.out k) t
      have HSN := Lib.hid (puTo_snoc (ds := ds) hkey ht hf)
      simp only [Fan.key] at hcv hpb
      obtain ⟨a0, a1, a2⟩ := Fan.open_ hc
      rw [ht] at a1
      obtain ⟨fd, rfl, hfd, hfn, hcf⟩ := (hD.below hbr).int_at hf
      obtain ⟨g, rfl, hg1, hg2, gc, gf, _⟩ := own_upd hown htm 0
      have HOWN := Lib.hid hown
      have hltI : (k : Int) < (n : Int) := by omega
      have htI : (t : Int) < (m : Int) := by omega
      have HA : Hid (∀ s : NB wo, Calls Try.prog 116 #[.pointer (some (ad.add (k * 3))), .int .i64 f] s.w fun e w' => e = .returned (.int .i64 (prT (dat x.rs) f)) ∧ Below s.w.heap.size s.w w') :=
        fun s => l06Pressure_any x.A x.n x.c x.rs f (ad.add (k * 3)) s.w ((hrx.below (s.h.mono hbr.size)).more (Nat.le_trans hbr.size s.h.size)) hcv hfb ((s.h.cell (block_lt_of_cell a2)).trans a2)
      have HSN2 : Hid (puTo (fdat xs) ds fs (k + 1) = (puTo (fdat xs) ds fs k).set t ((puTo (fdat xs) ds fs k).getD t 0 + prT (dat x.rs) f)) := HSN.out
      generalize hcur : (puTo (fdat xs) ds fs k).getD t 0 = cur at *
      generalize hprv : prT (dat x.rs) f = prv at *
      have hws : IntKind.i64.wrap (cur + prv) = cur + prv := IntWalk.i64_in _ (by omega)
      clear hx hc hrx hkey hmem hcv hf ht hown hcur hprv HSN
      go_wp2
      have m3_0 := nb_cell a1 (block_lt_of_cell a1); have m3_1 := nb_cell gc (block_lt_of_cell gc); have m3_2 := nb_cell hcf (block_lt_of_cell hcf); (refine wp_region_nbt 22 (by kernel_rfl) (by kernel_rfl) ?_); simp only [List.take_succ_cons, List.take_zero, List.drop_succ_cons, List.drop_zero]; (repeat (go_big_quiet_step (((go_at_call 116; exact nb_call (HA.out _)))))); (refine wpQuiet_nil ?_); intro w3 hw3; have hb3 := nb_out hw3; clear hw3 m3_0 m3_1 m3_2
      have gc3 := (hb3.cell (p := ⟨g, t, none⟩) hg2).trans gc
      have gf3 := (hb3.frozen (p := ⟨g, t, none⟩) hg2).trans gf
      obtain ⟨g', e1, _, _, _, _, hup⟩ := own_upd (own_below HOWN.out hb3) htm (cur + prv)
      have HUP : Hid ((w3.setCell ⟨g, t, none⟩ (.int .i64 (cur + prv))).ownsRow w.heap.size 2 1 (.slice (some ⟨g, 0, none⟩) m c') m (ints (puTo (fdat xs) ds fs (k + 1)))) := by
        injection e1 with e1
        injection e1 with e1
        subst e1
        show World.ownsRow _ _ _ _ _ _ _
        rw [HSN2.out]; exact hup
      have B3 := (hbr.trans (hb3.mono hbr.size)).setCell (p := ⟨g, t, none⟩) hg1 (.int .i64 (cur + prv))
      have HB3 := Lib.hid B3
      clear hup e1 B3
      go_wp2
      go_roundw
      case rel => exact ⟨k + 1, by omega, by go_num, HUP.out, HB3.out⟩
      case measure => simp [intOf]; omega
    · have e : k = n := by omega
      subst e
      go_wp2
      go_ret
      exact ⟨A', c', rfl, hown, hbr⟩
set_option maxHeartbeats 3200000 in
set_option maxRecDepth 100000 in
theorem pushesOf_any (A : Option Addr) (n c : Nat) (xs : List Fan) (B : Option Addr) (m d : Nat) (ds : List Int) (D : Option Addr) (e : Nat) (fs : List Int) (w : World) (hr : FSS w w.heap.size A n xs) (hok : fansOk (fdat xs) = true) (hin : fansIn m (fdat xs) = true)
    (hB : Reads w w.heap.size 1 B m (ints ds)) (hD : Reads w w.heap.size 1 D m (ints fs)) (hmn : m ≤ 1048576) (hds : ∀ d ∈ ds, -100000 ≤ d ∧ d ≤ 100000) (hfs : ∀ f ∈ fs, -100000 ≤ f ∧ f ≤ 100000) :
    Calls Try.prog 69 #[.slice A n c, .slice B m d, .slice D m e] w fun e w' => ∃ A' c', e = .returned (.slice A' m c') ∧ w'.ownsRow w.heap.size 2 1 (.slice A' m c') m (ints (puTo (fdat xs) ds fs n)) ∧ Below w.heap.size w w' := by
  have HL := Lib.hid hr.len
  have HLd := Lib.hid (ints_len hB)
  have HLf := Lib.hid (ints_len hD)
  have HOK := Lib.hid (fansOk_t hok)
  have n8 : n ≤ 8 := by have h := HOK.out.1; rw [fdat_len, HL.out] at h; exact h
  have HIN := Lib.hid (fansIn_t hin)
  have HCV : Hid (∀ x ∈ fdat xs, crvOk x.2.2 = true) := fun x hx => (fanOk_t (HOK.out.2 x hx)).2.2
  have HDS := Lib.hid hds
  have HFS := Lib.hid hfs
  have co := clone_any B m d ds w hB hmn
  clear hok hin hds hfs
  go_enter Try.func69, Try.ntmps69
  go_wp2_with fail; ((with_reducible refine co.mono ?_); rintro e' w1 ⟨A', c', rfl, ho1, hb1⟩)
  clear co
  go_wp2
  go_loopw [14] (fun i wr => ∃ k : Nat, k ≤ n ∧ i = .int .i64 k ∧ wr.ownsRow w.heap.size 2 1 (.slice A' m c') m (ints (puTo (fdat xs) ds fs k)) ∧ Below w.heap.size w wr) (fun i _ => n - (intOf i).toNat)
  case atStart => exact ⟨0, by omega, rfl, ho1, hb1⟩
  case round =>
    obtain ⟨k, hk, rfl, hown, hbr⟩ := hrel
    obtain ⟨wo, rfl⟩ : ∃ wo : World, wo = wr := ⟨_, rfl⟩
    by_cases hlt : k < n
    · obtain ⟨ad, x, rfl, had, hx, hc, hrx⟩ := (hr.below hbr).at_ hlt
      have hkey := fdat_at hx
      have hmem := List.mem_of_getElem? hkey
      obtain ⟨t, ht⟩ : ∃ t : Nat, x.a = t := ⟨x.a.toNat, by have := HIN.out x.key hmem; simp only [Fan.key] at this; omega⟩
      have htm : t < m := by have := HIN.out x.key hmem; simp only [Fan.key] at this; omega
      obtain ⟨f, hf⟩ : ∃ f, fs[t]? = some f := ⟨_, List.getElem?_eq_getElem (by rw [HLf.out]; exact htm)⟩
      have hfb := HFS.out f (List.mem_of_getElem? hf)
      have hcv := HCV.out x.key hmem
      have hpb := prT_bnd hcv f
      have hcb := getD_bnd (D := 100000 + 10000 * (k : Int)) (by omega) (puTo_bnd (fs := fs) HCV.out HDS.out k) t
      have HSN := Lib.hid (puTo_snoc (ds := ds) hkey ht hf)
      simp only [Fan.key] at hcv hpb
      obtain ⟨a0, a1, a2⟩ := Fan.open_ hc
      rw [ht] at a1
      obtain ⟨fd, rfl, hfd, hfn, hcf⟩ := (hD.below hbr).int_at hf
      obtain ⟨g, rfl, hg1, hg2, gc0, gf0, _⟩ := own_upd hown htm 0
      have HOWN := Lib.hid hown
      have hltI : (k : Int) < (n : Int) := by omega
      have htI : (t : Int) < (m : Int) := by omega
      have hbo : Below wo.heap.size wo (wo.alloc (.cells #[.string x.s, .int .i64 t, .slice x.A x.n x.c] 85)) := (Below.refl _ _).alloc (Nat.le_refl _) _
      have f0 : (wo.alloc (.cells #[.string x.s, .int .i64 t, .slice x.A x.n x.c] 85)).cell? ⟨wo.heap.size, 0, none⟩ = some (.string x.s) := ((Blk.new wo _ _).cell 0).trans rfl
      have f1 : (wo.alloc (.cells #[.string x.s, .int .i64 t, .slice x.A x.n x.c] 85)).cell? ⟨wo.heap.size, 1, none⟩ = some (.int .i64 t) := ((Blk.new wo _ _).cell 1).trans rfl
      have f2 : (wo.alloc (.cells #[.string x.s, .int .i64 t, .slice x.A x.n x.c] 85)).cell? ⟨wo.heap.size, 2, none⟩ = some (.slice x.A x.n x.c) := ((Blk.new wo _ _).cell 2).trans rfl
      have gc := (hbo.cell (p := ⟨g, t, none⟩) hg2).trans gc0
      have hcf1 := (hbo.cell (block_lt_of_cell hcf)).trans hcf
      have HA : Hid (∀ s : NB (wo.alloc (.cells #[.string x.s, .int .i64 t, .slice x.A x.n x.c] 85)), Calls Try.prog 122 #[.agg #[.string x.s, .int .i64 t, .slice x.A x.n x.c], .int .i64 f] s.w fun e w' => e = .returned (.int .i64 (prT (dat x.rs) f)) ∧ Below s.w.heap.size s.w w') :=
        fun s => pressure_any x.s t x.A x.n x.c x.rs f s.w (by
          have hbt := hbo.trans (s.h.mono hbo.size)
          exact (hrx.below (hbt.mono hbr.size)).more (Nat.le_trans hbr.size hbt.size)) hcv hfb
      have HSN2 : Hid (puTo (fdat xs) ds fs (k + 1) = (puTo (fdat xs) ds fs k).set t ((puTo (fdat xs) ds fs k).getD t 0 + prT (dat x.rs) f)) := HSN.out
      generalize hcur : (puTo (fdat xs) ds fs k).getD t 0 = cur at *
      generalize hprv : prT (dat x.rs) f = prv at *
      have hws : IntKind.i64.wrap (cur + prv) = cur + prv := IntWalk.i64_in _ (by omega)
      have HBO := Lib.hid hbo
      have HGF := Lib.hid gf0
      clear hx hc hrx hkey hmem hcv hf ht hown hcur hprv HSN gc0 gf0 hcf hbo
      go_wp2
      have m3_0 := nb_cell f0 (block_lt_of_cell f0); have m3_1 := nb_cell f1 (block_lt_of_cell f1); have m3_2 := nb_cell f2 (block_lt_of_cell f2); have m3_3 := nb_cell gc (block_lt_of_cell gc); have m3_4 := nb_cell hcf1 (block_lt_of_cell hcf1); (refine wp_region_nbt 14 (by kernel_rfl) (by kernel_rfl) ?_); simp only [List.take_succ_cons, List.take_zero, List.drop_succ_cons, List.drop_zero]; (repeat (go_big_quiet_step (((go_at_call 122; exact nb_call (HA.out _)))))); (refine wpQuiet_nil ?_); intro w3 hw3; have hb3 := nb_out hw3; clear hw3 m3_0 m3_1 m3_2 m3_3 m3_4
      have hb4 := HBO.out.trans (hb3.mono HBO.out.size)
      have gc3 := (hb3.cell (block_lt_of_cell gc)).trans gc
      have gf3 := (hb4.frozen (p := ⟨g, t, none⟩) hg2).trans HGF.out
      obtain ⟨g', e1, _, _, _, _, hup⟩ := own_upd (own_below HOWN.out hb4) htm (cur + prv)
      have HUP : Hid ((w3.setCell ⟨g, t, none⟩ (.int .i64 (cur + prv))).ownsRow w.heap.size 2 1 (.slice (some ⟨g, 0, none⟩) m c') m (ints (puTo (fdat xs) ds fs (k + 1)))) := by
        injection e1 with e1
        injection e1 with e1
        subst e1
        show World.ownsRow _ _ _ _ _ _ _
        rw [HSN2.out]; exact hup
      have B3 := (hbr.trans (hb4.mono hbr.size)).setCell (p := ⟨g, t, none⟩) hg1 (.int .i64 (cur + prv))
      have HB3 := Lib.hid B3
      clear hup e1 B3
      go_wp2
      go_roundw
      case rel => exact ⟨k + 1, by omega, by go_num, HUP.out, HB3.out⟩
      case measure => simp [intOf]; omega
    · have e : k = n := by omega
      subst e
      go_wp2
      go_ret
      exact ⟨A', c', rfl, hown, hbr⟩
end Go.Proofs.Ytjmhhbjbmgpagaa

/- Contracts of the pushes of all airways, both sides. -/
namespace Go.Proofs.Ytjmhhbjbmgpagaa
set_option linter.unusedVariables false
set_option linter.unusedSimpArgs false
open Go.RowKit
def puR (J : Int) (xs : List Awy) (ks : List FKey) (ds fs : List Int) : List Int × Int :=
  if mineOk J xs = true ∧ fansOk ks = true then (if fansIn xs.length ks = true ∧ lstOk xs.length (-100000) 100000 ds = true ∧ lstOk xs.length (-100000) 100000 fs = true then (puTo ks ds fs ks.length, 0) else ([], 7)) else ([], 1)
theorem puR_1 {J : Int} {xs : List Awy} {ks : List FKey} {ds fs : List Int} (h : ¬ (mineOk J xs = true ∧ fansOk ks = true)) : puR J xs ks ds fs = ([], 1) := if_neg h
theorem puR_7 {J : Int} {xs : List Awy} {ks : List FKey} {ds fs : List Int} (h : mineOk J xs = true) (h1 : fansOk ks = true) (h2 : ¬ (fansIn xs.length ks = true ∧ lstOk xs.length (-100000) 100000 ds = true ∧ lstOk xs.length (-100000) 100000 fs = true)) : puR J xs ks ds fs = ([], 7) := by
  unfold puR; rw [if_pos ⟨h, h1⟩, if_neg h2]
theorem puR_0 {J : Int} {xs : List Awy} {ks : List FKey} {ds fs : List Int} (h : mineOk J xs = true) (h1 : fansOk ks = true) (h2 : fansIn xs.length ks = true) (h3 : lstOk xs.length (-100000) 100000 ds = true) (h4 : lstOk xs.length (-100000) 100000 fs = true) : puR J xs ks ds fs = (puTo ks ds fs ks.length, 0) := by
  unfold puR; rw [if_pos ⟨h, h1⟩, if_pos ⟨h2, h3, h4⟩]
set_option maxHeartbeats 800000 in
theorem l07Pressures_any (m : Nat) (M : Option Addr) (d : Nat) (p : Addr) (A : Option Addr) (n c : Nat) (xs : List Int) (w : World) (hr : Reads w w.heap.size 1 A n (ints xs)) (hn : n ≤ 1048576) (h0 : w.cell? ⟨p.block, p.off + 1, none⟩ = some (.slice M m d)) :
    Calls Try.prog 63 #[.pointer (some p), .slice A n c] w fun e w' => e = .returned (.bool (lstOk (m : Int) (-100000) 100000 xs)) ∧ w = w' := by
  have HL := Lib.hid (ints_len hr)
  rcases Bool.eq_false_or_eq_true ((n : Int) == (m : Int)) with hnj | hnj
  all_goals
    have HN := Lib.hid hnj
    go_enter Try.func63, Try.ntmps63
    go_wp2
    go_loop [5] (fun i => ∃ k : Nat, k ≤ n ∧ i = .int .i64 k ∧ Hid ((xs.take k).all (fun x => inB x (-100000) 100000) = true)) (fun i => n - (intOf i).toNat)
    case atStart => exact ⟨0, by omega, rfl, rfl⟩
    case round =>
      obtain ⟨k, hk, rfl, HK⟩ := hrel
      by_cases hlt : k < n
      · obtain ⟨ad, u, rfl, had, hx, hc⟩ := hr.at_ hlt
        obtain ⟨b, hb, rfl⟩ := ints_at hx
        have HX := Lib.hid hb
        clear hb hx
        cases hp : inB b (-100000) 100000
        · have HP : Hid (inB b (-100000) 100000 = false) := hp
          go_wp2_with (go_at_call 77; refine (l00In_any _ _ _ _).mono ?_; rintro e w' ⟨rfl, rfl⟩)
          go_ret
          exact ⟨ret_bool (by unfold lstOk allIn; rw [all_false (p := fun x => inB x (-100000) 100000) HX.out HP.out, Bool.false_and]), rfl⟩
        · have HP : Hid (inB b (-100000) 100000 = true) := hp
          go_wp2_with (go_at_call 77; refine (l00In_any _ _ _ _).mono ?_; rintro e w' ⟨rfl, rfl⟩)
          go_round
          case rel => exact ⟨k + 1, by omega, by go_num, all_take HX.out HK.out HP.out⟩
          case measure => simp [intOf]; omega
      · have e : k = n := by omega
        subst e
        have HA : Hid (allIn (-100000) 100000 xs = true) := all_whole HL.out HK.out
        go_wp2
        go_ret
        exact ⟨ret_bool (by unfold lstOk; rw [HA.out, HL.out, HN.out]; first | rfl | simp_all), rfl⟩
set_option maxHeartbeats 3200000 in
set_option maxRecDepth 100000 in
theorem specPushesOf_any (J : Int) (M : Option Addr) (m d : Nat) (xs : List Awy) (A0 : Option Addr) (n0 c0 : Nat) (fs0 : List Fan) (A1 : Option Addr) (n1 c1 : Nat) (ds : List Int) (A2 : Option Addr) (n2 c2 : Nat) (fs : List Int) (w : World) (hm : Reads w w.heap.size 7 M m (Awy.recs xs)) (hmn : m ≤ 1048576) (hxs : ∀ x ∈ xs, x.s.size ≤ maxLen) (hr0 : FSS w w.heap.size A0 n0 fs0) (hn0 : n0 ≤ 1048576) (hx0 : ∀ x ∈ fs0, x.ok) (hr1 : Reads w w.heap.size 1 A1 n1 (ints ds)) (hn1 : n1 ≤ 1048576) (hr2 : Reads w w.heap.size 1 A2 n2 (ints fs)) (hn2 : n2 ≤ 1048576) :
    Calls Try.prog 25 #[.agg #[.int .i64 J, .slice M m d], .slice A0 n0 c0, .slice A1 n1 c1, .slice A2 n2 c2] w fun e w' => ∃ A' n' c', e = .returned (.tuple #[.slice A' n' c', .int .i64 (puR J xs (fdat fs0) ds fs).2]) ∧ w'.ownsRow w.heap.size 2 1 (.slice A' n' c') n' (ints (puR J xs (fdat fs0) ds fs).1) ∧ n' ≤ 1048576 ∧ Below w.heap.size w w' := by
  have HLm := Lib.hid (recs_rlen Awy.clen (by omega) hm)
  have HLk : Hid ((fdat fs0).length = n0) := show _ = _ by rw [fdat_len]; exact hr0.len
  have HL1 := Lib.hid (ints_len hr1)
  have HL2 := Lib.hid (ints_len hr2)
  have hb : Below w.heap.size w (w.alloc (.cells #[.int .i64 J, .slice M m d] 31)) := (Below.refl _ _).alloc (Nat.le_refl _) _
  have g0 : (w.alloc (.cells #[.int .i64 J, .slice M m d] 31)).cell? ⟨w.heap.size, 0, none⟩ = some (.int .i64 J) := ((Blk.new w _ _).cell 0).trans rfl
  have g1 : (w.alloc (.cells #[.int .i64 J, .slice M m d] 31)).cell? ⟨w.heap.size, 1, none⟩ = some (.slice M m d) := ((Blk.new w _ _).cell 1).trans rfl
  have z0 : w.heap.size < (w.alloc (.cells #[.int .i64 J, .slice M m d] 31)).heap.size := by simp
  have hmW : ∀ W, Below w.heap.size w W → Reads W W.heap.size 7 M m (Awy.recs xs) := fun W hb => (hm.below hb).more hb.size
  have h0W : ∀ W, Below w.heap.size w W → FSS W W.heap.size A0 n0 fs0 := fun W hb => (hr0.below hb).more hb.size
  have h1W : ∀ W, Below w.heap.size w W → Reads W W.heap.size 1 A1 n1 (ints ds) := fun W hb => (hr1.below hb).more hb.size
  have h2W : ∀ W, Below w.heap.size w W → Reads W W.heap.size 1 A2 n2 (ints fs) := fun W hb => (hr2.below hb).more hb.size
  have HW := Lib.hid (And.intro hmW (And.intro h0W (And.intro h1W h2W)))
  have cm := l04Ok_any J M m d xs ⟨w.heap.size, 0, none⟩ _ (hmW _ hb) hmn hxs (Cells.new w _ _)
  have HFL : Hid (∀ W, Below w.heap.size w W → Calls Try.prog 61 #[.slice A0 n0 c0] W fun e w' => e = .returned (.bool (fansOk (fdat fs0))) ∧ Below W.heap.size W w') := fun W hb => l06List_any A0 n0 c0 fs0 W (h0W W hb) hn0 hx0
  clear hxs hx0 hmW h0W h1W h2W
  rcases Bool.eq_false_or_eq_true (mineOk J xs) with k1 | k1
  · rw [k1] at cm
    have HCM := Lib.hid cm
    clear cm
    rcases Bool.eq_false_or_eq_true (fansOk (fdat fs0)) with k2 | k2
    · have hm24 : m ≤ 24 := by have := (mineOk_t k1).2.1; rw [HLm.out] at this; exact this
      have K1 := Lib.hid k1
      have K2 := Lib.hid k2
      clear k1
      rcases Bool.eq_false_or_eq_true (fansIn m (fdat fs0)) with k3 | k3
      · skip
        rcases Bool.eq_false_or_eq_true (lstOk m (-100000) 100000 ds) with k4 | k4
        · skip
          rcases Bool.eq_false_or_eq_true (lstOk m (-100000) 100000 fs) with k5 | k5
          · skip
            have HV := Lib.hid (puR_0 (J := J) (xs := xs) (ks := fdat fs0) (ds := ds) (fs := fs) K1.out K2.out (by rw [HLm.out]; exact k3) (by rw [HLm.out]; exact k4) (by rw [HLm.out]; exact k5))
            have K3 := Lib.hid k3
            have K4 := Lib.hid (lstOk_t k4)
            have K5 := Lib.hid (lstOk_t k5)
            obtain rfl : n1 = m := by have h1 := K4.out.1; have h2 := HL1.out; omega
            obtain rfl : n2 = n1 := by have h1 := K5.out.1; have h2 := HL2.out; omega
            go_enter Try.func25, Try.ntmps25
            go_wp2_with fail; ((with_reducible refine HCM.out.mono ?_); rintro e w1 ⟨rfl, hb1⟩)
            have B1 := hb.trans (hb1.mono hb.size)
            have p0 := (hb1.cell (p := ⟨w.heap.size, 0, none⟩) z0).trans g0
            have p1 := (hb1.cell (p := ⟨w.heap.size, 1, none⟩) z0).trans g1
            have z1 := Nat.lt_of_lt_of_le z0 hb1.size
            have cc := HFL.out w1 B1
            rw [k2] at cc
            have HC := Lib.hid cc
            clear cc
            go_wp2_with fail; ((with_reducible refine HC.out.mono ?_); rintro e w2 ⟨rfl, hb2⟩)
            have B2 := B1.trans (hb2.mono B1.size)
            have p0 := (hb2.cell (p := ⟨w.heap.size, 0, none⟩) z1).trans p0
            have p1 := (hb2.cell (p := ⟨w.heap.size, 1, none⟩) z1).trans p1
            have z2 := Nat.lt_of_lt_of_le z1 hb2.size
            clear k2
            have cc := l07Fans_any M n2 d A0 n0 c0 fs0 ⟨w.heap.size, 0, none⟩ w2 (HW.out.2.1 _ B2) hn0 hmn K2.out p1
            rw [k3] at cc
            have HC := Lib.hid cc
            clear cc
            go_wp2_with fail; ((with_reducible refine HC.out.mono ?_); rintro e w'' ⟨rfl, qq, rfl⟩)
            have B3 := below_drewN B2 qq
            have p1 : (w2.drewN qq).cell? ⟨w.heap.size, 1, none⟩ = _ := p1
            generalize w2.drewN qq = w3 at *
            have cc := l07Pressures_any n2 M d ⟨w.heap.size, 0, none⟩ A1 n2 c1 ds (w3) (HW.out.2.2.1 _ B3) hn1 p1
            rw [k4] at cc
            have HC := Lib.hid cc
            clear cc
            go_wp2_with fail; ((with_reducible refine HC.out.mono ?_); rintro e w' ⟨rfl, rfl⟩)
            have cc := l07Flows_any n2 M d ⟨w.heap.size, 0, none⟩ A2 n2 c2 fs (w3) (HW.out.2.2.2 _ B3) hn2 p1
            rw [k5] at cc
            have HC := Lib.hid cc
            clear cc
            go_wp2_with fail; ((with_reducible refine HC.out.mono ?_); rintro e w' ⟨rfl, rfl⟩)
            clear k3 k4 k5
            have cp := l07Pushes_any A0 n0 c0 fs0 A1 n2 c1 ds A2 c2 fs w3 (HW.out.2.1 _ B3) K2.out K3.out (HW.out.2.2.1 _ B3) (HW.out.2.2.2 _ B3) hmn K4.out.2 K5.out.2
            have HCP := Lib.hid cp
            clear cp
            go_wp2_with fail; ((with_reducible refine HCP.out.mono ?_); rintro e w9 ⟨A', c', rfl, hown, hb9⟩)
            have HO := Lib.hid hown
            clear hown
            go_wp2
            go_ret2
            rw [HV.out]
            exact ⟨A', n2, c', rfl, by show World.ownsRow _ _ _ _ _ _ _; rw [HLk.out]; exact own_base HO.out B3.size, by omega, B3.trans (hb9.mono B3.size)⟩
          · have HV := Lib.hid (puR_7 (xs := xs) (ds := ds) (fs := fs) K1.out K2.out (by rw [HLm.out, k5]; simp))
            go_enter Try.func25, Try.ntmps25
            go_wp2_with fail; ((with_reducible refine HCM.out.mono ?_); rintro e w1 ⟨rfl, hb1⟩)
            have B1 := hb.trans (hb1.mono hb.size)
            have p0 := (hb1.cell (p := ⟨w.heap.size, 0, none⟩) z0).trans g0
            have p1 := (hb1.cell (p := ⟨w.heap.size, 1, none⟩) z0).trans g1
            have z1 := Nat.lt_of_lt_of_le z0 hb1.size
            have cc := HFL.out w1 B1
            rw [k2] at cc
            have HC := Lib.hid cc
            clear cc
            go_wp2_with fail; ((with_reducible refine HC.out.mono ?_); rintro e w2 ⟨rfl, hb2⟩)
            have B2 := B1.trans (hb2.mono B1.size)
            have p0 := (hb2.cell (p := ⟨w.heap.size, 0, none⟩) z1).trans p0
            have p1 := (hb2.cell (p := ⟨w.heap.size, 1, none⟩) z1).trans p1
            have z2 := Nat.lt_of_lt_of_le z1 hb2.size
            clear k2
            have cc := l07Fans_any M m d A0 n0 c0 fs0 ⟨w.heap.size, 0, none⟩ w2 (HW.out.2.1 _ B2) hn0 hmn K2.out p1
            rw [k3] at cc
            have HC := Lib.hid cc
            clear cc
            go_wp2_with fail; ((with_reducible refine HC.out.mono ?_); rintro e w'' ⟨rfl, qq, rfl⟩)
            have B3 := below_drewN B2 qq
            have p1 : (w2.drewN qq).cell? ⟨w.heap.size, 1, none⟩ = _ := p1
            generalize w2.drewN qq = w3 at *
            have cc := l07Pressures_any m M d ⟨w.heap.size, 0, none⟩ A1 n1 c1 ds (w3) (HW.out.2.2.1 _ B3) hn1 p1
            rw [k4] at cc
            have HC := Lib.hid cc
            clear cc
            go_wp2_with fail; ((with_reducible refine HC.out.mono ?_); rintro e w' ⟨rfl, rfl⟩)
            have cc := l07Flows_any m M d ⟨w.heap.size, 0, none⟩ A2 n2 c2 fs (w3) (HW.out.2.2.2 _ B3) hn2 p1
            rw [k5] at cc
            have HC := Lib.hid cc
            clear cc
            go_wp2_with fail; ((with_reducible refine HC.out.mono ?_); rintro e w' ⟨rfl, rfl⟩)
            go_wp2
            go_ret2
            rw [HV.out]
            exact ⟨none, 0, 0, rfl, own_nil _ _ _ _, by omega, B3⟩
        · have HV := Lib.hid (puR_7 (xs := xs) (ds := ds) (fs := fs) K1.out K2.out (by rw [HLm.out, k4]; simp))
          go_enter Try.func25, Try.ntmps25
          go_wp2_with fail; ((with_reducible refine HCM.out.mono ?_); rintro e w1 ⟨rfl, hb1⟩)
          have B1 := hb.trans (hb1.mono hb.size)
          have p0 := (hb1.cell (p := ⟨w.heap.size, 0, none⟩) z0).trans g0
          have p1 := (hb1.cell (p := ⟨w.heap.size, 1, none⟩) z0).trans g1
          have z1 := Nat.lt_of_lt_of_le z0 hb1.size
          have cc := HFL.out w1 B1
          rw [k2] at cc
          have HC := Lib.hid cc
          clear cc
          go_wp2_with fail; ((with_reducible refine HC.out.mono ?_); rintro e w2 ⟨rfl, hb2⟩)
          have B2 := B1.trans (hb2.mono B1.size)
          have p0 := (hb2.cell (p := ⟨w.heap.size, 0, none⟩) z1).trans p0
          have p1 := (hb2.cell (p := ⟨w.heap.size, 1, none⟩) z1).trans p1
          have z2 := Nat.lt_of_lt_of_le z1 hb2.size
          clear k2
          have cc := l07Fans_any M m d A0 n0 c0 fs0 ⟨w.heap.size, 0, none⟩ w2 (HW.out.2.1 _ B2) hn0 hmn K2.out p1
          rw [k3] at cc
          have HC := Lib.hid cc
          clear cc
          go_wp2_with fail; ((with_reducible refine HC.out.mono ?_); rintro e w'' ⟨rfl, qq, rfl⟩)
          have B3 := below_drewN B2 qq
          have p1 : (w2.drewN qq).cell? ⟨w.heap.size, 1, none⟩ = _ := p1
          generalize w2.drewN qq = w3 at *
          have cc := l07Pressures_any m M d ⟨w.heap.size, 0, none⟩ A1 n1 c1 ds (w3) (HW.out.2.2.1 _ B3) hn1 p1
          rw [k4] at cc
          have HC := Lib.hid cc
          clear cc
          go_wp2_with fail; ((with_reducible refine HC.out.mono ?_); rintro e w' ⟨rfl, rfl⟩)
          go_wp2
          go_ret2
          rw [HV.out]
          exact ⟨none, 0, 0, rfl, own_nil _ _ _ _, by omega, B3⟩
      · have HV := Lib.hid (puR_7 (xs := xs) (ds := ds) (fs := fs) K1.out K2.out (by rw [HLm.out, k3]; simp))
        go_enter Try.func25, Try.ntmps25
        go_wp2_with fail; ((with_reducible refine HCM.out.mono ?_); rintro e w1 ⟨rfl, hb1⟩)
        have B1 := hb.trans (hb1.mono hb.size)
        have p0 := (hb1.cell (p := ⟨w.heap.size, 0, none⟩) z0).trans g0
        have p1 := (hb1.cell (p := ⟨w.heap.size, 1, none⟩) z0).trans g1
        have z1 := Nat.lt_of_lt_of_le z0 hb1.size
        have cc := HFL.out w1 B1
        rw [k2] at cc
        have HC := Lib.hid cc
        clear cc
        go_wp2_with fail; ((with_reducible refine HC.out.mono ?_); rintro e w2 ⟨rfl, hb2⟩)
        have B2 := B1.trans (hb2.mono B1.size)
        have p0 := (hb2.cell (p := ⟨w.heap.size, 0, none⟩) z1).trans p0
        have p1 := (hb2.cell (p := ⟨w.heap.size, 1, none⟩) z1).trans p1
        have z2 := Nat.lt_of_lt_of_le z1 hb2.size
        clear k2
        have cc := l07Fans_any M m d A0 n0 c0 fs0 ⟨w.heap.size, 0, none⟩ w2 (HW.out.2.1 _ B2) hn0 hmn K2.out p1
        rw [k3] at cc
        have HC := Lib.hid cc
        clear cc
        go_wp2_with fail; ((with_reducible refine HC.out.mono ?_); rintro e w'' ⟨rfl, qq, rfl⟩)
        have B3 := below_drewN B2 qq
        have p1 : (w2.drewN qq).cell? ⟨w.heap.size, 1, none⟩ = _ := p1
        generalize w2.drewN qq = w3 at *
        go_wp2
        go_ret2
        rw [HV.out]
        exact ⟨none, 0, 0, rfl, own_nil _ _ _ _, by omega, B3⟩
    · have HV := Lib.hid (puR_1 (J := J) (xs := xs) (ks := fdat fs0) (ds := ds) (fs := fs) (by rw [k2]; simp))
      go_enter Try.func25, Try.ntmps25
      go_wp2_with fail; ((with_reducible refine HCM.out.mono ?_); rintro e w1 ⟨rfl, hb1⟩)
      have B1 := hb.trans (hb1.mono hb.size)
      have p0 := (hb1.cell (p := ⟨w.heap.size, 0, none⟩) z0).trans g0
      have p1 := (hb1.cell (p := ⟨w.heap.size, 1, none⟩) z0).trans g1
      have z1 := Nat.lt_of_lt_of_le z0 hb1.size
      have cc := HFL.out w1 B1
      rw [k2] at cc
      have HC := Lib.hid cc
      clear cc
      go_wp2_with fail; ((with_reducible refine HC.out.mono ?_); rintro e w2 ⟨rfl, hb2⟩)
      have B2 := B1.trans (hb2.mono B1.size)
      have p0 := (hb2.cell (p := ⟨w.heap.size, 0, none⟩) z1).trans p0
      have p1 := (hb2.cell (p := ⟨w.heap.size, 1, none⟩) z1).trans p1
      have z2 := Nat.lt_of_lt_of_le z1 hb2.size
      go_wp2
      go_ret2
      rw [HV.out]
      exact ⟨none, 0, 0, rfl, own_nil _ _ _ _, by omega, B2⟩
  · have HV := Lib.hid (puR_1 (J := J) (xs := xs) (ks := fdat fs0) (ds := ds) (fs := fs) (by rw [k1]; simp))
    rw [k1] at cm
    have HCM := Lib.hid cm
    clear cm k1
    go_enter Try.func25, Try.ntmps25
    go_wp2_with fail; ((with_reducible refine HCM.out.mono ?_); rintro e w1 ⟨rfl, hb1⟩)
    have B1 := hb.trans (hb1.mono hb.size)
    have p0 := (hb1.cell (p := ⟨w.heap.size, 0, none⟩) z0).trans g0
    have p1 := (hb1.cell (p := ⟨w.heap.size, 1, none⟩) z0).trans g1
    have z1 := Nat.lt_of_lt_of_le z0 hb1.size
    go_wp2
    go_ret2
    rw [HV.out]
    exact ⟨none, 0, 0, rfl, own_nil _ _ _ _, by omega, B1⟩
set_option maxHeartbeats 3200000 in
set_option maxRecDepth 100000 in
theorem implPushesOf_any (J : Int) (M : Option Addr) (m d : Nat) (xs : List Awy) (A0 : Option Addr) (n0 c0 : Nat) (fs0 : List Fan) (A1 : Option Addr) (n1 c1 : Nat) (ds : List Int) (A2 : Option Addr) (n2 c2 : Nat) (fs : List Int) (w : World) (hm : Reads w w.heap.size 7 M m (Awy.recs xs)) (hmn : m ≤ 1048576) (hxs : ∀ x ∈ xs, x.s.size ≤ maxLen) (hr0 : FSS w w.heap.size A0 n0 fs0) (hn0 : n0 ≤ 1048576) (hx0 : ∀ x ∈ fs0, x.ok) (hr1 : Reads w w.heap.size 1 A1 n1 (ints ds)) (hn1 : n1 ≤ 1048576) (hr2 : Reads w w.heap.size 1 A2 n2 (ints fs)) (hn2 : n2 ≤ 1048576) :
    Calls Try.prog 27 #[.agg #[.int .i64 J, .slice M m d], .slice A0 n0 c0, .slice A1 n1 c1, .slice A2 n2 c2] w fun e w' => ∃ A' n' c', e = .returned (.tuple #[.slice A' n' c', .int .i64 (puR J xs (fdat fs0) ds fs).2]) ∧ w'.ownsRow w.heap.size 2 1 (.slice A' n' c') n' (ints (puR J xs (fdat fs0) ds fs).1) ∧ n' ≤ 1048576 ∧ Below w.heap.size w w' := by
  have HLm := Lib.hid (recs_rlen Awy.clen (by omega) hm)
  have HLk : Hid ((fdat fs0).length = n0) := show _ = _ by rw [fdat_len]; exact hr0.len
  have HL1 := Lib.hid (ints_len hr1)
  have HL2 := Lib.hid (ints_len hr2)
  have hb : Below w.heap.size w (w.alloc (.cells #[.int .i64 J, .slice M m d] 31)) := (Below.refl _ _).alloc (Nat.le_refl _) _
  have g0 : (w.alloc (.cells #[.int .i64 J, .slice M m d] 31)).cell? ⟨w.heap.size, 0, none⟩ = some (.int .i64 J) := ((Blk.new w _ _).cell 0).trans rfl
  have g1 : (w.alloc (.cells #[.int .i64 J, .slice M m d] 31)).cell? ⟨w.heap.size, 1, none⟩ = some (.slice M m d) := ((Blk.new w _ _).cell 1).trans rfl
  have z0 : w.heap.size < (w.alloc (.cells #[.int .i64 J, .slice M m d] 31)).heap.size := by simp
  have hmW : ∀ W, Below w.heap.size w W → Reads W W.heap.size 7 M m (Awy.recs xs) := fun W hb => (hm.below hb).more hb.size
  have h0W : ∀ W, Below w.heap.size w W → FSS W W.heap.size A0 n0 fs0 := fun W hb => (hr0.below hb).more hb.size
  have h1W : ∀ W, Below w.heap.size w W → Reads W W.heap.size 1 A1 n1 (ints ds) := fun W hb => (hr1.below hb).more hb.size
  have h2W : ∀ W, Below w.heap.size w W → Reads W W.heap.size 1 A2 n2 (ints fs) := fun W hb => (hr2.below hb).more hb.size
  have HW := Lib.hid (And.intro hmW (And.intro h0W (And.intro h1W h2W)))
  have cm := implValidMine_any J M m d xs (w.alloc (.cells #[.int .i64 J, .slice M m d] 31)) (hmW _ hb) hmn hxs
  have HFL : Hid (∀ W, Below w.heap.size w W → Calls Try.prog 66 #[.slice A0 n0 c0] W fun e w' => e = .returned (.bool (fansOk (fdat fs0))) ∧ Below W.heap.size W w') := fun W hb => implValidFans_any A0 n0 c0 fs0 W (h0W W hb) hn0 hx0
  clear hxs hx0 hmW h0W h1W h2W
  rcases Bool.eq_false_or_eq_true (mineOk J xs) with k1 | k1
  · rw [k1] at cm
    have HCM := Lib.hid cm
    clear cm
    rcases Bool.eq_false_or_eq_true (fansOk (fdat fs0)) with k2 | k2
    · have hm24 : m ≤ 24 := by have := (mineOk_t k1).2.1; rw [HLm.out] at this; exact this
      have K1 := Lib.hid k1
      have K2 := Lib.hid k2
      clear k1
      rcases Bool.eq_false_or_eq_true (lstOk m (-100000) 100000 fs) with k5 | k5
      · skip
        rcases Bool.eq_false_or_eq_true (lstOk m (-100000) 100000 ds) with k4 | k4
        · skip
          rcases Bool.eq_false_or_eq_true (fansIn m (fdat fs0)) with k3 | k3
          · skip
            have HV := Lib.hid (puR_0 (J := J) (xs := xs) (ks := fdat fs0) (ds := ds) (fs := fs) K1.out K2.out (by rw [HLm.out]; exact k3) (by rw [HLm.out]; exact k4) (by rw [HLm.out]; exact k5))
            have K3 := Lib.hid k3
            have K4 := Lib.hid (lstOk_t k4)
            have K5 := Lib.hid (lstOk_t k5)
            obtain rfl : n1 = m := by have h1 := K4.out.1; have h2 := HL1.out; omega
            obtain rfl : n2 = n1 := by have h1 := K5.out.1; have h2 := HL2.out; omega
            go_enter Try.func27, Try.ntmps27
            go_wp2_with fail; ((with_reducible refine HCM.out.mono ?_); rintro e w1 ⟨rfl, hb1⟩)
            have B1 := hb.trans (hb1.mono hb.size)
            have p0 := (hb1.cell (p := ⟨w.heap.size, 0, none⟩) z0).trans g0
            have p1 := (hb1.cell (p := ⟨w.heap.size, 1, none⟩) z0).trans g1
            have z1 := Nat.lt_of_lt_of_le z0 hb1.size
            have cc := HFL.out w1 B1
            rw [k2] at cc
            have HC := Lib.hid cc
            clear cc
            go_wp2_with fail; ((with_reducible refine HC.out.mono ?_); rintro e w2 ⟨rfl, hb2⟩)
            have B2 := B1.trans (hb2.mono B1.size)
            have p0 := (hb2.cell (p := ⟨w.heap.size, 0, none⟩) z1).trans p0
            have p1 := (hb2.cell (p := ⟨w.heap.size, 1, none⟩) z1).trans p1
            have z2 := Nat.lt_of_lt_of_le z1 hb2.size
            clear k2
            have cc := hasFlows_any J M n2 d A2 n2 c2 fs w2 (HW.out.2.2.2 _ B2) hn2
            rw [k5] at cc
            have HC := Lib.hid cc
            clear cc
            go_wp2_with fail; ((with_reducible refine HC.out.mono ?_); rintro e w3 ⟨rfl, hb3⟩)
            have B3 := B2.trans (hb3.mono B2.size)
            have p0 := (hb3.cell (p := ⟨w.heap.size, 0, none⟩) z2).trans p0
            have p1 := (hb3.cell (p := ⟨w.heap.size, 1, none⟩) z2).trans p1
            have z3 := Nat.lt_of_lt_of_le z2 hb3.size
            have cc := hasList_any J M n2 d A1 n2 c1 (-100000) 100000 ds w3 (HW.out.2.2.1 _ B3) hn1
            rw [k4] at cc
            have HC := Lib.hid cc
            clear cc
            go_wp2_with fail; ((with_reducible refine HC.out.mono ?_); rintro e w4 ⟨rfl, hb4⟩)
            have B4 := B3.trans (hb4.mono B3.size)
            have p0 := (hb4.cell (p := ⟨w.heap.size, 0, none⟩) z3).trans p0
            have p1 := (hb4.cell (p := ⟨w.heap.size, 1, none⟩) z3).trans p1
            have z4 := Nat.lt_of_lt_of_le z3 hb4.size
            have cc := hasFans_any J M n2 d A0 n0 c0 fs0 w4 (HW.out.2.1 _ B4) hn0 hmn
            rw [k3] at cc
            have HC := Lib.hid cc
            clear cc
            go_wp2_with fail; ((with_reducible refine HC.out.mono ?_); rintro e w5 ⟨rfl, hb5⟩)
            have B5 := B4.trans (hb5.mono B4.size)
            have p0 := (hb5.cell (p := ⟨w.heap.size, 0, none⟩) z4).trans p0
            have p1 := (hb5.cell (p := ⟨w.heap.size, 1, none⟩) z4).trans p1
            have z5 := Nat.lt_of_lt_of_le z4 hb5.size
            clear k3 k4 k5
            have cp := pushesOf_any A0 n0 c0 fs0 A1 n2 c1 ds A2 c2 fs w5 (HW.out.2.1 _ B5) K2.out K3.out (HW.out.2.2.1 _ B5) (HW.out.2.2.2 _ B5) hmn K4.out.2 K5.out.2
            have HCP := Lib.hid cp
            clear cp
            go_wp2_with fail; ((with_reducible refine HCP.out.mono ?_); rintro e w9 ⟨A', c', rfl, hown, hb9⟩)
            have HO := Lib.hid hown
            clear hown
            go_wp2
            go_ret2
            rw [HV.out]
            exact ⟨A', n2, c', rfl, by show World.ownsRow _ _ _ _ _ _ _; rw [HLk.out]; exact own_base HO.out B5.size, by omega, B5.trans (hb9.mono B5.size)⟩
          · have HV := Lib.hid (puR_7 (xs := xs) (ds := ds) (fs := fs) K1.out K2.out (by rw [HLm.out, k3]; simp))
            go_enter Try.func27, Try.ntmps27
            go_wp2_with fail; ((with_reducible refine HCM.out.mono ?_); rintro e w1 ⟨rfl, hb1⟩)
            have B1 := hb.trans (hb1.mono hb.size)
            have p0 := (hb1.cell (p := ⟨w.heap.size, 0, none⟩) z0).trans g0
            have p1 := (hb1.cell (p := ⟨w.heap.size, 1, none⟩) z0).trans g1
            have z1 := Nat.lt_of_lt_of_le z0 hb1.size
            have cc := HFL.out w1 B1
            rw [k2] at cc
            have HC := Lib.hid cc
            clear cc
            go_wp2_with fail; ((with_reducible refine HC.out.mono ?_); rintro e w2 ⟨rfl, hb2⟩)
            have B2 := B1.trans (hb2.mono B1.size)
            have p0 := (hb2.cell (p := ⟨w.heap.size, 0, none⟩) z1).trans p0
            have p1 := (hb2.cell (p := ⟨w.heap.size, 1, none⟩) z1).trans p1
            have z2 := Nat.lt_of_lt_of_le z1 hb2.size
            clear k2
            have cc := hasFlows_any J M m d A2 n2 c2 fs w2 (HW.out.2.2.2 _ B2) hn2
            rw [k5] at cc
            have HC := Lib.hid cc
            clear cc
            go_wp2_with fail; ((with_reducible refine HC.out.mono ?_); rintro e w3 ⟨rfl, hb3⟩)
            have B3 := B2.trans (hb3.mono B2.size)
            have p0 := (hb3.cell (p := ⟨w.heap.size, 0, none⟩) z2).trans p0
            have p1 := (hb3.cell (p := ⟨w.heap.size, 1, none⟩) z2).trans p1
            have z3 := Nat.lt_of_lt_of_le z2 hb3.size
            have cc := hasList_any J M m d A1 n1 c1 (-100000) 100000 ds w3 (HW.out.2.2.1 _ B3) hn1
            rw [k4] at cc
            have HC := Lib.hid cc
            clear cc
            go_wp2_with fail; ((with_reducible refine HC.out.mono ?_); rintro e w4 ⟨rfl, hb4⟩)
            have B4 := B3.trans (hb4.mono B3.size)
            have p0 := (hb4.cell (p := ⟨w.heap.size, 0, none⟩) z3).trans p0
            have p1 := (hb4.cell (p := ⟨w.heap.size, 1, none⟩) z3).trans p1
            have z4 := Nat.lt_of_lt_of_le z3 hb4.size
            have cc := hasFans_any J M m d A0 n0 c0 fs0 w4 (HW.out.2.1 _ B4) hn0 hmn
            rw [k3] at cc
            have HC := Lib.hid cc
            clear cc
            go_wp2_with fail; ((with_reducible refine HC.out.mono ?_); rintro e w5 ⟨rfl, hb5⟩)
            have B5 := B4.trans (hb5.mono B4.size)
            have p0 := (hb5.cell (p := ⟨w.heap.size, 0, none⟩) z4).trans p0
            have p1 := (hb5.cell (p := ⟨w.heap.size, 1, none⟩) z4).trans p1
            have z5 := Nat.lt_of_lt_of_le z4 hb5.size
            go_wp2
            go_ret2
            rw [HV.out]
            exact ⟨none, 0, 0, rfl, own_nil _ _ _ _, by omega, B5⟩
        · have HV := Lib.hid (puR_7 (xs := xs) (ds := ds) (fs := fs) K1.out K2.out (by rw [HLm.out, k4]; simp))
          go_enter Try.func27, Try.ntmps27
          go_wp2_with fail; ((with_reducible refine HCM.out.mono ?_); rintro e w1 ⟨rfl, hb1⟩)
          have B1 := hb.trans (hb1.mono hb.size)
          have p0 := (hb1.cell (p := ⟨w.heap.size, 0, none⟩) z0).trans g0
          have p1 := (hb1.cell (p := ⟨w.heap.size, 1, none⟩) z0).trans g1
          have z1 := Nat.lt_of_lt_of_le z0 hb1.size
          have cc := HFL.out w1 B1
          rw [k2] at cc
          have HC := Lib.hid cc
          clear cc
          go_wp2_with fail; ((with_reducible refine HC.out.mono ?_); rintro e w2 ⟨rfl, hb2⟩)
          have B2 := B1.trans (hb2.mono B1.size)
          have p0 := (hb2.cell (p := ⟨w.heap.size, 0, none⟩) z1).trans p0
          have p1 := (hb2.cell (p := ⟨w.heap.size, 1, none⟩) z1).trans p1
          have z2 := Nat.lt_of_lt_of_le z1 hb2.size
          clear k2
          have cc := hasFlows_any J M m d A2 n2 c2 fs w2 (HW.out.2.2.2 _ B2) hn2
          rw [k5] at cc
          have HC := Lib.hid cc
          clear cc
          go_wp2_with fail; ((with_reducible refine HC.out.mono ?_); rintro e w3 ⟨rfl, hb3⟩)
          have B3 := B2.trans (hb3.mono B2.size)
          have p0 := (hb3.cell (p := ⟨w.heap.size, 0, none⟩) z2).trans p0
          have p1 := (hb3.cell (p := ⟨w.heap.size, 1, none⟩) z2).trans p1
          have z3 := Nat.lt_of_lt_of_le z2 hb3.size
          have cc := hasList_any J M m d A1 n1 c1 (-100000) 100000 ds w3 (HW.out.2.2.1 _ B3) hn1
          rw [k4] at cc
          have HC := Lib.hid cc
          clear cc
          go_wp2_with fail; ((with_reducible refine HC.out.mono ?_); rintro e w4 ⟨rfl, hb4⟩)
          have B4 := B3.trans (hb4.mono B3.size)
          have p0 := (hb4.cell (p := ⟨w.heap.size, 0, none⟩) z3).trans p0
          have p1 := (hb4.cell (p := ⟨w.heap.size, 1, none⟩) z3).trans p1
          have z4 := Nat.lt_of_lt_of_le z3 hb4.size
          go_wp2
          go_ret2
          rw [HV.out]
          exact ⟨none, 0, 0, rfl, own_nil _ _ _ _, by omega, B4⟩
      · have HV := Lib.hid (puR_7 (xs := xs) (ds := ds) (fs := fs) K1.out K2.out (by rw [HLm.out, k5]; simp))
        go_enter Try.func27, Try.ntmps27
        go_wp2_with fail; ((with_reducible refine HCM.out.mono ?_); rintro e w1 ⟨rfl, hb1⟩)
        have B1 := hb.trans (hb1.mono hb.size)
        have p0 := (hb1.cell (p := ⟨w.heap.size, 0, none⟩) z0).trans g0
        have p1 := (hb1.cell (p := ⟨w.heap.size, 1, none⟩) z0).trans g1
        have z1 := Nat.lt_of_lt_of_le z0 hb1.size
        have cc := HFL.out w1 B1
        rw [k2] at cc
        have HC := Lib.hid cc
        clear cc
        go_wp2_with fail; ((with_reducible refine HC.out.mono ?_); rintro e w2 ⟨rfl, hb2⟩)
        have B2 := B1.trans (hb2.mono B1.size)
        have p0 := (hb2.cell (p := ⟨w.heap.size, 0, none⟩) z1).trans p0
        have p1 := (hb2.cell (p := ⟨w.heap.size, 1, none⟩) z1).trans p1
        have z2 := Nat.lt_of_lt_of_le z1 hb2.size
        clear k2
        have cc := hasFlows_any J M m d A2 n2 c2 fs w2 (HW.out.2.2.2 _ B2) hn2
        rw [k5] at cc
        have HC := Lib.hid cc
        clear cc
        go_wp2_with fail; ((with_reducible refine HC.out.mono ?_); rintro e w3 ⟨rfl, hb3⟩)
        have B3 := B2.trans (hb3.mono B2.size)
        have p0 := (hb3.cell (p := ⟨w.heap.size, 0, none⟩) z2).trans p0
        have p1 := (hb3.cell (p := ⟨w.heap.size, 1, none⟩) z2).trans p1
        have z3 := Nat.lt_of_lt_of_le z2 hb3.size
        go_wp2
        go_ret2
        rw [HV.out]
        exact ⟨none, 0, 0, rfl, own_nil _ _ _ _, by omega, B3⟩
    · have HV := Lib.hid (puR_1 (J := J) (xs := xs) (ks := fdat fs0) (ds := ds) (fs := fs) (by rw [k2]; simp))
      go_enter Try.func27, Try.ntmps27
      go_wp2_with fail; ((with_reducible refine HCM.out.mono ?_); rintro e w1 ⟨rfl, hb1⟩)
      have B1 := hb.trans (hb1.mono hb.size)
      have p0 := (hb1.cell (p := ⟨w.heap.size, 0, none⟩) z0).trans g0
      have p1 := (hb1.cell (p := ⟨w.heap.size, 1, none⟩) z0).trans g1
      have z1 := Nat.lt_of_lt_of_le z0 hb1.size
      have cc := HFL.out w1 B1
      rw [k2] at cc
      have HC := Lib.hid cc
      clear cc
      go_wp2_with fail; ((with_reducible refine HC.out.mono ?_); rintro e w2 ⟨rfl, hb2⟩)
      have B2 := B1.trans (hb2.mono B1.size)
      have p0 := (hb2.cell (p := ⟨w.heap.size, 0, none⟩) z1).trans p0
      have p1 := (hb2.cell (p := ⟨w.heap.size, 1, none⟩) z1).trans p1
      have z2 := Nat.lt_of_lt_of_le z1 hb2.size
      go_wp2
      go_ret2
      rw [HV.out]
      exact ⟨none, 0, 0, rfl, own_nil _ _ _ _, by omega, B2⟩
  · have HV := Lib.hid (puR_1 (J := J) (xs := xs) (ks := fdat fs0) (ds := ds) (fs := fs) (by rw [k1]; simp))
    rw [k1] at cm
    have HCM := Lib.hid cm
    clear cm k1
    go_enter Try.func27, Try.ntmps27
    go_wp2_with fail; ((with_reducible refine HCM.out.mono ?_); rintro e w1 ⟨rfl, hb1⟩)
    have B1 := hb.trans (hb1.mono hb.size)
    have p0 := (hb1.cell (p := ⟨w.heap.size, 0, none⟩) z0).trans g0
    have p1 := (hb1.cell (p := ⟨w.heap.size, 1, none⟩) z0).trans g1
    have z1 := Nat.lt_of_lt_of_le z0 hb1.size
    go_wp2
    go_ret2
    rw [HV.out]
    exact ⟨none, 0, 0, rfl, own_nil _ _ _ _, by omega, B1⟩
end Go.Proofs.Ytjmhhbjbmgpagaa

/- Junctions that airways join: plain laws. Nothing of the program is named here. -/
namespace Go.Proofs.Ytjmhhbjbmgpagaa
set_option linter.unusedVariables false
set_option linter.unusedSimpArgs false
abbrev Edges := List (Nat × Nat)
def eA (E : Edges) (i : Nat) : Nat := (E.getD i (0, 0)).1
def eB (E : Edges) (i : Nat) : Nat := (E.getD i (0, 0)).2
/-- From u one comes to v along airways of T. -/
inductive Conn (E : Edges) (T : List Nat) (u : Nat) : Nat → Prop
  | refl : Conn E T u u
  | fwd {i : Nat} : Conn E T u (eA E i) → i ∈ T → Conn E T u (eB E i)
  | bwd {i : Nat} : Conn E T u (eB E i) → i ∈ T → Conn E T u (eA E i)
section
variable {E : Edges} {T : List Nat} {u v x : Nat}
theorem Conn.trans (h : Conn E T u v) (k : Conn E T v x) : Conn E T u x := by
  induction k with
  | refl => exact h
  | fwd _ hi ih => exact ih.fwd hi
  | bwd _ hi ih => exact ih.bwd hi
theorem Conn.symm (h : Conn E T u v) : Conn E T v u := by
  induction h with
  | refl => exact .refl
  | fwd _ hi ih => exact (Conn.bwd .refl hi).trans ih
  | bwd _ hi ih => exact (Conn.fwd .refl hi).trans ih
theorem conn_nil : Conn E [] u v ↔ u = v := by
  constructor
  · intro h
    cases h with
    | refl => rfl
    | fwd _ hi => simp at hi
    | bwd _ hi => simp at hi
  · rintro rfl; exact .refl
theorem Conn.mono {T' : List Nat} (h : Conn E T u v) (hs : ∀ i ∈ T, i ∈ T') : Conn E T' u v := by
  induction h with
  | refl => exact .refl
  | fwd _ hi ih => exact ih.fwd (hs _ hi)
  | bwd _ hi ih => exact ih.bwd (hs _ hi)
theorem conn_snoc {i : Nat} : Conn E (T ++ [i]) u v ↔ Conn E T u v ∨ (Conn E T u (eA E i) ∧ Conn E T (eB E i) v) ∨ (Conn E T u (eB E i) ∧ Conn E T (eA E i) v) := by
  constructor
  · intro h
    induction h with
    | refl => exact .inl .refl
    | @fwd j _ hj ih =>
      rcases List.mem_append.1 hj with hj | hj
      · rcases ih with h | ⟨h1, h2⟩ | ⟨h1, h2⟩
        · exact .inl (h.fwd hj)
        · exact .inr (.inl ⟨h1, h2.fwd hj⟩)
        · exact .inr (.inr ⟨h1, h2.fwd hj⟩)
      · rw [List.mem_singleton] at hj
        subst hj
        rcases ih with h | ⟨h1, h2⟩ | ⟨h1, h2⟩
        · exact .inr (.inl ⟨h, .refl⟩)
        · exact .inr (.inl ⟨h1, .refl⟩)
        · exact .inl h1
    | @bwd j _ hj ih =>
      rcases List.mem_append.1 hj with hj | hj
      · rcases ih with h | ⟨h1, h2⟩ | ⟨h1, h2⟩
        · exact .inl (h.bwd hj)
        · exact .inr (.inl ⟨h1, h2.bwd hj⟩)
        · exact .inr (.inr ⟨h1, h2.bwd hj⟩)
      · rw [List.mem_singleton] at hj
        subst hj
        rcases ih with h | ⟨h1, h2⟩ | ⟨h1, h2⟩
        · exact .inr (.inr ⟨h, .refl⟩)
        · exact .inl h1
        · exact .inr (.inr ⟨h1, .refl⟩)
  · have hm : ∀ j ∈ T, j ∈ T ++ [i] := fun j hj => List.mem_append_left _ hj
    have hi : i ∈ T ++ [i] := List.mem_append_right _ (List.mem_singleton.2 rfl)
    rintro (h | ⟨h1, h2⟩ | ⟨h1, h2⟩)
    · exact h.mono hm
    · exact ((h1.mono hm).fwd hi).trans (h2.mono hm)
    · exact ((h1.mono hm).bwd hi).trans (h2.mono hm)
end
theorem getD_map {p : List Nat} {f : Nat → Nat} {u : Nat} (h : u < p.length) : (p.map f).getD u 0 = f (p.getD u 0) := by
  rw [List.getD_eq_getElem?_getD, List.getD_eq_getElem?_getD, List.getElem?_map, List.getElem?_eq_getElem h]; rfl
/-- Labels x and y become one. -/
def mrg (p : List Nat) (x y : Nat) : List Nat := p.map fun l => if l = max x y then min x y else l
def stepP (E : Edges) (p : List Nat) (i : Nat) : List Nat := mrg p (p.getD (eA E i) 0) (p.getD (eB E i) 0)
def partsL (E : Edges) (J : Nat) (T : List Nat) : List Nat := T.foldl (stepP E) (List.range J)
theorem mrg_eq (x y s t : Nat) : ((if s = max x y then min x y else s) = if t = max x y then min x y else t) ↔ s = t ∨ (s = x ∧ t = y) ∨ (s = y ∧ t = x) := by
  split <;> split <;> omega
structure IsParts (E : Edges) (J : Nat) (T : List Nat) (p : List Nat) : Prop where
  len : p.length = J
  iff : ∀ u v, u < J → v < J → (p.getD u 0 = p.getD v 0 ↔ Conn E T u v)
theorem isParts_step {E : Edges} {J : Nat} {T p : List Nat} {i : Nat} (h : IsParts E J T p) (ha : eA E i < J) (hb : eB E i < J) : IsParts E J (T ++ [i]) (stepP E p i) := by
  refine ⟨by unfold stepP mrg; rw [List.length_map, h.len], fun u v hu hv => ?_⟩
  unfold stepP mrg
  rw [getD_map (by rw [h.len]; exact hu), getD_map (by rw [h.len]; exact hv), mrg_eq, conn_snoc, h.iff u v hu hv, h.iff u _ hu ha, h.iff u _ hu hb]
  rw [show (p.getD v 0 = p.getD (eB E i) 0) ↔ Conn E T (eB E i) v from ⟨fun e => (h.iff _ v hb hv).1 e.symm, fun e => ((h.iff _ v hb hv).2 e).symm⟩]
  rw [show (p.getD v 0 = p.getD (eA E i) 0) ↔ Conn E T (eA E i) v from ⟨fun e => (h.iff _ v ha hv).1 e.symm, fun e => ((h.iff _ v ha hv).2 e).symm⟩]
theorem isParts_fold {E : Edges} {J : Nat} : ∀ {T T0 p : List Nat}, IsParts E J T0 p → (∀ i ∈ T, eA E i < J ∧ eB E i < J) → IsParts E J (T0 ++ T) (T.foldl (stepP E) p)
  | [], T0, p, h, _ => by simpa using h
  | i :: t, T0, p, h, hr => by
    have h1 := hr i (List.mem_cons_self ..)
    have h2 := isParts_fold (T := t) (isParts_step h h1.1 h1.2) fun j hj => hr j (List.mem_cons_of_mem _ hj)
    rw [List.append_assoc] at h2
    exact h2
theorem parts_char {E : Edges} {J : Nat} {T : List Nat} (hr : ∀ i ∈ T, eA E i < J ∧ eB E i < J) : IsParts E J T (partsL E J T) := by
  have h0 : IsParts E J [] (List.range J) := by
    refine ⟨by simp, fun u v hu hv => ?_⟩
    rw [conn_nil, List.getD_eq_getElem?_getD, List.getD_eq_getElem?_getD, List.getElem?_range hu, List.getElem?_range hv]; rfl
  have h := isParts_fold h0 hr
  rw [List.nil_append] at h
  exact h
/-- The airways that join junctions that were not joined yet, among the first k. -/
def treeL (E : Edges) (J : Nat) : Nat → List Nat
  | 0 => []
  | k + 1 => if (partsL E J (treeL E J k)).getD (eA E k) 0 = (partsL E J (treeL E J k)).getD (eB E k) 0 then treeL E J k else treeL E J k ++ [k]
theorem treeL_lt (E : Edges) (J : Nat) : ∀ k, ∀ i ∈ treeL E J k, i < k
  | 0, i, h => by simp [treeL] at h
  | k + 1, i, h => by
    simp only [treeL] at h
    split at h
    · have := treeL_lt E J k i h; omega
    · rcases List.mem_append.1 h with h | h
      · have := treeL_lt E J k i h; omega
      · rw [List.mem_singleton] at h; omega
theorem treeL_len (E : Edges) (J : Nat) : ∀ k, (treeL E J k).length ≤ k
  | 0 => by simp [treeL]
  | k + 1 => by
    have := treeL_len E J k
    simp only [treeL]
    split
    · omega
    · simp; omega
theorem treeL_y {E : Edges} {J k : Nat} (h : Conn E (treeL E J k) (eA E k) (eB E k)) (hr : ∀ i, i ≤ k → eA E i < J ∧ eB E i < J) : treeL E J (k + 1) = treeL E J k := by
  have hp := parts_char (E := E) (J := J) (T := treeL E J k) fun i hi => hr i (Nat.le_of_lt (treeL_lt E J k i hi))
  simp only [treeL]
  rw [if_pos ((hp.iff _ _ (hr k (Nat.le_refl _)).1 (hr k (Nat.le_refl _)).2).2 h)]
theorem treeL_n {E : Edges} {J k : Nat} (h : ¬ Conn E (treeL E J k) (eA E k) (eB E k)) (hr : ∀ i, i ≤ k → eA E i < J ∧ eB E i < J) : treeL E J (k + 1) = treeL E J k ++ [k] := by
  have hp := parts_char (E := E) (J := J) (T := treeL E J k) fun i hi => hr i (Nat.le_of_lt (treeL_lt E J k i hi))
  simp only [treeL]
  rw [if_neg fun e => h ((hp.iff _ _ (hr k (Nat.le_refl _)).1 (hr k (Nat.le_refl _)).2).1 e)]
/-- The whole tree joins the ends of each airway. -/
theorem treeL_sub (E : Edges) (J : Nat) {k l : Nat} (h : k ≤ l) : ∀ i ∈ treeL E J k, i ∈ treeL E J l := by
  induction l with
  | zero => obtain rfl : k = 0 := by omega
            exact fun i hi => hi
  | succ l ih =>
    intro i hi
    rcases Nat.lt_or_ge l k with h1 | h1
    · obtain rfl : k = l + 1 := by omega
      exact hi
    · have h2 := ih h1 i hi
      simp only [treeL]
      split
      · exact h2
      · exact List.mem_append_left _ h2
theorem tree_conn {E : Edges} {J n k : Nat} (hk : k < n) (hr : ∀ i, i < n → eA E i < J ∧ eB E i < J) : Conn E (treeL E J n) (eA E k) (eB E k) := by
  have h1 : Conn E (treeL E J (k + 1)) (eA E k) (eB E k) := by
    by_cases h : Conn E (treeL E J k) (eA E k) (eB E k)
    · rw [treeL_y h fun i hi => hr i (by omega)]; exact h
    · rw [treeL_n h fun i hi => hr i (by omega)]
      exact (Conn.refl).fwd (List.mem_append_right _ (List.mem_singleton.2 rfl))
  exact h1.mono (treeL_sub E J (by omega))
/-- A walk of n airways of T leads from u to the end. -/
inductive Wlk (E : Edges) (T : List Nat) (to : Nat) : Nat → Nat → Prop
  | zero : Wlk E T to 0 to
  | fwd {n i : Nat} : Wlk E T to n (eA E i) → i ∈ T → Wlk E T to (n + 1) (eB E i)
  | bwd {n i : Nat} : Wlk E T to n (eB E i) → i ∈ T → Wlk E T to (n + 1) (eA E i)
def isDist (E : Edges) (T : List Nat) (to n u : Nat) : Prop := Wlk E T to n u ∧ ∀ m, m < n → ¬ Wlk E T to m u
section
variable {E : Edges} {T : List Nat} {to u v n m : Nat}
theorem dist_unique (h : isDist E T to n u) (k : isDist E T to m u) : n = m := by
  rcases Nat.lt_trichotomy n m with g | g | g
  · exact absurd h.1 (k.2 n g)
  · exact g
  · exact absurd k.1 (h.2 m g)
theorem dist_exists : ∀ n, Wlk E T to n u → ∃ m, m ≤ n ∧ isDist E T to m u := by
  intro n
  induction n using Nat.strongRecOn with
  | _ n ih =>
    intro h
    by_cases hx : ∃ m, m < n ∧ Wlk E T to m u
    · obtain ⟨m, hm, hw⟩ := hx
      obtain ⟨q, hq, hd⟩ := ih m hm hw
      exact ⟨q, by omega, hd⟩
    · exact ⟨n, Nat.le_refl _, h, fun m hm hw => hx ⟨m, hm, hw⟩⟩
theorem dist_zero : isDist E T to 0 u ↔ u = to := by
  constructor
  · intro h
    generalize hz : 0 = z at h
    cases h.1 with
    | zero => rfl
    | fwd _ _ => cases hz
    | bwd _ _ => cases hz
  · rintro rfl; exact ⟨.zero, fun m hm => absurd hm (Nat.not_lt_zero _)⟩
theorem wlk_of_conn (h : Conn E T to u) : ∃ n, Wlk E T to n u := by
  induction h with
  | refl => exact ⟨0, .zero⟩
  | fwd _ hi ih => obtain ⟨n, hn⟩ := ih; exact ⟨n + 1, hn.fwd hi⟩
  | bwd _ hi ih => obtain ⟨n, hn⟩ := ih; exact ⟨n + 1, hn.bwd hi⟩
/-- The next junction on a shortest walk. -/
theorem dist_pred (h : isDist E T to (n + 1) u) : ∃ i, i ∈ T ∧ ∃ v, isDist E T to n v ∧ ((u = eB E i ∧ v = eA E i) ∨ (u = eA E i ∧ v = eB E i)) := by
  obtain ⟨h1, h2⟩ := h
  generalize hz : n + 1 = z at h1 h2
  cases h1 with
  | zero => cases hz
  | @fwd n' i hw hi =>
    obtain rfl : n = n' := by omega
    refine ⟨i, hi, _, ⟨hw, fun m hm hm' => h2 (m + 1) (by omega) (hm'.fwd hi)⟩, .inl ⟨rfl, rfl⟩⟩
  | @bwd n' i hw hi =>
    obtain rfl : n = n' := by omega
    refine ⟨i, hi, _, ⟨hw, fun m hm hm' => h2 (m + 1) (by omega) (hm'.bwd hi)⟩, .inr ⟨rfl, rfl⟩⟩
/-- Distances of neighbours differ by one at most. -/
theorem dist_near (h : isDist E T to n u) (hw : Wlk E T to (n + 1) v) : ∃ m, m ≤ n + 1 ∧ isDist E T to m v := dist_exists _ hw
theorem dist_down (h : isDist E T to n u) : ∀ m, m ≤ n → ∃ v, isDist E T to m v := by
  induction n generalizing u with
  | zero => intro m hm; obtain rfl : m = 0 := by omega
            exact ⟨u, h⟩
  | succ n ih =>
    intro m hm
    rcases Nat.lt_or_ge n m with h1 | h1
    · obtain rfl : m = n + 1 := by omega
      exact ⟨u, h⟩
    · obtain ⟨i, _, v, hv, _⟩ := dist_pred h
      exact ih hv m h1
end
theorem nodup_le : ∀ (J : Nat) (l : List Nat), l.Nodup → (∀ x ∈ l, x < J) → l.length ≤ J
  | 0, l, _, h => by
    cases l with
    | nil => simp
    | cons x t => exact absurd (h x (List.mem_cons_self ..)) (Nat.not_lt_zero _)
  | J + 1, l, hn, h => by
    have h1 := nodup_le J (l.erase J) (hn.erase J) fun x hx => by
      have h2 := h x (List.mem_of_mem_erase hx)
      have h3 : x ≠ J := by rintro rfl; exact hn.not_mem_erase hx
      omega
    by_cases hm : J ∈ l
    · rw [List.length_erase_of_mem hm] at h1; omega
    · rw [List.erase_of_not_mem hm] at h1; omega
/-- A distance is less than the number of junctions. -/
theorem dist_lt {E : Edges} {T : List Nat} {to J n u : Nat} (hto : to < J) (hr : ∀ i ∈ T, eA E i < J ∧ eB E i < J) (h : isDist E T to n u) : n < J := by
  have hin : ∀ m v, Wlk E T to m v → v < J := fun m v hw => by
    cases hw with
    | zero => exact hto
    | fwd _ hi => exact (hr _ hi).2
    | bwd _ hi => exact (hr _ hi).1
  have key : ∀ k, k ≤ n + 1 → ∃ l : List Nat, l.length = k ∧ l.Nodup ∧ ∀ x ∈ l, x < J ∧ ∃ m, m < k ∧ isDist E T to m x := by
    intro k
    induction k with
    | zero => exact fun _ => ⟨[], rfl, List.nodup_nil, fun x hx => by simp at hx⟩
    | succ k ih =>
      intro hk
      obtain ⟨l, h1, h2, h3⟩ := ih (by omega)
      obtain ⟨v, hv⟩ := dist_down h k (by omega)
      refine ⟨v :: l, by simp [h1], List.nodup_cons.2 ⟨fun hm => ?_, h2⟩, fun x hx => ?_⟩
      · obtain ⟨_, m, hm1, hm2⟩ := h3 v hm
        have := dist_unique hv hm2
        omega
      · rcases List.mem_cons.1 hx with rfl | hx
        · exact ⟨hin _ _ hv.1, k, by omega, hv⟩
        · obtain ⟨g1, m, g2, g3⟩ := h3 x hx
          exact ⟨g1, m, by omega, g3⟩
  obtain ⟨l, h1, h2, h3⟩ := key (n + 1) (Nat.le_refl _)
  have := nodup_le J l h2 fun x hx => (h3 x hx).1
  omega
end Go.Proofs.Ytjmhhbjbmgpagaa
