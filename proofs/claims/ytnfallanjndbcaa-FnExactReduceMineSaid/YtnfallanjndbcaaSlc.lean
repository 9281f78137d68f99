/- Slices of numbers: plain lemmas and the contracts of slices.IndexFunc, ContainsFunc, Clone, Max, Min, of sums and of bounds. -/
import Derived.Test.YtnfallanjndbcaaCopy
import Derived.Shelf.Abstract
namespace Go.Proofs.Ytnfallanjndbcaa
set_option linter.unusedVariables false
set_option linter.unusedSimpArgs false
open Go.RowKit
section
variable {α : Type}
theorem take_snoc {xs : List α} {k : Nat} {x : α} (h : xs[k]? = some x) : xs.take (k + 1) = xs.take k ++ [x] := by
  rw [List.take_add_one, h]; simp
theorem mem_of_at {xs : List α} {k : Nat} {x : α} (h : xs[k]? = some x) : x ∈ xs := List.mem_of_getElem? h
theorem all_take {xs : List α} {p : α → Bool} {k : Nat} {x : α} (h : xs[k]? = some x) (ha : (xs.take k).all p = true) (hx : p x = true) : (xs.take (k + 1)).all p = true := by
  rw [take_snoc h]; simp [ha, hx]
theorem all_false {xs : List α} {p : α → Bool} {k : Nat} {x : α} (h : xs[k]? = some x) (hx : p x = false) : xs.all p = false := by
  rw [List.all_eq_false]; exact ⟨x, mem_of_at h, by rw [hx]; exact Bool.false_ne_true⟩
theorem all_whole {xs : List α} {p : α → Bool} {n : Nat} (hl : xs.length = n) (ha : (xs.take n).all p = true) : xs.all p = true := by
  rwa [List.take_of_length_le (by omega)] at ha
theorem all_mem {xs : List α} {p : α → Bool} (h : xs.all p = true) {x : α} (hx : x ∈ xs) : p x = true := List.all_eq_true.1 h x hx
/-- The first place at which p holds, or -1. -/
def idxI (p : α → Bool) (xs : List α) : Int := match xs.findIdx? p with | some k => (k : Int) | none => -1
theorem idx_at {p : α → Bool} {xs : List α} {k : Nat} {x : α} (h : xs[k]? = some x) (hx : p x = true) (hb : (xs.take k).any p = false) : idxI p xs = k := by
  have hk : k < xs.length := by
    rcases Nat.lt_or_ge k xs.length with h1 | h1
    · exact h1
    · rw [List.getElem?_eq_none h1] at h; cases h
  have e : xs.findIdx? p = some k := by
    rw [List.findIdx?_eq_some_iff_getElem]
    refine ⟨hk, ?_, fun j hj => ?_⟩
    · rw [List.getElem?_eq_getElem hk] at h
      rw [Option.some.inj h]; exact hx
    · rw [List.any_eq_false] at hb
      have hm : xs[j]'(by omega) ∈ xs.take k := by
        rw [List.mem_take_iff_getElem]
        exact ⟨j, by omega, rfl⟩
      exact hb _ hm
  unfold idxI; rw [e]
theorem idx_none {p : α → Bool} {xs : List α} (hb : xs.any p = false) : idxI p xs = -1 := by
  have e : xs.findIdx? p = none := by
    rw [List.findIdx?_eq_none_iff]
    intro x hx
    rw [List.any_eq_false] at hb
    simpa using hb x hx
  unfold idxI; rw [e]
theorem any_take {xs : List α} {p : α → Bool} {k : Nat} {x : α} (h : xs[k]? = some x) (ha : (xs.take k).any p = false) (hx : p x = false) : (xs.take (k + 1)).any p = false := by
  rw [take_snoc h]; simp [ha, hx]
theorem idx_any {p : α → Bool} {xs : List α} : decide (0 ≤ idxI p xs) = xs.any p := by
  unfold idxI
  cases e : xs.findIdx? p with
  | none =>
    rw [List.findIdx?_eq_none_iff] at e
    have : xs.any p = false := by rw [List.any_eq_false]; intro x hx; rw [e x hx]; exact Bool.false_ne_true
    rw [this]; rfl
  | some k =>
    rw [List.findIdx?_eq_some_iff_getElem] at e
    obtain ⟨hk, hp, _⟩ := e
    have : xs.any p = true := List.any_eq_true.2 ⟨_, List.getElem_mem hk, hp⟩
    rw [this]
    show decide (0 ≤ (k : Int)) = true
    exact decide_eq_true (by omega)
theorem idx_bnd (p : α → Bool) (xs : List α) : -1 ≤ idxI p xs ∧ idxI p xs ≤ xs.length := by
  unfold idxI
  cases e : xs.findIdx? p with
  | none => show -1 ≤ (-1 : Int) ∧ (-1 : Int) ≤ _; omega
  | some k =>
    rw [List.findIdx?_eq_some_iff_getElem] at e
    obtain ⟨hk, _⟩ := e
    show -1 ≤ (k : Int) ∧ (k : Int) ≤ _; omega
theorem any_not {xs : List α} {p : α → Bool} : (!xs.any fun x => !p x) = xs.all p := by
  induction xs with
  | nil => rfl
  | cons x t ih => simp [List.any_cons, List.all_cons, ← ih]
end
def sumI : List Int → Int
  | [] => 0
  | x :: t => x + sumI t
theorem sumI_append (a b : List Int) : sumI (a ++ b) = sumI a + sumI b := by
  induction a with
  | nil => simp [sumI]
  | cons x t ih => simp [sumI, ih]; omega
theorem sumI_snoc {xs : List Int} {k : Nat} {x : Int} (h : xs[k]? = some x) : sumI (xs.take (k + 1)) = sumI (xs.take k) + x := by
  rw [take_snoc h, sumI_append]; simp [sumI]
theorem sumI_bnd {M : Int} (hM : 0 ≤ M) : ∀ {xs : List Int}, (∀ x ∈ xs, -M ≤ x ∧ x ≤ M) → -(M * xs.length) ≤ sumI xs ∧ sumI xs ≤ M * xs.length
  | [], _ => by simp [sumI]
  | x :: t, h => by
    have h1 := h x (by simp)
    have h2 := sumI_bnd hM (xs := t) fun y hy => h y (by simp [hy])
    have e : M * ((x :: t).length : Nat) = M * (t.length : Nat) + M := by
      rw [List.length_cons]; rw [Int.natCast_add, Int.mul_add]; simp
    simp only [sumI, e]
    omega
theorem sumI_take_bnd {xs : List Int} {n k : Nat} {M : Int} (hM : 0 ≤ M) (hl : xs.length = n) (h : ∀ x ∈ xs, -M ≤ x ∧ x ≤ M) : -(M * n) ≤ sumI (xs.take k) ∧ sumI (xs.take k) ≤ M * n := by
  have h1 := sumI_bnd hM (xs := xs.take k) fun x hx => h x (List.mem_of_mem_take hx)
  have h2 : (xs.take k).length ≤ n := by simp; omega
  have h3 : M * ((xs.take k).length : Nat) ≤ M * (n : Nat) := Int.mul_le_mul_of_nonneg_left (by omega) hM
  omega
def allIn (l h : Int) (xs : List Int) : Bool := xs.all fun x => inB x l h
theorem allIn_mem {l h : Int} {xs : List Int} (e : allIn l h xs = true) {x : Int} (hx : x ∈ xs) : l ≤ x ∧ x ≤ h := inB_t (all_mem e hx)
set_option maxHeartbeats 800000 in
theorem indexFunc_any (A : Option Addr) (n c : Nat) (xs : List Int) (g : Nat) (cb : Array Value) (p : Int → Bool) (w : World) (eg : ∀ args W, (callFunc g args).run Try.prog W = .ok (.enter g args) W)
    (hr : Reads w w.heap.size 1 A n (ints xs)) (hn : n ≤ 1099511627776)
    (hf : ∀ (W : World) (x : Int), Below w.heap.size w W → x ∈ xs → Calls Try.prog g (#[.int .i64 x] ++ cb) W fun e w' => e = .returned (.bool (p x)) ∧ Below W.heap.size W w') :
    Calls Try.prog 58 #[.slice A n c, .func (.func g) #[] cb] w fun e w' => e = .returned (.int .i64 (idxI p xs)) ∧ Below w.heap.size w w' := by
  have HF := Lib.hid hf
  have HL := Lib.hid (ints_len hr)
  clear hf
  go_enter Try.func58, Try.ntmps58
  go_wp2
  go_loopw [8] (fun i wr => ∃ k : Nat, k ≤ n ∧ i = .int .i64 k ∧ Hid ((xs.take k).any p = false) ∧ Below w.heap.size w wr) (fun i _ => n - (intOf i).toNat)
  case atStart => exact ⟨0, by omega, rfl, by simp [Hid], Below.refl _ _⟩
  case round =>
    obtain ⟨k, hk, rfl, HK, hbw⟩ := hrel
    by_cases hlt : k < n
    · obtain ⟨ad, u, rfl, had, hx, hc⟩ := (hr.below hbw).at_ hlt
      obtain ⟨b, hb, rfl⟩ := ints_at hx
      have hcall := HF.out wr b hbw (mem_of_at hb)
      have HX := Lib.hid hb
      clear hb hx
      cases hp : p b <;> rw [hp] at hcall
      · have HP := Lib.hid hp
        clear hp
        go_wp2_with (go_at_fn g; refine hcall.mono ?_; rintro e w' ⟨rfl, hb1⟩)
        go_roundw
        case rel => exact ⟨k + 1, by omega, by go_num, any_take HX.out HK.out HP.out, hbw.trans (hb1.mono hbw.size)⟩
        case measure => simp [intOf]; omega
      · have HP := Lib.hid hp
        clear hp
        go_wp2_with (go_at_fn g; refine hcall.mono ?_; rintro e w' ⟨rfl, hb1⟩)
        go_ret
        exact ⟨ret_int (idx_at HX.out HP.out HK.out).symm, hbw.trans (hb1.mono hbw.size)⟩
    · have e : k = n := by omega
      subst e
      go_wp2
      go_ret
      have hall : xs.any p = false := by have := HK.out; rwa [List.take_of_length_le (by rw [HL.out]; omega)] at this
      exact ⟨ret_int (idx_none hall).symm, hbw⟩
theorem containsFunc_any (A : Option Addr) (n c : Nat) (xs : List Int) (g : Nat) (cb : Array Value) (p : Int → Bool) (w : World) (eg : ∀ args W, (callFunc g args).run Try.prog W = .ok (.enter g args) W)
    (hr : Reads w w.heap.size 1 A n (ints xs)) (hn : n ≤ 1099511627776)
    (hf : ∀ (W : World) (x : Int), Below w.heap.size w W → x ∈ xs → Calls Try.prog g (#[.int .i64 x] ++ cb) W fun e w' => e = .returned (.bool (p x)) ∧ Below W.heap.size W w') :
    Calls Try.prog 50 #[.slice A n c, .func (.func g) #[] cb] w fun e w' => e = .returned (.bool (xs.any p)) ∧ Below w.heap.size w w' := by
  have hc := indexFunc_any A n c xs g cb p w eg hr hn hf
  have HD := Lib.hid (idx_any (p := p) (xs := xs))
  clear hf
  go_enter Try.func50, Try.ntmps50
  go_wp2_with fail; ((with_reducible refine hc.mono ?_); rintro e w1 ⟨rfl, hb1⟩)
  go_wp2
  go_ret
  exact ⟨ret_bool HD.out, hb1⟩
theorem allWithinClosure_any (x l h : Int) (b1 b2 : Nat) (w : World) (h1 : w.cell? ⟨b1, 0, none⟩ = some (.int .i64 l)) (h2 : w.cell? ⟨b2, 0, none⟩ = some (.int .i64 h)) :
    Calls Try.prog 51 #[.int .i64 x, .pointer (some ⟨b1, 0, none⟩), .pointer (some ⟨b2, 0, none⟩)] w fun e w' => e = .returned (.bool (!inB x l h)) ∧ w = w' := by
  go_enter Try.func51, Try.ntmps51
  go_wp2_with fail; ((with_reducible refine (within_any _ _ _ _).mono ?_); rintro e w' ⟨rfl, rfl⟩)
  go_wp2
  go_ret
  exact ⟨rfl, rfl⟩
set_option maxRecDepth 100000 in
theorem allWithin_any (A : Option Addr) (n c : Nat) (xs : List Int) (l h : Int) (w : World) (hr : Reads w w.heap.size 1 A n (ints xs)) (hn : n ≤ 1099511627776) :
    Calls Try.prog 36 #[.slice A n c, .int .i64 l, .int .i64 h] w fun e w' => e = .returned (.bool (allIn l h xs)) ∧ Below w.heap.size w w' := by
  have hgen : ∀ (W : World) (b1 b2 : Nat), W.cell? ⟨b1, 0, none⟩ = some (.int .i64 l) → W.cell? ⟨b2, 0, none⟩ = some (.int .i64 h) → b1 < W.heap.size → b2 < W.heap.size → Reads W W.heap.size 1 A n (ints xs) →
      Calls Try.prog 50 #[.slice A n c, .func (.func 51) #[] #[.pointer (some ⟨b1, 0, none⟩), .pointer (some ⟨b2, 0, none⟩)]] W fun e w' => e = .returned (.bool (xs.any fun x => !inB x l h)) ∧ Below W.heap.size W w' := by
    intro W b1 b2 h1 h2 l1 l2 hrW
    refine containsFunc_any A n c xs _ _ (fun x => !inB x l h) W (fun _ _ => rfl) hrW hn fun W' x hb _ => ?_
    refine (allWithinClosure_any x l h b1 b2 W' (by rw [hb.cell l1]; exact h1) (by rw [hb.cell l2]; exact h2)).mono ?_
    rintro e w' ⟨rfl, rfl⟩
    exact ⟨rfl, Below.refl _ _⟩
  have HG := Lib.hid hgen
  have HR := ((hr.alloc (Nat.le_refl _) (.cells #[.int .i64 l] 2)).more (B' := w.heap.size + 1) (by omega)).alloc (by simp) (.cells #[.int .i64 h] 2) |>.more (B' := w.heap.size + 2) (by omega)
  clear hgen
  go_enter Try.func36, Try.ntmps36
  go_wp2_with fail; ((with_reducible refine (HG.out _ _ _ (by go_simp) (by go_simp) (by simp; omega) (by simp) (by simpa using HR)).mono ?_); rintro e w1 ⟨rfl, hb1⟩)
  go_wp2
  go_ret
  refine ⟨ret_bool (by unfold allIn; rw [← any_not]), ?_⟩
  exact (((Below.refl _ _).alloc (Nat.le_refl _) _).alloc (by simp) _).trans (hb1.mono (by simp; omega))
def maxL : List Int → Int
  | [] => 0
  | x :: t => t.foldl max x
def minL : List Int → Int
  | [] => 0
  | x :: t => t.foldl min x
theorem maxL_one {xs : List Int} {x : Int} (h : xs[0]? = some x) : maxL (xs.take 1) = x := by
  cases xs with
  | nil => simp at h
  | cons y t => simp at h; subst h; simp [maxL]
theorem minL_one {xs : List Int} {x : Int} (h : xs[0]? = some x) : minL (xs.take 1) = x := by
  cases xs with
  | nil => simp at h
  | cons y t => simp at h; subst h; simp [minL]
theorem maxL_snoc {xs : List Int} {k : Nat} {x : Int} (hk : 1 ≤ k) (h : xs[k]? = some x) : maxL (xs.take (k + 1)) = max (maxL (xs.take k)) x := by
  rw [take_snoc h]
  obtain ⟨j, rfl⟩ : ∃ j, k = j + 1 := ⟨k - 1, by omega⟩
  cases xs with
  | nil => simp at h
  | cons y t => simp [maxL]
theorem minL_snoc {xs : List Int} {k : Nat} {x : Int} (hk : 1 ≤ k) (h : xs[k]? = some x) : minL (xs.take (k + 1)) = min (minL (xs.take k)) x := by
  rw [take_snoc h]
  obtain ⟨j, rfl⟩ : ∃ j, k = j + 1 := ⟨k - 1, by omega⟩
  cases xs with
  | nil => simp at h
  | cons y t => simp [minL]
theorem foldmax_mem : ∀ (t : List Int) (x : Int), t.foldl max x = x ∨ t.foldl max x ∈ t
  | [], x => .inl rfl
  | y :: t, x => by
    simp only [List.foldl_cons]
    rcases foldmax_mem t (max x y) with h | h
    · rw [h]
      rcases Int.le_total x y with g | g
      · right; simp; omega
      · left; omega
    · right; simp [h]
theorem foldmin_mem : ∀ (t : List Int) (x : Int), t.foldl min x = x ∨ t.foldl min x ∈ t
  | [], x => .inl rfl
  | y :: t, x => by
    simp only [List.foldl_cons]
    rcases foldmin_mem t (min x y) with h | h
    · rw [h]
      rcases Int.le_total x y with g | g
      · left; omega
      · right; simp; omega
    · right; simp [h]
theorem maxL_mem {xs : List Int} (h : 1 ≤ xs.length) : maxL xs ∈ xs := by
  cases xs with
  | nil => simp at h
  | cons x t =>
    rcases foldmax_mem t x with g | g
    · simp only [maxL, g]; simp
    · simp only [maxL]; simp [g]
theorem minL_mem {xs : List Int} (h : 1 ≤ xs.length) : minL xs ∈ xs := by
  cases xs with
  | nil => simp at h
  | cons x t =>
    rcases foldmin_mem t x with g | g
    · simp only [minL, g]; simp
    · simp only [minL]; simp [g]
end Go.Proofs.Ytnfallanjndbcaa
