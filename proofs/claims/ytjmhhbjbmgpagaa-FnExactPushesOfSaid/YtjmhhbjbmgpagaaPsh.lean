/- Contracts of the pushes of fans and draught. -/
import Derived.Test.YtjmhhbjbmgpagaaFanL
import Derived.Test.YtjmhhbjbmgpagaaPrs
import Derived.Test.YtjmhhbjbmgpagaaLev
import Derived.Test.YtjmhhbjbmgpagaaLoss
import Derived.Test.YtjmhhbjbmgpagaaWarm
import Derived.Test.YtjmhhbjbmgpagaaNbt
namespace Go.Proofs.Ytjmhhbjbmgpagaa
set_option linter.unusedVariables false
set_option linter.unusedSimpArgs false
open Go.RowKit
/-- A number of a row of the call's own is written. -/
theorem own_upd {w : World} {base n c : Nat} {A : Option Addr} {xs : List Int} (h : w.ownsRow base 2 1 (.slice A n c) n (ints xs)) {k : Nat} (hk : k < n) (v : Int) :
    ∃ g, A = some ⟨g, 0, none⟩ ∧ base ≤ g ∧ g < w.heap.size ∧ w.cell? ⟨g, k, none⟩ = some (.int .i64 (xs.getD k 0)) ∧ w.frozen? ⟨g, k, none⟩ = false ∧
      (w.setCell ⟨g, k, none⟩ (.int .i64 v)).ownsRow base 2 1 (.slice A n c) n (ints (xs.set k v)) := by
  have hl : xs.length = n := by have := h.1; simpa [ints] using this
  rcases h.2 with ⟨_, h0⟩ | ⟨g, cap, cur, hv, hbg, hgb, hnc, hcm, hcs, htake⟩
  · exfalso
    have : n = 0 := by simpa [ints] using h0
    omega
  injection hv with hA _ hc
  subst hA
  subst hc
  have hBlk : Blk w g 2 cur := hgb
  have hkc : k < cur.size := by rw [hcs]; omega
  have hcell : cur[k]? = some (.int .i64 (xs.getD k 0)) := by
    have h1 : (cur.toList.take (n * 1))[k]? = (ints xs)[k]? := by rw [htake]
    rw [List.getElem?_take, if_pos (by omega), Array.getElem?_toList] at h1
    rw [h1]
    unfold ints
    rw [List.getElem?_map, List.getElem?_eq_getElem (by omega), List.getD_eq_getElem?_getD, List.getElem?_eq_getElem (by omega)]
    rfl
  refine ⟨g, rfl, hbg, hBlk.lt, (hBlk.cell k).trans hcell, hBlk.frozen k, ⟨by simp [ints]; omega, .inr ⟨g, _, _, rfl, hbg, hBlk.set_ k _, hnc, hcm, by simpa using hcs, ?_⟩⟩⟩
  apply List.ext_getElem?
  intro l
  have h1 : (cur.toList.take (n * 1))[l]? = (ints xs)[l]? := by rw [htake]
  rw [List.getElem?_take] at h1 ⊢
  unfold ints at *
  rw [List.getElem?_map, List.getElem?_set]
  rw [List.getElem?_map] at h1
  by_cases hln : l < n * 1
  · rw [if_pos hln] at h1 ⊢
    rw [Array.getElem?_toList, Array.getElem?_setIfInBounds]
    by_cases hkl : k = l
    · subst hkl
      rw [if_pos rfl, if_pos hkc, if_pos rfl, if_pos (by omega)]; rfl
    · rw [if_neg hkl, if_neg hkl, ← Array.getElem?_toList]; exact h1
  · rw [if_neg hln] at h1 ⊢
    by_cases hkl : k = l
    · subst hkl; omega
    · rw [if_neg hkl]; exact h1
/-- The pushes behind the first k fans. -/
def puTo (ks : List FKey) (ds fs : List Int) : Nat → List Int
  | 0 => ds
  | k + 1 => match ks[k]? with
    | some x => (puTo ks ds fs k).set x.2.1.toNat ((puTo ks ds fs k).getD x.2.1.toNat 0 + prT x.2.2 (fs.getD x.2.1.toNat 0))
    | none => puTo ks ds fs k
theorem puTo_snoc {ks : List FKey} {ds fs : List Int} {k t : Nat} {x : FKey} {f : Int} (h : ks[k]? = some x) (ht : x.2.1 = (t : Int)) (hf : fs[t]? = some f) :
    puTo ks ds fs (k + 1) = (puTo ks ds fs k).set t ((puTo ks ds fs k).getD t 0 + prT x.2.2 f) := by
  simp only [puTo]; rw [h]; simp only []
  rw [ht, Int.toNat_natCast, List.getD_eq_getElem?_getD (l := fs), hf]; rfl
theorem puTo_len (ks : List FKey) (ds fs : List Int) : ∀ k, (puTo ks ds fs k).length = ds.length
  | 0 => rfl
  | k + 1 => by
    simp only [puTo]
    cases ks[k]? with
    | none => exact puTo_len ks ds fs k
    | some x => simp only [List.length_set]; exact puTo_len ks ds fs k
theorem getD_bnd {xs : List Int} {D : Int} (h0 : 0 ≤ D) (h : ∀ d ∈ xs, -D ≤ d ∧ d ≤ D) (k : Nat) : -D ≤ xs.getD k 0 ∧ xs.getD k 0 ≤ D := by
  rw [List.getD_eq_getElem?_getD]
  cases e : xs[k]? with
  | none => simp; omega
  | some d => exact h d (List.mem_of_getElem? e)
theorem puTo_bnd {ks : List FKey} {ds fs : List Int} (hk : ∀ x ∈ ks, crvOk x.2.2 = true) (hd : ∀ d ∈ ds, -100000 ≤ d ∧ d ≤ 100000) : ∀ k : Nat, ∀ d ∈ puTo ks ds fs k, -(100000 + 10000 * (k : Int)) ≤ d ∧ d ≤ 100000 + 10000 * (k : Int)
  | 0 => fun d h => by have := hd d h; omega
  | k + 1 => fun d h => by
    have ih := puTo_bnd (fs := fs) hk hd k
    simp only [puTo] at h
    cases e : ks[k]? with
    | none => rw [e] at h; have := ih d h; omega
    | some x =>
      rw [e] at h
      have hp := prT_bnd (hk x (List.mem_of_getElem? e)) (fs.getD x.2.1.toNat 0)
      rcases List.mem_or_eq_of_mem_set h with h | rfl
      · have := ih d h; omega
      · have := getD_bnd (D := 100000 + 10000 * (k : Int)) (by omega) ih x.2.1.toNat
        omega
/-- Fans that stand in airways of a mine of m. -/
def fansIn (m : Nat) (ks : List FKey) : Bool := !ks.any fun x => !inB x.2.1 0 ((m : Int) - 1)
theorem fansIn_t {m : Nat} {ks : List FKey} (h : fansIn m ks = true) : ∀ x ∈ ks, 0 ≤ x.2.1 ∧ x.2.1 < m := by
  intro x hx
  unfold fansIn at h
  rw [Bool.not_eq_true', List.any_eq_false] at h
  have h1 := h x hx
  have h2 := inB_t (by simpa using h1 : inB x.2.1 0 ((m : Int) - 1) = true)
  omega
theorem any_key (xs : List Fan) (p : FKey → Bool) : (fdat xs).any p = xs.any fun x => p x.key := by
  unfold fdat; rw [List.any_map]; rfl
set_option maxHeartbeats 800000 in
theorem l07Fans_any (M : Option Addr) (m d : Nat) (A : Option Addr) (n c : Nat) (xs : List Fan) (p : Addr) (w : World) (hr : FSS w w.heap.size A n xs) (hn : n ≤ 1048576) (hm : m ≤ 1048576) (hok : fansOk (fdat xs) = true)
    (hp1 : w.cell? ⟨p.block, p.off + 1, none⟩ = some (.slice M m d)) :
    Calls Try.prog 62 #[.pointer (some p), .slice A n c] w fun e w' => e = .returned (.bool (fansIn m (fdat xs))) ∧ ∃ q, w' = w.drewN q := by
  have HL := Lib.hid hr.len
  have HOK := Lib.hid (fansOk_t hok).2
  clear hok
  go_enter Try.func62, Try.ntmps62
  go_wp2
  go_loopw [5] (fun i wr => ∃ (k q : Nat), k ≤ n ∧ i = .int .i64 k ∧ Hid ((xs.take k).any (fun x => !inB x.a 0 ((m : Int) - 1)) = false) ∧ wr = w.drewN q) (fun i _ => n - (intOf i).toNat)
  case atStart => exact ⟨0, 0, by omega, rfl, rfl, rfl⟩
  case round =>
    obtain ⟨k, q, hk, rfl, HK, rfl⟩ := hrel
    by_cases hlt : k < n
    · obtain ⟨ad, x, rfl, had, hx, hc, hrx⟩ := hr.at_ hlt
      have HX := Lib.hid hx
      have ha := (fanOk_t (HOK.out x.key (List.mem_of_getElem? (fdat_at hx)))).2.1
      simp only [Fan.key] at ha
      obtain ⟨a0, a1, a2⟩ := Fan.open_ hc
      have hltI : (k : Int) < (n : Int) := by omega
      clear hx hc hrx
      by_cases hg : (m : Int) ≤ x.a
      · have HF : Hid (fansIn m (fdat xs) = false) := by
          show _ = _
          unfold fansIn
          rw [any_key, show (xs.any fun x => !inB x.key.2.1 0 ((m : Int) - 1)) = true from List.any_eq_true.2 ⟨x, List.mem_of_getElem? HX.out, by show (!inB x.a 0 ((m : Int) - 1)) = true; unfold inB; rw [decide_eq_false (by omega)]; rfl⟩]; rfl
        go_wp2
        go_quiet (fail)
        go_wp2
        go_ret
        exact ⟨ret_bool HF.out.symm, _, by first | rfl | exact World.drewN_drewN _ _ _⟩
      · have HN := Lib.hid (any_take HX.out HK.out (by show (!inB x.a 0 ((m : Int) - 1)) = false; unfold inB; rw [decide_eq_true (by omega)]; rfl))
        go_wp2
        go_quiet (fail)
        go_wp2
        go_roundw
        case rel => exact ⟨k + 1, _, by omega, by go_num, HN.out, by first | rfl | exact World.drewN_drewN _ _ _⟩
        case measure => simp [intOf]; omega
    · have e : k = n := by omega
      have HF : Hid (fansIn m (fdat xs) = true) := by
        show _ = _
        have h := HK.out
        rw [List.take_of_length_le (by rw [HL.out]; omega)] at h
        unfold fansIn
        rw [any_key, show (xs.any fun x => !inB x.key.2.1 0 ((m : Int) - 1)) = false from h]; rfl
      clear e
      go_wp2
      go_ret
      exact ⟨ret_bool HF.out.symm, _, rfl⟩
theorem indexFan_any (A : Option Addr) (n c : Nat) (xs : List Fan) (g : Nat) (cb : Array Value) (p : Fan → Bool) (w : World) (eg : ∀ args W, (callFunc g args).run Try.prog W = .ok (.enter g args) W)
    (hr : FSS w w.heap.size A n xs) (hn : n ≤ 1099511627776)
    (hf : ∀ (W : World) (x : Fan), Below w.heap.size w W → x ∈ xs → Calls Try.prog g (#[.agg #[.string x.s, .int .i64 x.a, .slice x.A x.n x.c]] ++ cb) W fun e w' => e = .returned (.bool (p x)) ∧ Below W.heap.size W w') :
    Calls Try.prog 157 #[.slice A n c, .func (.func g) #[] cb] w fun e w' => e = .returned (.int .i64 (idxI p xs)) ∧ Below w.heap.size w w' := by
  have HF := Lib.hid hf
  have HL := Lib.hid hr.len
  clear hf
  go_enter Try.func157, Try.ntmps157
  go_wp2
  go_loopw [8] (fun i wr => ∃ k : Nat, k ≤ n ∧ i = .int .i64 k ∧ Hid ((xs.take k).any p = false) ∧ Below w.heap.size w wr) (fun i _ => n - (intOf i).toNat)
  case atStart => exact ⟨0, by omega, rfl, by simp [Hid], Below.refl _ _⟩
  case round =>
    obtain ⟨k, hk, rfl, HK, hbw⟩ := hrel
    by_cases hlt : k < n
    · obtain ⟨ad, x, rfl, had, hx, hc, hrx⟩ := (hr.below hbw).at_ hlt
      have hcall := HF.out wr x hbw (mem_of_at hx)
      have HX := Lib.hid hx
      obtain ⟨h0, h1, h2⟩ := Fan.open_ hc
      clear hx hc hrx
      cases hp : p x <;> rw [hp] at hcall
      · have HP := Lib.hid hp
        clear hp
        go_wp2_with (go_at_fn g; refine hcall.mono ?_; rintro e w' ⟨rfl, hb1⟩)
        go_roundw
        case rel => exact ⟨k + 1, by omega, by go_num, any_take HX.out HK.out HP.out, hbw.trans (hb1.mono hbw.size)⟩
        case measure => simp [intOf]; omega
      · have HP := Lib.hid hp
        clear hp
        go_wp2_with (go_at_fn g; refine hcall.mono ?_; rintro e w' ⟨rfl, hb1⟩)
        go_ret
        exact ⟨ret_int (idx_at HX.out HP.out HK.out).symm, hbw.trans (hb1.mono hbw.size)⟩
    · have e : k = n := by omega
      subst e
      go_wp2
      go_ret
      have hall : xs.any p = false := by have := HK.out; rwa [List.take_of_length_le (by rw [HL.out]; omega)] at this
      exact ⟨ret_int (idx_none hall).symm, hbw⟩
theorem containsFan_any (A : Option Addr) (n c : Nat) (xs : List Fan) (g : Nat) (cb : Array Value) (p : Fan → Bool) (w : World) (eg : ∀ args W, (callFunc g args).run Try.prog W = .ok (.enter g args) W)
    (hr : FSS w w.heap.size A n xs) (hn : n ≤ 1099511627776)
    (hf : ∀ (W : World) (x : Fan), Below w.heap.size w W → x ∈ xs → Calls Try.prog g (#[.agg #[.string x.s, .int .i64 x.a, .slice x.A x.n x.c]] ++ cb) W fun e w' => e = .returned (.bool (p x)) ∧ Below W.heap.size W w') :
    Calls Try.prog 119 #[.slice A n c, .func (.func g) #[] cb] w fun e w' => e = .returned (.bool (xs.any p)) ∧ Below w.heap.size w w' := by
  have hc := indexFan_any A n c xs g cb p w eg hr hn hf
  have HD := Lib.hid (idx_any (p := p) (xs := xs))
  clear hf
  go_enter Try.func119, Try.ntmps119
  go_wp2_with fail; ((with_reducible refine hc.mono ?_); rintro e w1 ⟨rfl, hb1⟩)
  go_wp2
  go_ret
  exact ⟨ret_bool HD.out, hb1⟩
theorem indexValidA_any (M : Option Addr) (m d : Nat) (k : Int) (w : World) (hm : m ≤ 1048576) :
    Calls Try.prog 121 #[.slice M m d, .int .i64 k] w fun e w' => e = .returned (.bool (inB k 0 ((m : Int) - 1))) ∧ w = w' := by
  go_enter Try.func121, Try.ntmps121
  go_wp2_with (go_at_call 97; refine (within_any _ _ _ _).mono ?_; rintro e w' ⟨rfl, rfl⟩)
  go_ret
  exact ⟨rfl, rfl⟩
theorem hasFansClosure_any (M : Option Addr) (m d : Nat) (x : Fan) (b1 : Nat) (w : World) (hm : m ≤ 1048576) (c1 : w.cell? ⟨b1, 1, none⟩ = some (.slice M m d)) :
    Calls Try.prog 120 #[.agg #[.string x.s, .int .i64 x.a, .slice x.A x.n x.c], .pointer (some ⟨b1, 0, none⟩)] w fun e w' => e = .returned (.bool (!inB x.a 0 ((m : Int) - 1))) ∧ Below w.heap.size w w' := by
  have hl : b1 < w.heap.size := block_lt_of_cell (a := ⟨b1, 1, none⟩) c1
  go_enter Try.func120, Try.ntmps120
  go_wp2_with fail; ((with_reducible refine (indexValidA_any M m d x.a _ hm).mono ?_); rintro e w' ⟨rfl, rfl⟩)
  go_wp2
  go_ret
  exact ⟨rfl, by (repeat (first | exact Below.refl _ _ | assumption | (refine Below.alloc ?_ (by first | exact Nat.le_refl _ | (simp; done) | (simp; omega)) _) | (refine below_drewN ?_ _) | (refine Below.trans ?_ (Below.mono (by assumption) (by first | exact Nat.le_refl _ | (simp; done) | (simp; omega) | omega)))))⟩
set_option maxRecDepth 100000 in
theorem hasFans_any (J : Int) (M : Option Addr) (m d : Nat) (A : Option Addr) (n c : Nat) (xs : List Fan) (w : World) (hr : FSS w w.heap.size A n xs) (hn : n ≤ 1048576) (hm : m ≤ 1048576) :
    Calls Try.prog 68 #[.agg #[.int .i64 J, .slice M m d], .slice A n c] w fun e w' => e = .returned (.bool (fansIn m (fdat xs))) ∧ Below w.heap.size w w' := by
  have hb0 : Below w.heap.size w (w.alloc (.cells #[.int .i64 J, .slice M m d] 31)) := (Below.refl _ _).alloc (Nat.le_refl _) _
  have cc := containsFan_any A n c xs 120 #[.pointer (some ⟨w.heap.size, 0, none⟩)] (fun x => !inB x.a 0 ((m : Int) - 1)) (w.alloc (.cells #[.int .i64 J, .slice M m d] 31)) (fun _ _ => rfl) ((hr.below hb0).more hb0.size) (by omega)
    (fun W x hb hx => hasFansClosure_any M m d x w.heap.size W hm ((hb.cell (p := ⟨w.heap.size, 1, none⟩) (by simp)).trans (((Blk.new w _ _).cell 1).trans rfl)))
  rw [show (xs.any fun x => !inB x.a 0 ((m : Int) - 1)) = !fansIn m (fdat xs) by unfold fansIn; rw [any_key, Bool.not_not]; rfl] at cc
  have HC := Lib.hid cc
  clear cc hb0
  go_enter Try.func68, Try.ntmps68
  go_wp2_with fail; ((with_reducible refine HC.out.mono ?_); rintro e w1 ⟨rfl, hb1⟩)
  go_wp2
  go_ret
  exact ⟨ret_bool rfl, ((Below.refl _ _).alloc (Nat.le_refl _) _).trans (hb1.mono (by simp))⟩
set_option maxHeartbeats 3200000 in
set_option maxRecDepth 100000 in
theorem l07Pushes_any (A : Option Addr) (n c : Nat) (xs : List Fan) (B : Option Addr) (m d : Nat) (ds : List Int) (D : Option Addr) (e : Nat) (fs : List Int) (w : World) (hr : FSS w w.heap.size A n xs) (hok : fansOk (fdat xs) = true) (hin : fansIn m (fdat xs) = true)
    (hB : Reads w w.heap.size 1 B m (ints ds)) (hD : Reads w w.heap.size 1 D m (ints fs)) (hmn : m ≤ 1048576) (hds : ∀ d ∈ ds, -100000 ≤ d ∧ d ≤ 100000) (hfs : ∀ f ∈ fs, -100000 ≤ f ∧ f ≤ 100000) :
    Calls Try.prog 64 #[.slice A n c, .slice B m d, .slice D m e] w fun e w' => ∃ A' c', e = .returned (.slice A' m c') ∧ w'.ownsRow w.heap.size 2 1 (.slice A' m c') m (ints (puTo (fdat xs) ds fs n)) ∧ Below w.heap.size w w' := by
  have HL := Lib.hid hr.len
  have HLd := Lib.hid (ints_len hB)
  have HLf := Lib.hid (ints_len hD)
  have HOK := Lib.hid (fansOk_t hok)
  have n8 : n ≤ 8 := by have h := HOK.out.1; rw [fdat_len, HL.out] at h; exact h
  have HIN := Lib.hid (fansIn_t hin)
  have HCV : Hid (∀ x ∈ fdat xs, crvOk x.2.2 = true) := fun x hx => (fanOk_t (HOK.out.2 x hx)).2.2
  have HDS := Lib.hid hds
  have HFS := Lib.hid hfs
  have co := l00Own_any B m d ds w hB hmn
  clear hok hin hds hfs
  go_enter Try.func64, Try.ntmps64
  go_wp2_with fail; ((with_reducible refine co.mono ?_); rintro e' w1 ⟨A', c', rfl, ho1, hb1⟩)
  clear co
  go_wp2
  go_loopw [8] (fun i wr => ∃ k : Nat, k ≤ n ∧ i = .int .i64 k ∧ wr.ownsRow w.heap.size 2 1 (.slice A' m c') m (ints (puTo (fdat xs) ds fs k)) ∧ Below w.heap.size w wr) (fun i _ => n - (intOf i).toNat)
  case atStart => exact ⟨0, by omega, rfl, ho1, hb1⟩
  case round =>
    obtain ⟨k, hk, rfl, hown, hbr⟩ := hrel
    obtain ⟨wo, rfl⟩ : ∃ wo : World, wo = wr := ⟨_, rfl⟩
    by_cases hlt : k < n
    · obtain ⟨ad, x, rfl, had, hx, hc, hrx⟩ := (hr.below hbr).at_ hlt
      have hkey := fdat_at hx
      have hmem := List.mem_of_getElem? hkey
      obtain ⟨t, ht⟩ : ∃ t : Nat, x.a = t := ⟨x.a.toNat, by have := HIN.out x.key hmem; simp only [Fan.key] at this; omega⟩
      have htm : t < m := by have := HIN.out x.key hmem; simp only [Fan.key] at this; omega
      obtain ⟨f, hf⟩ : ∃ f, fs[t]? = some f := ⟨_, List.getElem?_eq_getElem (by rw [HLf.out]; exact htm)⟩
      have hfb := HFS.out f (List.mem_of_getElem? hf)
      have hcv := HCV.out x.key hmem
      have hpb := prT_bnd hcv f
      have hcb := getD_bnd (D := 100000 + 10000 * (k : Int)) (by omega) (puTo_bnd (fs := fs) HCV.out HDS.out k) t
      have HSN := Lib.hid (puTo_snoc (ds := ds) hkey ht hf)
      simp only [Fan.key] at hcv hpb
      obtain ⟨a0, a1, a2⟩ := Fan.open_ hc
      rw [ht] at a1
      obtain ⟨fd, rfl, hfd, hfn, hcf⟩ := (hD.below hbr).int_at hf
      obtain ⟨g, rfl, hg1, hg2, gc, gf, _⟩ := own_upd hown htm 0
      have HOWN := Lib.hid hown
      have hltI : (k : Int) < (n : Int) := by omega
      have htI : (t : Int) < (m : Int) := by omega
      have HA : Hid (∀ s : NB wo, Calls Try.prog 116 #[.pointer (some (ad.add (k * 3))), .int .i64 f] s.w fun e w' => e = .returned (.int .i64 (prT (dat x.rs) f)) ∧ Below s.w.heap.size s.w w') :=
        fun s => l06Pressure_any x.A x.n x.c x.rs f (ad.add (k * 3)) s.w ((hrx.below (s.h.mono hbr.size)).more (Nat.le_trans hbr.size s.h.size)) hcv hfb ((s.h.cell (block_lt_of_cell a2)).trans a2)
      have HSN2 : Hid (puTo (fdat xs) ds fs (k + 1) = (puTo (fdat xs) ds fs k).set t ((puTo (fdat xs) ds fs k).getD t 0 + prT (dat x.rs) f)) := HSN.out
      generalize hcur : (puTo (fdat xs) ds fs k).getD t 0 = cur at *
      generalize hprv : prT (dat x.rs) f = prv at *
      have hws : IntKind.i64.wrap (cur + prv) = cur + prv := IntWalk.i64_in _ (by omega)
      clear hx hc hrx hkey hmem hcv hf ht hown hcur hprv HSN
      go_wp2
      have m3_0 := nb_cell a1 (block_lt_of_cell a1); have m3_1 := nb_cell gc (block_lt_of_cell gc); have m3_2 := nb_cell hcf (block_lt_of_cell hcf); (refine wp_region_nbt 22 (by kernel_rfl) (by kernel_rfl) ?_); simp only [List.take_succ_cons, List.take_zero, List.drop_succ_cons, List.drop_zero]; (repeat (go_big_quiet_step (((go_at_call 116; exact nb_call (HA.out _)))))); (refine wpQuiet_nil ?_); intro w3 hw3; have hb3 := nb_out hw3; clear hw3 m3_0 m3_1 m3_2
      have gc3 := (hb3.cell (p := ⟨g, t, none⟩) hg2).trans gc
      have gf3 := (hb3.frozen (p := ⟨g, t, none⟩) hg2).trans gf
      obtain ⟨g', e1, _, _, _, _, hup⟩ := own_upd (own_below HOWN.out hb3) htm (cur + prv)
      have HUP : Hid ((w3.setCell ⟨g, t, none⟩ (.int .i64 (cur + prv))).ownsRow w.heap.size 2 1 (.slice (some ⟨g, 0, none⟩) m c') m (ints (puTo (fdat xs) ds fs (k + 1)))) := by
        injection e1 with e1
        injection e1 with e1
        subst e1
        show World.ownsRow _ _ _ _ _ _ _
        rw [HSN2.out]; exact hup
      have B3 := (hbr.trans (hb3.mono hbr.size)).setCell (p := ⟨g, t, none⟩) hg1 (.int .i64 (cur + prv))
      have HB3 := Lib.hid B3
      clear hup e1 B3
      go_wp2
      go_roundw
      case rel => exact ⟨k + 1, by omega, by go_num, HUP.out, HB3.out⟩
      case measure => simp [intOf]; omega
    · have e : k = n := by omega
      subst e
      go_wp2
      go_ret
      exact ⟨A', c', rfl, hown, hbr⟩
set_option maxHeartbeats 3200000 in
set_option maxRecDepth 100000 in
theorem pushesOf_any (A : Option Addr) (n c : Nat) (xs : List Fan) (B : Option Addr) (m d : Nat) (ds : List Int) (D : Option Addr) (e : Nat) (fs : List Int) (w : World) (hr : FSS w w.heap.size A n xs) (hok : fansOk (fdat xs) = true) (hin : fansIn m (fdat xs) = true)
    (hB : Reads w w.heap.size 1 B m (ints ds)) (hD : Reads w w.heap.size 1 D m (ints fs)) (hmn : m ≤ 1048576) (hds : ∀ d ∈ ds, -100000 ≤ d ∧ d ≤ 100000) (hfs : ∀ f ∈ fs, -100000 ≤ f ∧ f ≤ 100000) :
    Calls Try.prog 69 #[.slice A n c, .slice B m d, .slice D m e] w fun e w' => ∃ A' c', e = .returned (.slice A' m c') ∧ w'.ownsRow w.heap.size 2 1 (.slice A' m c') m (ints (puTo (fdat xs) ds fs n)) ∧ Below w.heap.size w w' := by
  have HL := Lib.hid hr.len
  have HLd := Lib.hid (ints_len hB)
  have HLf := Lib.hid (ints_len hD)
  have HOK := Lib.hid (fansOk_t hok)
  have n8 : n ≤ 8 := by have h := HOK.out.1; rw [fdat_len, HL.out] at h; exact h
  have HIN := Lib.hid (fansIn_t hin)
  have HCV : Hid (∀ x ∈ fdat xs, crvOk x.2.2 = true) := fun x hx => (fanOk_t (HOK.out.2 x hx)).2.2
  have HDS := Lib.hid hds
  have HFS := Lib.hid hfs
  have co := clone_any B m d ds w hB hmn
  clear hok hin hds hfs
  go_enter Try.func69, Try.ntmps69
  go_wp2_with fail; ((with_reducible refine co.mono ?_); rintro e' w1 ⟨A', c', rfl, ho1, hb1⟩)
  clear co
  go_wp2
  go_loopw [14] (fun i wr => ∃ k : Nat, k ≤ n ∧ i = .int .i64 k ∧ wr.ownsRow w.heap.size 2 1 (.slice A' m c') m (ints (puTo (fdat xs) ds fs k)) ∧ Below w.heap.size w wr) (fun i _ => n - (intOf i).toNat)
  case atStart => exact ⟨0, by omega, rfl, ho1, hb1⟩
  case round =>
    obtain ⟨k, hk, rfl, hown, hbr⟩ := hrel
    obtain ⟨wo, rfl⟩ : ∃ wo : World, wo = wr := ⟨_, rfl⟩
    by_cases hlt : k < n
    · obtain ⟨ad, x, rfl, had, hx, hc, hrx⟩ := (hr.below hbr).at_ hlt
      have hkey := fdat_at hx
      have hmem := List.mem_of_getElem? hkey
      obtain ⟨t, ht⟩ : ∃ t : Nat, x.a = t := ⟨x.a.toNat, by have := HIN.out x.key hmem; simp only [Fan.key] at this; omega⟩
      have htm : t < m := by have := HIN.out x.key hmem; simp only [Fan.key] at this; omega
      obtain ⟨f, hf⟩ : ∃ f, fs[t]? = some f := ⟨_, List.getElem?_eq_getElem (by rw [HLf.out]; exact htm)⟩
      have hfb := HFS.out f (List.mem_of_getElem? hf)
      have hcv := HCV.out x.key hmem
      have hpb := prT_bnd hcv f
      have hcb := getD_bnd (D := 100000 + 10000 * (k : Int)) (by omega) (puTo_bnd (fs := fs) HCV.out HDS.out k) t
      have HSN := Lib.hid (puTo_snoc (ds := ds) hkey ht hf)
      simp only [Fan.key] at hcv hpb
      obtain ⟨a0, a1, a2⟩ := Fan.open_ hc
      rw [ht] at a1
      obtain ⟨fd, rfl, hfd, hfn, hcf⟩ := (hD.below hbr).int_at hf
      obtain ⟨g, rfl, hg1, hg2, gc0, gf0, _⟩ := own_upd hown htm 0
      have HOWN := Lib.hid hown
      have hltI : (k : Int) < (n : Int) := by omega
      have htI : (t : Int) < (m : Int) := by omega
      have hbo : Below wo.heap.size wo (wo.alloc (.cells #[.string x.s, .int .i64 t, .slice x.A x.n x.c] 85)) := (Below.refl _ _).alloc (Nat.le_refl _) _
      have f0 : (wo.alloc (.cells #[.string x.s, .int .i64 t, .slice x.A x.n x.c] 85)).cell? ⟨wo.heap.size, 0, none⟩ = some (.string x.s) := ((Blk.new wo _ _).cell 0).trans rfl
      have f1 : (wo.alloc (.cells #[.string x.s, .int .i64 t, .slice x.A x.n x.c] 85)).cell? ⟨wo.heap.size, 1, none⟩ = some (.int .i64 t) := ((Blk.new wo _ _).cell 1).trans rfl
      have f2 : (wo.alloc (.cells #[.string x.s, .int .i64 t, .slice x.A x.n x.c] 85)).cell? ⟨wo.heap.size, 2, none⟩ = some (.slice x.A x.n x.c) := ((Blk.new wo _ _).cell 2).trans rfl
      have gc := (hbo.cell (p := ⟨g, t, none⟩) hg2).trans gc0
      have hcf1 := (hbo.cell (block_lt_of_cell hcf)).trans hcf
      have HA : Hid (∀ s : NB (wo.alloc (.cells #[.string x.s, .int .i64 t, .slice x.A x.n x.c] 85)), Calls Try.prog 122 #[.agg #[.string x.s, .int .i64 t, .slice x.A x.n x.c], .int .i64 f] s.w fun e w' => e = .returned (.int .i64 (prT (dat x.rs) f)) ∧ Below s.w.heap.size s.w w') :=
        fun s => pressure_any x.s t x.A x.n x.c x.rs f s.w (by
          have hbt := hbo.trans (s.h.mono hbo.size)
          exact (hrx.below (hbt.mono hbr.size)).more (Nat.le_trans hbr.size hbt.size)) hcv hfb
      have HSN2 : Hid (puTo (fdat xs) ds fs (k + 1) = (puTo (fdat xs) ds fs k).set t ((puTo (fdat xs) ds fs k).getD t 0 + prT (dat x.rs) f)) := HSN.out
      generalize hcur : (puTo (fdat xs) ds fs k).getD t 0 = cur at *
      generalize hprv : prT (dat x.rs) f = prv at *
      have hws : IntKind.i64.wrap (cur + prv) = cur + prv := IntWalk.i64_in _ (by omega)
      have HBO := Lib.hid hbo
      have HGF := Lib.hid gf0
      clear hx hc hrx hkey hmem hcv hf ht hown hcur hprv HSN gc0 gf0 hcf hbo
      go_wp2
      have m3_0 := nb_cell f0 (block_lt_of_cell f0); have m3_1 := nb_cell f1 (block_lt_of_cell f1); have m3_2 := nb_cell f2 (block_lt_of_cell f2); have m3_3 := nb_cell gc (block_lt_of_cell gc); have m3_4 := nb_cell hcf1 (block_lt_of_cell hcf1); (refine wp_region_nbt 14 (by kernel_rfl) (by kernel_rfl) ?_); simp only [List.take_succ_cons, List.take_zero, List.drop_succ_cons, List.drop_zero]; (repeat (go_big_quiet_step (((go_at_call 122; exact nb_call (HA.out _)))))); (refine wpQuiet_nil ?_); intro w3 hw3; have hb3 := nb_out hw3; clear hw3 m3_0 m3_1 m3_2 m3_3 m3_4
      have hb4 := HBO.out.trans (hb3.mono HBO.out.size)
      have gc3 := (hb3.cell (block_lt_of_cell gc)).trans gc
      have gf3 := (hb4.frozen (p := ⟨g, t, none⟩) hg2).trans HGF.out
      obtain ⟨g', e1, _, _, _, _, hup⟩ := own_upd (own_below HOWN.out hb4) htm (cur + prv)
      have HUP : Hid ((w3.setCell ⟨g, t, none⟩ (.int .i64 (cur + prv))).ownsRow w.heap.size 2 1 (.slice (some ⟨g, 0, none⟩) m c') m (ints (puTo (fdat xs) ds fs (k + 1)))) := by
        injection e1 with e1
        injection e1 with e1
        subst e1
        show World.ownsRow _ _ _ _ _ _ _
        rw [HSN2.out]; exact hup
      have B3 := (hbr.trans (hb4.mono hbr.size)).setCell (p := ⟨g, t, none⟩) hg1 (.int .i64 (cur + prv))
      have HB3 := Lib.hid B3
      clear hup e1 B3
      go_wp2
      go_roundw
      case rel => exact ⟨k + 1, by omega, by go_num, HUP.out, HB3.out⟩
      case measure => simp [intOf]; omega
    · have e : k = n := by omega
      subst e
      go_wp2
      go_ret
      exact ⟨A', c', rfl, hown, hbr⟩
end Go.Proofs.Ytjmhhbjbmgpagaa
