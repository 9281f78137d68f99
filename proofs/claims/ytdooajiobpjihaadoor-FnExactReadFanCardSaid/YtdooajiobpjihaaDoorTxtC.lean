/- Contracts of lists of numbers as texts, both sides. -/
import Derived.Test.YtdooajiobpjihaaDoorDecC
import Derived.Test.YtdooajiobpjihaaDoorSpx
import Derived.Test.YtdooajiobpjihaaDoorSlc
import Derived.Test.YtdooajiobpjihaaDoorRec
namespace Go.Proofs.YtdooajiobpjihaaDoor
set_option linter.unusedVariables false
set_option linter.unusedSimpArgs false
open Go.RowKit
/-- A list of numbers as text. -/
def lstL (xs : List Int) : List UInt8 := if xs = [] then [45] else jn 44 (xs.map Lib.itoa)
def lstS (xs : List Int) : ByteArray := ⟨(lstL xs).toArray⟩
def jnS (xs : List Int) : ByteArray := ⟨(jn 44 (xs.map Lib.itoa)).toArray⟩
theorem str_app (a b : List UInt8) : (⟨a.toArray⟩ : ByteArray) ++ ⟨b.toArray⟩ = ⟨(a ++ b).toArray⟩ := by
  show (⟨a.toArray⟩ : ByteArray).append ⟨b.toArray⟩ = _
  exact ByteArray.ext (by simp [ByteArray.data_append])
theorem lstS_e : lstS [] = ⟨#[45]⟩ := rfl
theorem lstS_n {xs : List Int} (h : xs ≠ []) : lstS xs = jnS xs := by unfold lstS lstL jnS; rw [if_neg h]
theorem jnS_z : jnS [] = ⟨#[]⟩ := rfl
theorem jnS_1 (x : Int) : jnS [x] = decS x := by rw [← decS_itoa]; unfold jnS; rw [List.map_singleton, jn_one]
theorem jnS_s {xs : List Int} {x : Int} (h : xs ≠ []) : jnS (xs ++ [x]) = jnS xs ++ ⟨#[44]⟩ ++ decS x := by
  rw [← decS_itoa]; unfold jnS
  rw [List.map_append, List.map_singleton, jn_snoc _ _ (by simpa using h), show (⟨#[44]⟩ : ByteArray) = ⟨[(44 : UInt8)].toArray⟩ from rfl, str_app, str_app]
  simp
theorem itoa_len {n : Int} (h1 : -9223372036854775808 ≤ n) (h2 : n ≤ 9223372036854775807) : (decS n).size ≤ 21 := by
  have := Lib.itoa_length_le n h1 h2
  rw [← decS_itoa]; simpa [ByteArray.size] using this
theorem ba_app_size (a b : ByteArray) : (a ++ b).size = a.size + b.size := ByteArray.size_append
theorem jnS_len {xs : List Int} (h : ∀ x ∈ xs, -9223372036854775808 ≤ x ∧ x ≤ 9223372036854775807) : ∀ k : Nat, k ≤ xs.length → (jnS (xs.take k)).size ≤ 22 * k
  | 0, _ => by simp [jnS_z]; rfl
  | k + 1, hk => by
    have ih := jnS_len h k (by omega)
    obtain ⟨x, hx⟩ : ∃ x, xs[k]? = some x := ⟨_, List.getElem?_eq_getElem (by omega)⟩
    have hb := h x (List.mem_of_getElem? hx)
    have hd := itoa_len hb.1 hb.2
    rw [List.take_add_one, hx]
    by_cases h0 : xs.take k = []
    · rw [h0]; show (jnS [x]).size ≤ _; rw [jnS_1]; omega
    · show (jnS (xs.take k ++ [x])).size ≤ _
      rw [jnS_s h0, ba_app_size, ba_app_size, show (⟨#[44]⟩ : ByteArray).size = 1 from rfl]; omega
set_option maxHeartbeats 1600000 in
set_option maxRecDepth 100000 in
theorem l01List_any (A : Option Addr) (n c : Nat) (xs : List Int) (w : World) (hr : Reads w w.heap.size 1 A n (ints xs)) (hn : n ≤ 64) (hb : ∀ x ∈ xs, -9223372036854775808 ≤ x ∧ x ≤ 9223372036854775807) :
    Calls Tryd.prog 68 #[.slice A n c] w fun e w' => e = .returned (.string (lstS xs)) ∧ Below w.heap.size w w' := by
  have HL := Lib.hid (ints_len hr)
  by_cases h0 : n = 0
  · have hx : xs = [] := List.length_eq_zero_iff.1 (by rw [HL.out]; exact h0)
    subst h0
    subst hx
    go_enter Tryd.func68, Tryd.ntmps68
    go_wp2
    go_ret
    exact ⟨rfl, Below.refl _ _⟩
  have hd0 : ((n : Int) == 0) = false := by simpa using h0
  have HJ := Lib.hid (jnS_len hb)
  have HB := Lib.hid hb
  have HX : Hid (xs ≠ []) := fun h => h0 (by rw [← HL.out, h]; rfl)
  clear hb
  go_enter Tryd.func68, Tryd.ntmps68
  go_wp2
  go_loopw [3, 4] (fun s i wr => ∃ k : Nat, k ≤ n ∧ i = .int .i64 k ∧ s = .string (jnS (xs.take k)) ∧ Below w.heap.size w wr) (fun _ i _ => n - (intOf i).toNat)
  case atStart => exact ⟨0, by omega, rfl, rfl, Below.refl _ _⟩
  case round =>
    obtain ⟨k, hk, rfl, rfl, hbr⟩ := hrel
    obtain ⟨wo, rfl⟩ : ∃ wo : World, wo = wr := ⟨_, rfl⟩
    by_cases hlt : k < n
    · obtain ⟨ad, u, rfl, had, hx, hc⟩ := (hr.below hbr).at_ hlt
      obtain ⟨x, hxx, rfl⟩ := ints_at hx
      have hxb := HB.out x (mem_of_at hxx)
      have hjl := HJ.out k (by rw [HL.out]; omega)
      have hdl := itoa_len hxb.1 hxb.2
      have cD := l01Dec_any x wo hxb.1 hxb.2
      have HT : Hid (xs.take (k + 1) = xs.take k ++ [x]) := show _ = _ by rw [List.take_add_one, hxx]; rfl
      have hkI : (k : Int) < (n : Int) := by omega
      have HCD := Lib.hid cD
      clear hx hxx cD
      by_cases hk0 : k = 0
      · have HS : Hid (jnS (xs.take (k + 1)) = jnS (xs.take k) ++ decS x) := show _ = _ by
          rw [HT.out, hk0, List.take_zero, List.nil_append, jnS_1, jnS_z]
          exact ByteArray.ext (by simp [ByteArray.data_append])
        have hd7 : decide (0 < (k : Int)) = false := decide_eq_false (by omega)
        have hd8 : decide (0 < k) = false := decide_eq_false (by omega)
        have hd9 : ¬ (0 < k) := by omega
        clear hk0
        generalize jnS (xs.take k) = jk at *
        generalize decS x = dx at *
        go_wp2_with fail; ((with_reducible refine HCD.out.mono ?_); rintro e w2 ⟨rfl, hb2⟩)
        go_wp2
        go_roundw
        case rel => exact ⟨k + 1, by omega, by go_num, by rw [HS.out], hbr.trans (hb2.mono hbr.size)⟩
        case measure => simp [intOf]; omega
      · have hne : xs.take k ≠ [] := fun h => by have h2 := congrArg List.length h; rw [List.length_take, HL.out] at h2; simp at h2; omega
        have HS : Hid (jnS (xs.take (k + 1)) = jnS (xs.take k) ++ ⟨#[44]⟩ ++ decS x) := show _ = _ by rw [HT.out]; exact jnS_s hne
        have hs1 : (jnS (xs.take k) ++ ⟨#[44]⟩).size ≤ 22 * k + 1 := by rw [ba_app_size]; show _ + 1 ≤ _; omega
        generalize jnS (xs.take k) = jk at *
        generalize decS x = dx at *
        have hd9 : 0 < k := by omega
        have hd6 : 0 < (k : Int) := by omega
        clear hne
        go_wp2_with fail; ((with_reducible refine HCD.out.mono ?_); rintro e w2 ⟨rfl, hb2⟩)
        go_wp2
        go_roundw
        case rel => exact ⟨k + 1, by omega, by go_num, by rw [HS.out], hbr.trans (hb2.mono hbr.size)⟩
        case measure => simp [intOf]; omega
    · have e : k = n := by omega
      have HF : Hid (jnS (xs.take k) = lstS xs) := show _ = _ by rw [List.take_of_length_le (by rw [HL.out]; omega), lstS_n HX.out]
      rw [HF.out]
      clear e
      go_wp2
      go_ret
      exact ⟨rfl, hbr⟩
theorem own_addr {w : World} {base n c : Nat} {e : TypeId} {A : Option Addr} {xs : List Value} (h : w.ownsRow base e 1 (.slice A n c) n xs) (hn : 0 < n) : ∃ g, A = some ⟨g, 0, none⟩ ∧ g < w.heap.size ∧ n ≤ c ∧ ∀ j u, xs[j]? = some u → w.cell? ⟨g, j, none⟩ = some u := by
  have hl : xs.length = n := by have := h.1; simpa using this
  rcases h.2 with ⟨_, h0⟩ | ⟨g, cap, cur, hv, hbg, hgb, hnc, hcm, hcs, htake⟩
  · exfalso; omega
  injection hv with hA _ hc
  subst hA
  subst hc
  have hBlk : Blk w g e cur := hgb
  refine ⟨g, rfl, hBlk.lt, hnc, fun j u hu => (hBlk.cell j).trans ?_⟩
  rw [← htake, List.getElem?_take] at hu
  split at hu
  · rw [← Array.getElem?_toList]; exact hu
  · cases hu
def fitL (xs : List Int) : Bool := decide (xs.length ≤ 64) && xs.all fun x => inB x (-1000000000000) 1000000000000
theorem fitL_t {xs : List Int} (h : fitL xs = true) : xs.length ≤ 64 ∧ ∀ x ∈ xs, -1000000000000 ≤ x ∧ x ≤ 1000000000000 := by
  unfold fitL at h
  rw [Bool.and_eq_true] at h
  exact ⟨of_decide_eq_true h.1, fun x hx => inB_t (List.all_eq_true.1 h.2 x hx)⟩
theorem fitL_l {xs : List Int} (h : 64 < xs.length) : fitL xs = false := by unfold fitL; rw [decide_eq_false (by omega)]; rfl
theorem fitL_x {xs : List Int} {x : Int} (hx : x ∈ xs) (h : inB x (-1000000000000) 1000000000000 = false) : fitL xs = false := by
  unfold fitL
  rw [show (xs.all fun x => inB x (-1000000000000) 1000000000000) = false from List.all_eq_false.2 ⟨x, hx, by rw [h]; simp⟩, Bool.and_false]
def ltS (xs : List Int) : ByteArray := if fitL xs = true then lstS xs else ⟨#[]⟩
theorem ltS_y {xs : List Int} (h : fitL xs = true) : ltS xs = lstS xs := if_pos h
theorem ltS_n {xs : List Int} (h : fitL xs = false) : ltS xs = ⟨#[]⟩ := if_neg (by rw [h]; simp)
theorem info_Str : (Tryd.prog.info? 9).map (fun i => (i.zero, i.size, i.bytes)) = some (some (.string ByteArray.empty), 1, 16) := by kernel_rfl
abbrev strs (l : List Int) : List Value := l.map fun x => Value.string (decS x)
set_option maxHeartbeats 1600000 in
set_option maxRecDepth 100000 in
theorem ListText_any (A : Option Addr) (n c : Nat) (xs : List Int) (w : World) (hr : Reads w w.heap.size 1 A n (ints xs)) (hn : n ≤ 1048576) (ht : Pow w) :
    Calls Tryd.prog 69 #[.slice A n c] w fun e w' => e = .returned (.string (ltS xs)) ∧ Below w.heap.size w w' := by
  have HL := Lib.hid (ints_len hr)
  by_cases h64 : 64 < n
  · have HV := Lib.hid (ltS_n (fitL_l (xs := xs) (by rw [HL.out]; exact h64)))
    go_enter Tryd.func69, Tryd.ntmps69
    go_wp2
    go_ret
    exact ⟨by rw [HV.out]; rfl, Below.refl _ _⟩
  by_cases h0 : n = 0
  · have hx : xs = [] := List.length_eq_zero_iff.1 (by rw [HL.out]; exact h0)
    subst h0
    subst hx
    go_enter Tryd.func69, Tryd.ntmps69
    go_wp2
    go_ret
    exact ⟨rfl, Below.refl _ _⟩
  have hd0 : ((n : Int) == 0) = false := by simpa using h0
  have hn1 : 1 ≤ n := by omega
  have hn64 : n ≤ 64 := by omega
  obtain ⟨i0, hi0, hz0, hz1, hz2⟩ := info_parts info_Str
  have hmk := run_make_rowN (P := Tryd.prog) 55 9 i0 _ Tryd.underlying55 hi0 hz0 .i64 .i64 0 n (Nat.zero_le _) (by rw [hz2]; omega) (by omega) w
  rw [hz1, show ((0 : Nat) : Int) = 0 from rfl] at hmk
  have HT := Lib.hid ht
  have HX : Hid (xs ≠ []) := fun h => h0 (by rw [← HL.out, h]; rfl)
  have HM : Hid ((w.alloc (.cells (madeCells #[Value.string ByteArray.empty] n) 9)).ownsRow w.heap.size 9 1 (.slice (some ⟨w.heap.size, 0, none⟩) 0 n) 0 (strs [])) := World.ownsRow_made w _ n (Nat.le_refl _) (by unfold maxLen; omega) (by rw [size_madeCells]; omega)
  clear ht
  go_enter Tryd.func69, Tryd.ntmps69
  go_wp2
  go_loopw [3, 17] (fun o i wr => ∃ (k : Nat) (A' : Option Addr) (c' : Nat), k ≤ n ∧ o = .slice A' k c' ∧ i = .int .i64 k ∧ Hid (∀ x ∈ xs.take k, inB x (-1000000000000) 1000000000000 = true) ∧ wr.ownsRow w.heap.size 9 1 (.slice A' k c') k (strs (xs.take k)) ∧ Below w.heap.size w wr) (fun _ i _ => n - (intOf i).toNat)
  case atStart => exact ⟨0, _, n, by omega, rfl, rfl, (fun x hx => absurd hx (by simp)), HM.out, by (repeat (first | exact Below.refl _ _ | assumption | (refine Below.alloc ?_ (by first | exact Nat.le_refl _ | (simp; done) | (simp; omega)) _) | (refine below_drewN ?_ _) | (refine Below.trans ?_ (Below.mono (by assumption) (by first | exact Nat.le_refl _ | (simp; done) | (simp; omega) | omega)))))⟩
  case round =>
    obtain ⟨k, A', c', hk, rfl, rfl, HA, hown, hbr⟩ := hrel
    obtain ⟨wo, rfl⟩ : ∃ wo : World, wo = wr := ⟨_, rfl⟩
    by_cases hlt : k < n
    · obtain ⟨ad, u, rfl, had, hx, hc⟩ := (hr.below hbr).at_ hlt
      obtain ⟨x, hxx, rfl⟩ := ints_at hx
      have hmem := mem_of_at hxx
      have cW := within_any x (-1000000000000) 1000000000000 wo
      have hkI : (k : Int) < (n : Int) := by omega
      have HO := Lib.hid hown
      rcases Bool.eq_false_or_eq_true (inB x (-1000000000000) 1000000000000) with k1 | k1
      · obtain ⟨hb1, hb2⟩ := inB_t k1
        have cD := Decimal_any x wo (by omega) (by omega) (pow_below HT.out hbr)
        have HN : Hid (strs (xs.take (k + 1)) = strs (xs.take k) ++ [.string (decS x)]) := show _ = _ by rw [List.take_add_one, hxx]; simp [strs]
        have HA2 : Hid (∀ y ∈ xs.take (k + 1), inB y (-1000000000000) 1000000000000 = true) := fun y hy => by
          rw [List.take_add_one, hxx] at hy
          rcases List.mem_append.1 hy with hy | hy
          · exact HA.out y hy
          · rw [show y = x by simpa using hy]; exact k1
        rw [k1] at cW
        have HCW := Lib.hid cW
        have HCD := Lib.hid cD
        generalize decS x = dx at *
        clear hx hxx hmem cW cD k1 hown
        go_wp2_with fail; ((with_reducible refine HCW.out.mono ?_); rintro e w' ⟨rfl, rfl⟩)
        go_wp2_with fail; ((with_reducible refine HCD.out.mono ?_); rintro e w2 ⟨rfl, hb2⟩)
        have HO2 := Lib.hid (own_below HO.out hb2)
        have hbr2 := hbr.trans (hb2.mono hbr.size)
        go_wp2_with (at_builtin; (refine wpList_app _ rfl _ _ 55 rfl w.heap.size 9 i0 _ 1 16 Tryd.underlying55 hi0 hz0 hz1 hz2 rfl (by omega) A' _ c' _ rfl ((HO2.out).alloc _) ⟨_, 0, none⟩ 1 1 [.string dx] rfl rfl (cell_one_at (by simp) _ _) (by simp [Value.oneCell']) (by unfold maxLen; omega) (by omega) (by have hz := (hbr2).size; simp at hz ⊢; omega) ?_); intro A1 c1 w3 ho3 hb3)
        go_roundw
        case rel => exact ⟨k + 1, A1, c1, by omega, by first | rfl | go_num, by go_num, HA2, by rw [HN.out]; exact ho3, (hbr2.alloc hbr2.size _).trans hb3⟩
        case measure => simp [intOf]; omega
      · have HV := Lib.hid (ltS_n (fitL_x hmem k1))
        rw [k1] at cW
        have HCW := Lib.hid cW
        clear hx hxx hmem cW k1 hown
        go_wp2_with fail; ((with_reducible refine HCW.out.mono ?_); rintro e w' ⟨rfl, rfl⟩)
        go_wp2
        go_ret
        exact ⟨by rw [HV.out]; rfl, hbr⟩
    · have e : k = n := by omega
      have HTK : Hid (xs.take k = xs) := List.take_of_length_le (by rw [HL.out]; omega)
      rw [HTK.out] at HA hown
      have HFT : Hid (fitL xs = true) := show _ = _ by unfold fitL; rw [decide_eq_true (show xs.length ≤ 64 by rw [HL.out]; exact hn64), List.all_eq_true.2 HA.out]; rfl
      have HV : Hid (ltS xs = jnS xs) := (ltS_y HFT.out).trans (lstS_n HX.out)
      subst e
      obtain ⟨g, rfl, hg1, hg2, hg3⟩ := own_addr hown hn1
      have hbd : ∀ x ∈ xs, -9223372036854775808 ≤ x ∧ x ≤ 9223372036854775807 := fun x hx => by have := (fitL_t HFT.out).2 x hx; omega
      have hsz := jnS_len hbd xs.length (Nat.le_refl _)
      rw [List.take_length] at hsz
      have hmap : (xs.map decS).map (·.data.toList) = xs.map Lib.itoa := by rw [List.map_map]; exact List.map_congr_left fun x _ => decS_data x
      have cJ := Tryd.strings_Join g 0 c' (xs.map decS) ⟨#[44]⟩ wo (fun j y hy => by
        rw [Nat.zero_add]
        refine hg3 j _ ?_
        rw [List.getElem?_map] at hy ⊢
        obtain ⟨b, hb, rfl⟩ := Option.map_eq_some_iff.1 hy
        rw [hb]; rfl) hg1 (by rw [List.length_map, HL.out]; omega) (by rw [List.length_map, HL.out]; exact hg2) (by
        rw [hmap]
        have h2 : (jnS xs).size = (jn 44 (xs.map Lib.itoa)).length := by simp [jnS, ByteArray.size]
        rw [HL.out] at hsz
        show (jn 44 (xs.map Lib.itoa)).length ≤ _
        omega)
      rw [hmap, List.length_map, HL.out] at cJ
      have HJ : Hid (Calls Tryd.prog 82 #[.slice (some ⟨g, 0, none⟩) k c', .string ⟨#[44]⟩] wo fun e w' => e = .returned (.string (jnS xs)) ∧ Below wo.heap.size wo w') := cJ
      clear cJ hsz hbd hmap hg3 hown HM hmk
      go_wp2_with fail; ((with_reducible refine HJ.out.mono ?_); rintro e w2 ⟨rfl, hb2⟩)
      go_wp2
      go_ret
      exact ⟨by rw [HV.out]; rfl, hbr.trans (hb2.mono hbr.size)⟩
end Go.Proofs.YtdooajiobpjihaaDoor
