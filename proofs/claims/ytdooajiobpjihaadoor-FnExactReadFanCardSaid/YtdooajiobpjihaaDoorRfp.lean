/- What the texts of fans read as: plain laws. -/
import Derived.Test.YtdooajiobpjihaaDoorRdW
import Derived.Test.YtdooajiobpjihaaDoorFnT
namespace Go.Proofs.YtdooajiobpjihaaDoor
set_option linter.unusedVariables false
set_option linter.unusedSimpArgs false
/-- A point as text. -/
def ptB (x : List Int) : List UInt8 := Lib.itoa (x.getD 0 0) ++ 58 :: Lib.itoa (x.getD 1 0)
/-- A point read, by the pieces between ':'. -/
def rdP (w : List UInt8) : Option (List Int) :=
  match splA 58 [] w with
  | [a, b] => match rdN a, rdN b with
    | some x, some y => some [x, y]
    | _, _ => none
  | _ => none
def candP (w : List UInt8) : List Int := (splA 58 [] w).map candN
/-- A fan read. -/
def rdF (l : List UInt8) : Option (List UInt8 × Int × List (List Int)) :=
  match splA 32 [] l with
  | p :: t :: ws => match rdN t with
    | some a => if ws.all (fun w => (rdP w).isSome) = true ∧ fanOk ⟨p.toArray⟩ a (ws.map candP) = true then some (p, a, ws.map candP) else none
    | none => none
  | _ => none
theorem rdP_t {w : List UInt8} {x : List Int} (h : rdP w = some x) : candP w = x ∧ ptB x = w ∧ x.length = 2 := by
  unfold rdP at h
  have hj := splA_jn (c := 58) w []
  unfold candP
  split at h
  · rename_i a b hs
    rw [hs] at hj ⊢
    split at h
    · rename_i x0 y0 hx hy
      obtain rfl := Option.some.inj h
      refine ⟨by simp [cand_of hx, cand_of hy], ?_, rfl⟩
      show Lib.itoa x0 ++ 58 :: Lib.itoa y0 = w
      rw [(rdN_t hx).1, (rdN_t hy).1]
      rw [jn_cons, jn_one] at hj
      simpa using hj
    · cases h
  · cases h
theorem spl_pt (x : List Int) : splA 58 [] (ptB x) = [Lib.itoa (x.getD 0 0), Lib.itoa (x.getD 1 0)] := by
  have h := spl_jn (c := 58) [Lib.itoa (x.getD 0 0), Lib.itoa (x.getD 1 0)] (by simp) (fun q hq => by
    rcases List.mem_cons.1 hq with rfl | hq
    · exact itoa_no (by decide)
    · rw [List.mem_singleton.1 hq]; exact itoa_no (by decide))
  rw [jn_cons, jn_one] at h
  exact h
theorem cut_pt (x : List Int) : Lib.cut (ptB x) [58] = (Lib.itoa (x.getD 0 0), Lib.itoa (x.getD 1 0), true) := cut_at (itoa_no (by decide))
theorem two_of {x : List Int} (h : x.length = 2) : x = [x.getD 0 0, x.getD 1 0] := by
  match x, h with
  | [a, b], _ => rfl
/-- What the points of a valid fan are. -/
theorem pts_of {s : ByteArray} {a : Int} {ls : List (List Int)} (h : fanOk s a ls = true) {x : List Int} (hx : x ∈ ls) : x.length = 2 ∧ rdN (Lib.itoa (x.getD 0 0)) = some (x.getD 0 0) ∧ rdN (Lib.itoa (x.getD 1 0)) = some (x.getD 1 0) := by
  obtain ⟨k, hk⟩ := List.mem_iff_getElem?.1 hx
  have hlt := (List.getElem?_eq_some_iff.1 hk).1
  obtain ⟨h1, b1, b2, b3, b4, _⟩ := crv_t ((crvOk_t (fanOk_t h).2.2).2.2 k hlt)
  obtain ⟨x1, x2, x3⟩ := lock_row hk
  rw [x1] at h1
  rw [x2] at b1 b2
  rw [x3] at b3 b4
  exact ⟨h1, rdN_y rfl (by omega), rdN_y rfl (by omega)⟩
theorem rdP_pt {x : List Int} (h1 : x.length = 2) (h2 : rdN (Lib.itoa (x.getD 0 0)) = some (x.getD 0 0)) (h3 : rdN (Lib.itoa (x.getD 1 0)) = some (x.getD 1 0)) : rdP (ptB x) = some x := by
  unfold rdP
  rw [spl_pt]
  simp only []
  rw [h2, h3]
  simp only []
  rw [← two_of h1]
theorem fnP_bytes (p : List UInt8) (a : Int) (ls : List (List Int)) : ∀ k, k ≤ ls.length → (fnP ⟨p.toArray⟩ a ls k).data.toList = jn 32 (p :: Lib.itoa a :: (ls.take k).map ptB)
  | 0, _ => by
    rw [fnP_z, ← decS_itoa, show (⟨#[32]⟩ : ByteArray) = ⟨[(32 : UInt8)].toArray⟩ from rfl, str_app, str_app, List.take_zero, List.map_nil, jn_cons, jn_one]
    simp
  | k + 1, hk => by
    have ih := fnP_bytes p a ls k (by omega)
    obtain ⟨x, hx⟩ : ∃ x, ls[k]? = some x := ⟨_, List.getElem?_eq_getElem (by omega)⟩
    obtain ⟨_, x2, x3⟩ := lock_row hx
    have hps : p :: Lib.itoa a :: (ls.take (k + 1)).map ptB = (p :: Lib.itoa a :: (ls.take k).map ptB) ++ [ptB x] := by rw [List.take_add_one, hx]; simp
    rw [hps, jn_snoc _ _ (by simp), ← ih, fnP_s, x2, x3, ← decS_itoa, ← decS_itoa, show (⟨#[32]⟩ : ByteArray) = ⟨[(32 : UInt8)].toArray⟩ from rfl, show (⟨#[58]⟩ : ByteArray) = ⟨[(58 : UInt8)].toArray⟩ from rfl, str_app, str_app, str_app]
    have happ : ∀ (u : ByteArray) (v : List UInt8), (u ++ ⟨v.toArray⟩ : ByteArray).data.toList = u.data.toList ++ v := fun u v => by
      rw [ByteArray.data_append]; simp
    rw [happ]
    unfold ptB
    simp
theorem fn_text {p : List UInt8} {a : Int} {ls : List (List Int)} (h : fanOk ⟨p.toArray⟩ a ls = true) : (fnT ⟨p.toArray⟩ a ls).data.toList = jn 32 (p :: Lib.itoa a :: ls.map ptB) := by
  rw [fnT_y h, fnP_bytes p a ls _ (Nat.le_refl _), List.take_length]
theorem pt_no (x : List Int) : (32 : UInt8) ∉ ptB x := fun h => by
  rcases List.mem_append.1 h with h | h
  · exact itoa_no (by decide) h
  · rcases List.mem_cons.1 h with h | h
    · exact absurd h (by decide)
    · exact itoa_no (by decide) h
theorem fan_no {p : List UInt8} {a : Int} {ls : List (List Int)} (h : fanOk ⟨p.toArray⟩ a ls = true) : ∀ q ∈ p :: Lib.itoa a :: ls.map ptB, (32 : UInt8) ∉ q := fun q hq => by
  rcases List.mem_cons.1 hq with rfl | hq
  · have h2 := name_no (fanOk_t h).1 (c := 32) (by decide)
    rwa [mk_list] at h2
  · rcases List.mem_cons.1 hq with rfl | hq
    · exact itoa_no (by decide)
    · obtain ⟨x, _, rfl⟩ := List.mem_map.1 hq
      exact pt_no x
theorem rdF_t {l p : List UInt8} {a : Int} {ls : List (List Int)} (h : rdF l = some (p, a, ls)) : fanOk ⟨p.toArray⟩ a ls = true ∧ l = jn 32 (p :: Lib.itoa a :: ls.map ptB) := by
  unfold rdF at h
  have hj := splA_jn (c := 32) l []
  split at h
  · rename_i p0 t0 ws hs
    rw [hs] at hj
    split at h
    · rename_i a0 ha
      split at h
      · rename_i hc
        obtain ⟨rfl, h2⟩ := Prod.mk.inj (Option.some.inj h)
        obtain ⟨rfl, rfl⟩ := Prod.mk.inj h2
        refine ⟨hc.2, ?_⟩
        have hw : (ws.map candP).map ptB = ws := by
          rw [List.map_map]
          conv => rhs; rw [← List.map_id ws]
          refine List.map_congr_left fun w hw => ?_
          obtain ⟨x, hx⟩ := Option.isSome_iff_exists.1 (List.all_eq_true.1 hc.1 w hw)
          obtain ⟨e1, e2, _⟩ := rdP_t hx
          show ptB (candP w) = w
          rw [e1, e2]
        rw [hw, (rdN_t ha).1, hj]; rfl
      · cases h
    · cases h
  · cases h
theorem rdF_y {p : List UInt8} {a : Int} {ls : List (List Int)} (h : fanOk ⟨p.toArray⟩ a ls = true) : rdF (jn 32 (p :: Lib.itoa a :: ls.map ptB)) = some (p, a, ls) := by
  unfold rdF
  rw [spl_jn _ (by simp) (fan_no h)]
  simp only []
  have ha := (fanOk_t h).2.1
  rw [rdN_y (n := a) rfl (by omega)]
  simp only []
  have hm : (ls.map ptB).map candP = ls := by
    rw [List.map_map]
    conv => rhs; rw [← List.map_id ls]
    refine List.map_congr_left fun x hx => ?_
    obtain ⟨h1, h2, h3⟩ := pts_of h hx
    exact (rdP_t (rdP_pt h1 h2 h3)).1
  have hall : (ls.map ptB).all (fun w => (rdP w).isSome) = true := List.all_eq_true.2 fun w hw => by
    obtain ⟨x, hx, rfl⟩ := List.mem_map.1 hw
    obtain ⟨h1, h2, h3⟩ := pts_of h hx
    rw [rdP_pt h1 h2 h3]; rfl
  rw [hm, if_pos ⟨hall, h⟩]
theorem rdF_no {l : List UInt8} (h : ∀ p a ls, rdF l ≠ some (p, a, ls)) : rdF l = none := by
  cases e : rdF l with
  | none => rfl
  | some q => exact absurd e (h q.1 q.2.1 q.2.2)
-- the reference's ways
theorem rf_spl {l p : List UInt8} {a : Int} {ls : List (List Int)} (h : rdF l = some (p, a, ls)) : splA 32 [] l = p :: Lib.itoa a :: ls.map ptB := by
  obtain ⟨h1, h2⟩ := rdF_t h
  rw [h2, spl_jn _ (by simp) (fan_no h1)]
theorem rf_short {l : List UInt8} (h : (splA 32 [] l).length < 4) : rdF l = none := rdF_no fun p a ls e => by
  have h2 := (crvOk_t (fanOk_t (rdF_t e).1).2.2).1
  rw [rf_spl e] at h
  simp at h; omega
theorem rf_num {l t : List UInt8} (h : (splA 32 [] l)[1]? = some t) (hn : rdN t = none) : rdF l = none := rdF_no fun p a ls e => by
  have ha := (fanOk_t (rdF_t e).1).2.1
  rw [rf_spl e] at h
  obtain rfl : Lib.itoa a = t := by simpa using h
  rw [rdN_y (n := a) rfl (by omega)] at hn
  cases hn
theorem rf_pt {l w : List UInt8} {k : Nat} (h : (splA 32 [] l)[k + 2]? = some w) (hw : rdP w = none) : rdF l = none := rdF_no fun p a ls e => by
  rw [rf_spl e] at h
  simp only [List.getElem?_cons_succ, List.getElem?_map] at h
  obtain ⟨x, hx, rfl⟩ := Option.map_eq_some_iff.1 h
  obtain ⟨h1, h2, h3⟩ := pts_of (rdF_t e).1 (List.mem_of_getElem? hx)
  rw [rdP_pt h1 h2 h3] at hw
  cases hw
theorem rf_ok {l p t : List UInt8} {ws : List (List UInt8)} {a : Int} (h : splA 32 [] l = p :: t :: ws) (ha : rdN t = some a) (hw : ∀ w ∈ ws, ∃ x, rdP w = some x) : rdF l = if fanOk ⟨p.toArray⟩ a (ws.map candP) = true then some (p, a, ws.map candP) else none := by
  unfold rdF
  rw [h]
  simp only []
  rw [ha]
  simp only []
  have h1 : ws.all (fun w => (rdP w).isSome) = true := List.all_eq_true.2 fun w hx => by
    obtain ⟨x, e⟩ := hw w hx
    rw [e]; rfl
  by_cases k : fanOk ⟨p.toArray⟩ a (ws.map candP) = true
  · rw [if_pos ⟨h1, k⟩, if_pos k]
  · rw [if_neg (fun e => k e.2), if_neg k]
-- the program's ways
theorem pf_spl {l p : List UInt8} {a : Int} {ls : List (List Int)} (h : rdF l = some (p, a, ls)) : Lib.splitK [32] 0 (min 11 (l.length + 1) - 1) l = p :: Lib.itoa a :: ls.map ptB := by
  obtain ⟨h1, h2⟩ := rdF_t h
  have h8 := (crvOk_t (fanOk_t h1).2.2).2.1
  have h4 := jn_long (c := 32) (p :: Lib.itoa a :: ls.map ptB)
  rw [← h2] at h4
  simp only [List.length_cons, List.length_map] at h4
  conv => lhs; rw [h2]
  refine splitK_jn _ _ (by simp) (fan_no h1) ?_
  simp only [List.length_cons, List.length_map]
  rw [← h2]; omega
theorem pf_short {l : List UInt8} (h : (Lib.splitK [32] 0 (min 11 (l.length + 1) - 1) l).length < 2) : rdF l = none := rdF_no fun p a ls e => by
  rw [pf_spl e] at h
  simp at h
  omega
theorem pf_num {l t : List UInt8} (h : (Lib.splitK [32] 0 (min 11 (l.length + 1) - 1) l)[1]? = some t) (hn : rdN t = none) : rdF l = none := rdF_no fun p a ls e => by
  have ha := (fanOk_t (rdF_t e).1).2.1
  rw [pf_spl e] at h
  obtain rfl : Lib.itoa a = t := by simpa using h
  rw [rdN_y (n := a) rfl (by omega)] at hn
  cases hn
theorem pf_pt {l w : List UInt8} {k : Nat} (h : (Lib.splitK [32] 0 (min 11 (l.length + 1) - 1) l)[k + 2]? = some w) (hw : rdN (Lib.cut w [58]).1 = none ∨ rdN (Lib.cut w [58]).2.1 = none) : rdF l = none := rdF_no fun p a ls e => by
  rw [pf_spl e] at h
  simp only [List.getElem?_cons_succ, List.getElem?_map] at h
  obtain ⟨x, hx, rfl⟩ := Option.map_eq_some_iff.1 h
  obtain ⟨h1, h2, h3⟩ := pts_of (rdF_t e).1 (List.mem_of_getElem? hx)
  rw [cut_pt] at hw
  rcases hw with hw | hw
  · rw [h2] at hw; cases hw
  · rw [h3] at hw; cases hw
def candC (w : List UInt8) : List Int := [candN (Lib.cut w [58]).1, candN (Lib.cut w [58]).2.1]
theorem candC_pt {x : List Int} (h : x.length = 2) : candC (ptB x) = x := by
  unfold candC
  rw [cut_pt]
  show [candN (Lib.itoa _), candN (Lib.itoa _)] = x
  rw [candN_itoa, candN_itoa, ← two_of h]
theorem pf_nil : Lib.splitK [32] 0 (min 11 (([] : List UInt8).length + 1) - 1) [] = [[]] := rfl
theorem pf_yes {l p t : List UInt8} {ws : List (List UInt8)} {a : Int} (h : Lib.splitK [32] 0 (min 11 (l.length + 1) - 1) l = p :: t :: ws) (ha : rdN t = some a) (he : (fnT ⟨p.toArray⟩ a (ws.map candC)).data.toList = l) : rdF l = some (p, a, ws.map candC) := by
  cases hk : fanOk ⟨p.toArray⟩ a (ws.map candC) with
  | true =>
    rw [fn_text hk] at he
    rw [← he]; exact rdF_y hk
  | false =>
    exfalso
    rw [fnT_n hk] at he
    have h0 : l = [] := he.symm
    rw [h0, pf_nil] at h
    cases h
theorem pf_no {l p t : List UInt8} {ws : List (List UInt8)} {a : Int} (h : Lib.splitK [32] 0 (min 11 (l.length + 1) - 1) l = p :: t :: ws) (ha : rdN t = some a) (he : (fnT ⟨p.toArray⟩ a (ws.map candC)).data.toList ≠ l) : rdF l = none := rdF_no fun q b ls e => by
  have h1 := pf_spl e
  rw [h] at h1
  obtain ⟨rfl, h2⟩ := List.cons.inj h1
  obtain ⟨rfl, rfl⟩ := List.cons.inj h2
  have hok := (rdF_t e).1
  have hb := (fanOk_t hok).2.1
  rw [rdN_y (n := b) rfl (by omega)] at ha
  obtain rfl := Option.some.inj ha
  have hm : (ls.map ptB).map candC = ls := by
    rw [List.map_map]
    conv => rhs; rw [← List.map_id ls]
    exact List.map_congr_left fun x hx => candC_pt (pts_of hok hx).1
  rw [hm, fn_text hok] at he
  exact he (rdF_t e).2.symm
end Go.Proofs.YtdooajiobpjihaaDoor
