/- Contract of the reference's split of a text at a byte. -/
import Derived.Test.YtdooajiobpjihaaDoorRdp
namespace Go.Proofs.YtdooajiobpjihaaDoor
set_option linter.unusedVariables false
set_option linter.unusedSimpArgs false
open Go.RowKit
/-- Texts, given by their bytes. -/
abbrev strB (ps : List (List UInt8)) : List Value := ps.map fun p => Value.string ⟨p.toArray⟩
theorem byte_mem {s : ByteArray} {k : Nat} (h : k < s.size) : s.data.toList[k]? = some s[k] := by
  rw [List.getElem?_eq_getElem (by rw [Array.length_toList]; exact h)]; rfl
theorem ext_bytes (s : ByteArray) (f k : Nat) : s.extract f k = ⟨((s.data.toList.drop f).take (k - f)).toArray⟩ := by
  refine ba_ext ?_
  rw [ByteArray.data_extract]
  simp
theorem spl_hit {c : UInt8} {l cur : List UInt8} {k : Nat} {b : UInt8} (h : l[k]? = some b) (e : b = c) : splA c cur (l.drop k) = cur :: splA c [] (l.drop (k + 1)) := by
  rw [List.drop_eq_getElem?_toList_append, h]
  show splA c cur (b :: l.drop (k + 1)) = _
  simp only [splA]; rw [if_pos e]
theorem spl_miss {c : UInt8} {l cur : List UInt8} {k : Nat} {b : UInt8} (h : l[k]? = some b) (e : b ≠ c) : splA c cur (l.drop k) = splA c (cur ++ [b]) (l.drop (k + 1)) := by
  rw [List.drop_eq_getElem?_toList_append, h]
  show splA c cur (b :: l.drop (k + 1)) = _
  simp only [splA]; rw [if_neg e]
theorem cur_more {l : List UInt8} {f k : Nat} {b : UInt8} (hf : f ≤ k) (h : l[k]? = some b) : (l.drop f).take (k + 1 - f) = (l.drop f).take (k - f) ++ [b] := by
  rw [show k + 1 - f = k - f + 1 by omega, List.take_add_one, List.getElem?_drop, show f + (k - f) = k by omega, h]; rfl
set_option maxHeartbeats 1600000 in
set_option maxRecDepth 100000 in
theorem l01Split_any (s : ByteArray) (c : UInt8) (w : World) (hs : s.size ≤ 1048576) :
    Calls Tryd.prog 32 #[.string s, .int .u8 c.toNat] w fun e w' => ∃ (A : Option Addr) (n c' : Nat), e = .returned (.slice A n c') ∧ w'.ownsRow w.heap.size 9 1 (.slice A n c') n (strB (splA c [] s.data.toList)) ∧ Hid ((splA c [] s.data.toList).length = n) ∧ n ≤ 1048577 ∧ Below w.heap.size w w' := by
  obtain ⟨i0, hi0, hz0, hz1, hz2⟩ := info_parts info_Str
  go_enter Tryd.func32, Tryd.ntmps32
  go_wp2
  go_loopw [5, 6, 7] (fun o f i wr => ∃ (k f0 : Nat) (A' : Option Addr) (c' : Nat) (ps : List (List UInt8)), k ≤ s.size ∧ f0 ≤ k ∧ ps.length ≤ k ∧ o = .slice A' ps.length c' ∧ f = .int .i64 f0 ∧ i = .int .i64 k ∧ Hid (splA c [] s.data.toList = ps ++ splA c ((s.data.toList.drop f0).take (k - f0)) (s.data.toList.drop k)) ∧ wr.ownsRow w.heap.size 9 1 (.slice A' ps.length c') ps.length (strB ps) ∧ Below w.heap.size w wr) (fun _ _ i _ => s.size - (intOf i).toNat)
  case atStart => exact ⟨0, 0, _, 0, [], by omega, by omega, by simp, rfl, rfl, rfl, (show _ = _ by simp), own_empty _ _ _, by (repeat (first | exact Below.refl _ _ | assumption | (refine Below.alloc ?_ (by first | exact Nat.le_refl _ | (simp; done) | (simp; omega)) _) | (refine below_drewN ?_ _) | (refine Below.trans ?_ (Below.mono (by assumption) (by first | exact Nat.le_refl _ | (simp; done) | (simp; omega) | omega)))))⟩
  case round =>
    obtain ⟨k, f0, A', c', ps, hk, hfk, hpk, rfl, rfl, rfl, HE, hown, hbr⟩ := hrel
    obtain ⟨wo, rfl⟩ : ∃ wo : World, wo = wr := ⟨_, rfl⟩
    have HO := Lib.hid hown
    clear hown
    by_cases hlt : k < s.size
    · have hb0 := byte_mem hlt
      by_cases hbc : s[k] = c
      · have HN : Hid (splA c [] s.data.toList = (ps ++ [(s.data.toList.drop f0).take (k - f0)]) ++ splA c ((s.data.toList.drop (k + 1)).take (k + 1 - (k + 1))) (s.data.toList.drop (k + 1))) := show _ = _ by
          rw [HE.out, spl_hit hb0 hbc]; simp
        have heq : ((s[k].toNat : Int) == (c.toNat : Int)) = true := by rw [hbc]; simp
        have HX := Lib.hid (ext_bytes s f0 k)
        clear hb0 hbc HE
        go_wp2_with (at_builtin; (refine wpList_app _ rfl _ _ 55 rfl w.heap.size 9 i0 _ 1 16 Tryd.underlying55 hi0 hz0 hz1 hz2 rfl (by omega) A' _ c' _ rfl ((HO.out).alloc _) ⟨_, 0, none⟩ 1 1 [.string (s.extract f0 k)] rfl rfl (cell_one_at (by simp) _ _) (by simp [Value.oneCell']) (by unfold maxLen; omega) (by omega) (by have hz := (hbr).size; simp at hz ⊢; omega) ?_); intro A1 c1 w3 ho3 hb3)
        go_roundw
        case rel => exact ⟨k + 1, k + 1, A1, c1, ps ++ [(s.data.toList.drop f0).take (k - f0)], by omega, by omega, by simp; omega, by simp, by go_num, by go_num, HN, by rw [HX.out] at ho3; simpa using ho3, (hbr.alloc hbr.size _).trans hb3⟩
        case measure => simp [intOf]; omega
      · have HN : Hid (splA c [] s.data.toList = ps ++ splA c ((s.data.toList.drop f0).take (k + 1 - f0)) (s.data.toList.drop (k + 1))) := show _ = _ by
          rw [HE.out, spl_miss hb0 hbc, cur_more hfk hb0]
        have heq : ((s[k].toNat : Int) == (c.toNat : Int)) = false := by
          rw [beq_eq_false_iff_ne]
          exact fun h => hbc (UInt8.toNat_inj.1 (by omega))
        clear hb0 hbc HE
        go_wp2
        go_roundw
        case rel => exact ⟨k + 1, f0, A', c', ps, by omega, by omega, by omega, rfl, rfl, by go_num, HN, HO.out, hbr⟩
        case measure => simp [intOf]; omega
    · have e : k = s.size := by omega
      have HN : Hid (splA c [] s.data.toList = ps ++ [(s.data.toList.drop f0).take (k - f0)]) := show _ = _ by
        have hd : s.data.toList.drop k = [] := List.drop_of_length_le (by rw [Array.length_toList]; show s.size ≤ k; omega)
        rw [HE.out, hd]; rfl
      have HX : Hid (s.extract f0 s.size = ⟨((s.data.toList.drop f0).take (k - f0)).toArray⟩) := show _ = _ by rw [e]; exact ext_bytes s f0 s.size
      have hfs : f0 ≤ s.size := by omega
      have hps : ps.length ≤ 1048576 := by omega
      clear HE
      go_wp2_with (at_builtin; (refine wpList_app _ rfl _ _ 55 rfl w.heap.size 9 i0 _ 1 16 Tryd.underlying55 hi0 hz0 hz1 hz2 rfl (by omega) A' _ c' _ rfl ((HO.out).alloc _) ⟨_, 0, none⟩ 1 1 [.string (s.extract f0 s.size)] rfl rfl (cell_one_at (by simp) _ _) (by simp [Value.oneCell']) (by unfold maxLen; omega) (by omega) (by have hz := (hbr).size; simp at hz ⊢; omega) ?_); intro A1 c1 w3 ho3 hb3)
      go_wp2
      go_ret
      exact ⟨A1, ps.length + 1, c1, rfl, by rw [HN.out]; rw [HX.out] at ho3; simpa using ho3, (show _ = _ by rw [HN.out]; simp), by omega, (hbr.alloc hbr.size _).trans hb3⟩
end Go.Proofs.YtdooajiobpjihaaDoor
