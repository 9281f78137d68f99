/- Contracts: what the library's variables hold; the program's reading of a numeral. -/
import Derived.Test.YtdooajiobpjihaaDoorNumC
import Derived.Lib.AtoiErrMem
namespace Go.Proofs.YtdooajiobpjihaaDoor
set_option linter.unusedVariables false
set_option linter.unusedSimpArgs false
open Go.RowKit
/-- What the library's variables hold. -/
structure Lib3 (w : World) : Prop where
  pow : Pow w
  ml : ∃ m, w.cell? ⟨0, 0, none⟩ = some (.int .i64 m)
  sy : ∃ t p, w.var? Tryd.prog "strconv.ErrSyntax" = some #[.iface t p]
  rg : ∃ t p, w.var? Tryd.prog "strconv.ErrRange" = some #[.iface t p]
theorem gSyn : Tryd.prog.globalNamed "strconv.ErrSyntax" = some 2 := by kernel_rfl
theorem gRng : Tryd.prog.globalNamed "strconv.ErrRange" = some 3 := by kernel_rfl
theorem lib3_below {w w' : World} (h : Lib3 w) (hb : Below w.heap.size w w') : Lib3 w' := by
  obtain ⟨m, hm⟩ := h.ml
  obtain ⟨t, p, hs⟩ := h.sy
  obtain ⟨t', p', hr⟩ := h.rg
  have c2 : w.cell? ⟨2, 0, none⟩ = some (.iface t p) := by have h0 := World.var?_cell gSyn hs 0; simpa using h0
  have c3 : w.cell? ⟨3, 0, none⟩ = some (.iface t' p') := by have h0 := World.var?_cell gRng hr 0; simpa using h0
  exact ⟨pow_below h.pow hb, ⟨m, (hb.cell (block_lt_of_cell hm)).trans hm⟩, ⟨t, p, var_below hs gSyn hb (block_lt_of_cell c2)⟩, ⟨t', p', var_below hr gRng hb (block_lt_of_cell c3)⟩⟩
theorem parse_ok (s : ByteArray) (w : World) (hs : s.size ≤ 1048576) (v : Int) (h : Lib.parseIntB 64 s.data.toList = .ok v) :
    Calls Tryd.prog 73 #[.string s, .int .i64 10, .int .i64 64] w fun e w' => e = .returned (.tuple #[.int .i64 v, .nilIface]) ∧ Below w.heap.size w w' :=
  (Tryd.strconv_ParseInt_10_at64_ok s (by omega) v h w).mono fun e w' ⟨he, hw⟩ => ⟨he, by
    rcases hw with rfl | ⟨t, rfl⟩
    · exact Below.refl _ _
    · exact Lib.bytesWorld_below _ _ _⟩
theorem parse_bad (s : ByteArray) (w : World) (hs : s.size ≤ 1048576) (ht : Lib3 w) (h : ∀ v, Lib.parseIntB 64 s.data.toList ≠ .ok v) :
    Calls Tryd.prog 73 #[.string s, .int .i64 10, .int .i64 64] w fun e w' => ∃ x N, e = .returned (.tuple #[.int .i64 x, .iface 126 (.pointer (some ⟨N, 0, none⟩))]) ∧ Below w.heap.size w w' := by
  obtain ⟨t, p, hsy⟩ := ht.sy
  obtain ⟨t', p', hrg⟩ := ht.rg
  rcases hP : Lib.parseIntB 64 s.data.toList with v | _ | _
  · exact absurd hP (h v)
  · exact (Any.strconv_ParseInt_10_at64_syntax_var Tryd.laysC174 s (by omega) hP t p w hsy).mono fun e w' ⟨N, he, _, _, hb⟩ => ⟨_, N, he, hb⟩
  · exact (Any.strconv_ParseInt_10_at64_range_var Tryd.laysC174 s (by omega) hP t' p' w hrg).mono fun e w' ⟨N, he, _, _, hb⟩ => ⟨_, N, he, hb⟩
theorem toL_eq {a b : ByteArray} : (a.toList == b.toList) = decide (a.data.toList = b.data.toList) := by
  rw [ByteArray.toList_eq, ByteArray.toList_eq]
  exact Bool.eq_iff_iff.2 (by simp)
theorem trim_len {v : Int} : (Lib.trimPrefix (Lib.itoa v) [45]).length = Lib.nDigits v.natAbs := by
  unfold Lib.trimPrefix Lib.hasPrefix Lib.itoa
  by_cases h : v < 0
  · rw [if_pos h, if_pos (by simp [List.isPrefixOf])]
    show (Lib.decDigits v.natAbs).length = _
    exact Lib.decDigits_length _
  · rw [if_neg h]
    obtain ⟨b, r, e, hb⟩ := dec_cons v.toNat
    have h45 : ¬ (45 : UInt8) = b := fun e => by rw [← e] at hb; exact absurd hb (by decide)
    rw [if_neg (by rw [e]; simp [List.isPrefixOf, h45]), Lib.decDigits_length, show v.natAbs = v.toNat by omega]
theorem parse_rng {l : List UInt8} {v : Int} (h : Lib.parseIntB 64 l = .ok v) : -9223372036854775808 ≤ v ∧ v ≤ 9223372036854775807 := by
  unfold Lib.parseIntB at h
  cases l with
  | nil => cases h
  | cons c r =>
    simp only [] at h
    split at h
    · cases h
    · cases h
    · rename_i u hu
      split at h
      · cases h
      · split at h
        · cases h
        · rename_i h1 h2
          have h3 := Lib.NumEnd.ok.inj h
          split at h3 <;> omega
set_option maxHeartbeats 800000 in
theorem ReadDecimal_any (s : ByteArray) (w : World) (hs : s.size ≤ 1048576) (ht : Lib3 w) :
    Calls Tryd.prog 52 #[.string s] w fun e w' => e = .returned (numV s.data.toList) ∧ Below w.heap.size w w' := by
  by_cases hP : ∃ v, Lib.parseIntB 64 s.data.toList = .ok v
  · obtain ⟨v, hv⟩ := hP
    obtain ⟨v1, v2⟩ := parse_rng hv
    have HC := Lib.hid (parse_ok s w hs v hv)
    have HT := Lib.hid (fun W (hb : Below w.heap.size w W) => Decimal_any v W v1 v2 (pow_below ht.pow hb))
    have HM : Hid (∀ W, Calls Tryd.prog 74 #[.string s, .string ⟨#[45]⟩] W fun e w' => e = .returned (.string ⟨(Lib.trimPrefix s.data.toList [45]).toArray⟩) ∧ w' = W) := fun W => Tryd.strings_TrimPrefix s ⟨#[45]⟩ W
    have htl : (⟨(Lib.trimPrefix s.data.toList [45]).toArray⟩ : ByteArray).size = (Lib.trimPrefix s.data.toList [45]).length := by simp [ByteArray.size]
    by_cases h18 : 18 < (Lib.trimPrefix s.data.toList [45]).length
    · have HV : Hid (numV s.data.toList = .tuple #[.int .i64 0, .bool false]) := numV_n (rdN_no fun n e => by
        obtain ⟨h1, h2⟩ := rdN_t e
        have h3 := nD_18.2 h2
        rw [← trim_len, h1] at h3
        omega)
      rw [← htl] at h18
      generalize (⟨(Lib.trimPrefix s.data.toList [45]).toArray⟩ : ByteArray) = tr at *
      clear htl hv v1 v2 ht
      go_enter Tryd.func52, Tryd.ntmps52
      go_wp2_with fail; ((with_reducible refine HC.out.mono ?_); rintro e w2 ⟨rfl, hb2⟩)
      go_wp2_with fail; ((with_reducible refine (HM.out _).mono ?_); rintro e w' ⟨rfl, rfl⟩)
      go_wp2
      go_ret2
      exact ⟨by rw [HV.out]; rfl, hb2⟩
    · have hle : (⟨(Lib.trimPrefix s.data.toList [45]).toArray⟩ : ByteArray).size ≤ 18 := by rw [htl]; omega
      by_cases he : (decS v).data.toList = s.data.toList
      · have HV : Hid (numV s.data.toList = .tuple #[.int .i64 v, .bool true]) := numV_y (rdN_y (by rw [← decS_data]; exact he) (nD_18.1 (by
          rw [← trim_len, ← decS_data, he]; omega)))
        have hq : ((decS v).toList == s.toList) = true := by rw [toL_eq]; exact decide_eq_true he
        generalize (⟨(Lib.trimPrefix s.data.toList [45]).toArray⟩ : ByteArray) = tr at *
        generalize decS v = dv at *
        clear htl hv v1 v2 ht he h18
        go_enter Tryd.func52, Tryd.ntmps52
        go_wp2_with fail; ((with_reducible refine HC.out.mono ?_); rintro e w2 ⟨rfl, hb2⟩)
        go_wp2_with fail; ((with_reducible refine (HM.out _).mono ?_); rintro e w' ⟨rfl, rfl⟩)
        go_wp2_with fail; ((with_reducible refine (HT.out _ hb2).mono ?_); rintro e w3 ⟨rfl, hb3⟩)
        go_wp2
        go_ret2
        exact ⟨by rw [HV.out]; rfl, hb2.trans (hb3.mono hb2.size)⟩
      · have HV : Hid (numV s.data.toList = .tuple #[.int .i64 0, .bool false]) := numV_n (rdN_no fun n e => by
          obtain ⟨h1, h2⟩ := rdN_t e
          have h3 := parse_itoa (n := n) (by omega) (by omega)
          rw [h1, hv] at h3
          obtain rfl := Lib.NumEnd.ok.inj h3
          rw [decS_data] at he
          exact he h1)
        have hq : ((decS v).toList == s.toList) = false := by rw [toL_eq]; exact decide_eq_false he
        generalize (⟨(Lib.trimPrefix s.data.toList [45]).toArray⟩ : ByteArray) = tr at *
        generalize decS v = dv at *
        clear htl hv v1 v2 ht he h18
        go_enter Tryd.func52, Tryd.ntmps52
        go_wp2_with fail; ((with_reducible refine HC.out.mono ?_); rintro e w2 ⟨rfl, hb2⟩)
        go_wp2_with fail; ((with_reducible refine (HM.out _).mono ?_); rintro e w' ⟨rfl, rfl⟩)
        go_wp2_with fail; ((with_reducible refine (HT.out _ hb2).mono ?_); rintro e w3 ⟨rfl, hb3⟩)
        go_wp2
        go_ret2
        exact ⟨by rw [HV.out]; rfl, hb2.trans (hb3.mono hb2.size)⟩
  · have HV : Hid (numV s.data.toList = .tuple #[.int .i64 0, .bool false]) := numV_n (rdN_no fun n e => by
      obtain ⟨h1, h2⟩ := rdN_t e
      exact hP ⟨n, by rw [← h1]; exact parse_itoa (by omega) (by omega)⟩)
    have HC := Lib.hid (parse_bad s w hs ht fun v hv => hP ⟨v, hv⟩)
    clear hP ht
    go_enter Tryd.func52, Tryd.ntmps52
    go_wp2_with fail; ((with_reducible refine HC.out.mono ?_); rintro e w2 ⟨x, N, rfl, hb2⟩)
    go_wp2
    go_ret2
    exact ⟨by rw [HV.out]; rfl, hb2⟩
end Go.Proofs.YtdooajiobpjihaaDoor
