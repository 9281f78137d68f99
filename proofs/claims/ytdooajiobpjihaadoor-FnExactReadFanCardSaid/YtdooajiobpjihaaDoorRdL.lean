/- Contracts of the readings of lists of numbers, both sides. -/
import Derived.Test.YtdooajiobpjihaaDoorRdDC
namespace Go.Proofs.YtdooajiobpjihaaDoor
set_option linter.unusedVariables false
set_option linter.unusedSimpArgs false
open Go.RowKit
theorem strB_at {ps : List (List UInt8)} {k : Nat} {u : Value} (h : (strB ps)[k]? = some u) : ∃ p, ps[k]? = some p ∧ u = .string ⟨p.toArray⟩ := by
  rw [List.getElem?_map] at h
  obtain ⟨b, hb, e⟩ := Option.map_eq_some_iff.1 h
  exact ⟨b, hb, e.symm⟩
theorem splA_size {c : UInt8} : ∀ (l cur : List UInt8), ∀ p ∈ splA c cur l, p.length ≤ cur.length + l.length
  | [], cur, p, hp => by simp [splA] at hp; rw [hp]; simp
  | b :: r, cur, p, hp => by
    simp only [splA] at hp
    split at hp
    · rcases List.mem_cons.1 hp with rfl | hp
      · simp
      · have := splA_size r [] p hp
        simp at this ⊢; omega
    · have := splA_size r _ p hp
      simp at this ⊢; omega
theorem splitK_size {c : UInt8} : ∀ (k : Nat) (l : List UInt8), ∀ p ∈ Lib.splitK [c] 0 k l, p.length ≤ l.length
  | 0, l, p, hp => by rw [show Lib.splitK [c] 0 0 l = [l] from rfl] at hp; rw [List.mem_singleton.1 hp]; exact Nat.le_refl _
  | k + 1, l, p, hp => by
    unfold Lib.splitK at hp
    split at hp
    · rw [List.mem_singleton.1 hp]; exact Nat.le_refl _
    · rcases List.mem_cons.1 hp with rfl | hp
      · rw [List.length_take]; exact Nat.min_le_right _ _
      · have := splitK_size k _ p hp
        rw [List.length_drop] at this; omega
theorem mk_size (p : List UInt8) : (⟨p.toArray⟩ : ByteArray).size = p.length := by simp [ByteArray.size]
theorem mk_list (p : List UInt8) : (⟨p.toArray⟩ : ByteArray).data.toList = p := by simp
theorem take_cand {ps : List (List UInt8)} {k : Nat} {p : List UInt8} (h : ps[k]? = some p) : (ps.take (k + 1)).map candN = (ps.take k).map candN ++ [candN p] := by rw [List.take_add_one, h]; simp
theorem every_take {ps : List (List UInt8)} {k : Nat} {p : List UInt8} {Q : List UInt8 → Prop} (h : ps[k]? = some p) (ha : ∀ x ∈ ps.take k, Q x) (hp : Q p) : ∀ x ∈ ps.take (k + 1), Q x := fun x hx => by
  rw [List.take_add_one, h] at hx
  rcases List.mem_append.1 hx with hx | hx
  · exact ha x hx
  · rw [show x = p by simpa using hx]; exact hp
/-- What a reading of a list returns, but for its memory. -/
def lsV (l : List UInt8) : List Int := (rdL l).getD []
theorem lsV_n {l : List UInt8} (h : rdL l = none) : lsV l = [] := by unfold lsV; rw [h]; rfl
theorem lsV_y {l : List UInt8} {xs : List Int} (h : rdL l = some xs) : lsV l = xs := by unfold lsV; rw [h]; rfl
def lsB (l : List UInt8) : Bool := (rdL l).isSome
theorem lsB_n {l : List UInt8} (h : rdL l = none) : lsB l = false := by unfold lsB; rw [h]; rfl
theorem lsB_y {l : List UInt8} {xs : List Int} (h : rdL l = some xs) : lsB l = true := by unfold lsB; rw [h]; rfl
set_option maxHeartbeats 1600000 in
set_option maxRecDepth 100000 in
theorem specReadList_any (s : ByteArray) (w : World) (hs : s.size ≤ 1048576) :
    Calls Tryd.prog 33 #[.string s] w fun e w' => ∃ (A : Option Addr) (n c : Nat), e = .returned (.tuple #[.slice A n c, .bool (lsB s.data.toList)]) ∧ w'.ownsRow w.heap.size 2 1 (.slice A n c) n (ints (lsV s.data.toList)) ∧ n ≤ 64 ∧ Below w.heap.size w w' := by
  by_cases hd : s.data.toList = [45]
  · have HB := Lib.hid (lsB_y (l := s.data.toList) (xs := []) (by rw [hd]; exact rdL_dash))
    have HV := Lib.hid (lsV_y (l := s.data.toList) (xs := []) (by rw [hd]; exact rdL_dash))
    have hq : (s.toList == [45]) = true := by rw [ByteArray.toList_eq, hd]; rfl
    clear hd
    go_enter Tryd.func33, Tryd.ntmps33
    go_wp2
    go_ret2
    exact ⟨_, 0, 0, by rw [HB.out]; rfl, by rw [HV.out]; exact own_empty _ _ _, by omega, by (repeat (first | exact Below.refl _ _ | assumption | (refine Below.alloc ?_ (by first | exact Nat.le_refl _ | (simp; done) | (simp; omega)) _) | (refine below_drewN ?_ _) | (refine Below.trans ?_ (Below.mono (by assumption) (by first | exact Nat.le_refl _ | (simp; done) | (simp; omega) | omega)))))⟩
  have hq : (s.toList == [45]) = false := by rw [ByteArray.toList_eq]; exact beq_eq_false_iff_ne.2 hd
  have HL : Hid (s.data.toList.length = s.size) := blen s
  have HC : Hid (Calls Tryd.prog 32 #[.string s, .int .u8 44] w fun e w' => ∃ (A : Option Addr) (n c' : Nat), e = .returned (.slice A n c') ∧ w'.ownsRow w.heap.size 9 1 (.slice A n c') n (strB (splA 44 [] s.data.toList)) ∧ Hid ((splA 44 [] s.data.toList).length = n) ∧ n ≤ 1048577 ∧ Below w.heap.size w w') := l01Split_any s 44 w hs
  have HD : Hid (s.data.toList ≠ [45]) := hd
  obtain ⟨i0, hi0, hz0, hz1, hz2⟩ := info_parts info_Int64S
  clear hd
  go_enter Tryd.func33, Tryd.ntmps33
  go_wp2_with fail; ((with_reducible refine HC.out.mono ?_); rintro e w2 ⟨A, n, c, rfl, ho2, HN, hn, hb2⟩)
  by_cases h64 : 64 < n
  · have HR := rl_long HD.out (by rw [HN.out]; exact h64)
    have HB := Lib.hid (lsB_n HR)
    have HV := Lib.hid (lsV_n HR)
    clear HR ho2
    go_wp2
    go_ret2
    exact ⟨none, 0, 0, by rw [HB.out]; rfl, by rw [HV.out]; exact own_nil _ _ _ _, by omega, hb2⟩
  have hr := Reads.of_own ho2
  have HR := Lib.hid (hr.more (Nat.le_refl _))
  have hz2' := hb2.size
  clear ho2 hr
  go_wp2
  go_loopw [5, 6] (fun o i wr => ∃ (k : Nat) (A' : Option Addr) (c' : Nat), k ≤ n ∧ o = .slice A' k c' ∧ i = .int .i64 k ∧ Hid (∀ p ∈ (splA 44 [] s.data.toList).take k, ∃ m, rdN p = some m ∧ inB m (-1000000000000) 1000000000000 = true) ∧ wr.ownsRow w2.heap.size 2 1 (.slice A' k c') k (ints (((splA 44 [] s.data.toList).take k).map candN)) ∧ Below w2.heap.size w2 wr) (fun _ i _ => n - (intOf i).toNat)
  case atStart => exact ⟨0, _, 0, by omega, rfl, rfl, (fun p hp => absurd hp (by simp)), own_empty _ _ _, by (repeat (first | exact Below.refl _ _ | assumption | (refine Below.alloc ?_ (by first | exact Nat.le_refl _ | (simp; done) | (simp; omega)) _) | (refine below_drewN ?_ _) | (refine Below.trans ?_ (Below.mono (by assumption) (by first | exact Nat.le_refl _ | (simp; done) | (simp; omega) | omega)))))⟩
  case round =>
    obtain ⟨k, A', c', hk, rfl, rfl, HA, hown, hbr⟩ := hrel
    obtain ⟨wo, rfl⟩ : ∃ wo : World, wo = wr := ⟨_, rfl⟩
    have HO := Lib.hid hown
    clear hown
    by_cases hlt : k < n
    · obtain ⟨ad, u, rfl, had, hx, hc⟩ := (HR.out.below hbr).at_ hlt
      obtain ⟨p, hp, rfl⟩ := strB_at hx
      have hpl := splA_size _ _ p (List.mem_of_getElem? hp)
      have cN := l01Number_any ⟨p.toArray⟩ wo (by rw [mk_size]; have := HL.out; simp at hpl; omega)
      rw [mk_list] at cN
      have hkI : (k : Int) < (n : Int) := by omega
      rcases hr : rdN p with _ | m
      · have HRn := rl_bad HD.out hp (fun m e => by rw [hr] at e; cases e)
        have HB := Lib.hid (lsB_n HRn)
        have HV := Lib.hid (lsV_n HRn)
        rw [numV_n hr] at cN
        have HCN := Lib.hid cN
        generalize (⟨p.toArray⟩ : ByteArray) = sp at *
        clear HRn hr hp hx cN hpl
        go_wp2_with fail; ((with_reducible refine HCN.out.mono ?_); rintro e w' ⟨rfl, rfl⟩)
        go_wp2
        go_ret2
        exact ⟨none, 0, 0, by rw [HB.out]; rfl, by rw [HV.out]; exact own_nil _ _ _ _, by omega, hb2.trans (hbr.mono hb2.size)⟩
      · have cW := l00In_any m (-1000000000000) 1000000000000 wo
        rw [numV_y hr] at cN
        have HCN := Lib.hid cN
        rcases Bool.eq_false_or_eq_true (inB m (-1000000000000) 1000000000000) with k1 | k1
        · have hcm := cand_of hr
          have HT : Hid (((splA 44 [] s.data.toList).take (k + 1)).map candN = ((splA 44 [] s.data.toList).take k).map candN ++ [m]) := show _ = _ by rw [take_cand hp, hcm]
          have HA2 := Lib.hid (every_take hp HA.out ⟨m, hr, k1⟩)
          rw [k1] at cW
          have HCW := Lib.hid cW
          generalize (⟨p.toArray⟩ : ByteArray) = sp at *
          clear hr hp hx cN cW hpl k1 hcm
          go_wp2_with fail; ((with_reducible refine HCN.out.mono ?_); rintro e w' ⟨rfl, rfl⟩)
          go_wp2_with fail; ((with_reducible refine HCW.out.mono ?_); rintro e w' ⟨rfl, rfl⟩)
          go_wp2_with (at_builtin; (refine wpList_app _ rfl _ _ 57 rfl w2.heap.size 2 i0 _ 1 8 Tryd.underlying57 hi0 hz0 hz1 hz2 rfl (by omega) A' _ c' _ rfl ((HO.out).alloc _) ⟨_, 0, none⟩ 1 1 [.int .i64 m] rfl rfl (cell_one_at (by simp) _ _) (by simp [Value.oneCell']) (by unfold maxLen; omega) (by omega) (by have hz := (hbr).size; simp at hz ⊢; omega) ?_); intro A1 c1 w4 ho4 hb4)
          go_roundw
          case rel => exact ⟨k + 1, A1, c1, by omega, by first | rfl | go_num, by go_num, HA2, by rw [HT.out]; simpa [ints] using ho4, (hbr.alloc hbr.size _).trans hb4⟩
          case measure => simp [intOf]; omega
        · have HRn := rl_bad HD.out hp (fun m' e => by rw [hr] at e; obtain rfl := Option.some.inj e; exact k1)
          have HB := Lib.hid (lsB_n HRn)
          have HV := Lib.hid (lsV_n HRn)
          rw [k1] at cW
          have HCW := Lib.hid cW
          generalize (⟨p.toArray⟩ : ByteArray) = sp at *
          clear HRn hr hp hx cN cW hpl k1
          go_wp2_with fail; ((with_reducible refine HCN.out.mono ?_); rintro e w' ⟨rfl, rfl⟩)
          go_wp2_with fail; ((with_reducible refine HCW.out.mono ?_); rintro e w' ⟨rfl, rfl⟩)
          go_wp2
          go_ret2
          exact ⟨none, 0, 0, by rw [HB.out]; rfl, by rw [HV.out]; exact own_nil _ _ _ _, by omega, hb2.trans (hbr.mono hb2.size)⟩
    · have e : k = n := by omega
      have HTK : Hid ((splA 44 [] s.data.toList).take k = splA 44 [] s.data.toList) := List.take_of_length_le (by rw [HN.out]; omega)
      rw [HTK.out] at HA HO
      have HRy := rl_ok HD.out (by rw [HN.out]; omega) HA.out
      have HB := Lib.hid (lsB_y HRy)
      have HV := Lib.hid (lsV_y HRy)
      have hk64 : k ≤ 64 := by omega
      clear HRy e
      go_wp2
      go_ret2
      exact ⟨A', k, c', by rw [HB.out]; rfl, by rw [HV.out]; exact own_base HO.out hz2', hk64, hb2.trans (hbr.mono hb2.size)⟩
theorem splitB_mk (c : UInt8) (k : Nat) (s : ByteArray) : Lib.splitB ⟨#[c]⟩ 0 k s = (Lib.splitK [c] 0 k s.data.toList).map fun p => ⟨p.toArray⟩ := by
  have h := Lib.splitB_data ⟨#[c]⟩ 0 k s
  rw [show (⟨#[c]⟩ : ByteArray).data.toList = [c] from rfl] at h
  rw [← h, List.map_map]
  conv => lhs; rw [← List.map_id (Lib.splitB ⟨#[c]⟩ 0 k s)]
  exact List.map_congr_left fun b _ => ba_ext (by simp)
theorem splitK_len (c : UInt8) : ∀ (k : Nat) (l : List UInt8), (Lib.splitK [c] 0 k l).length ≤ k + 1
  | 0, l => by rw [show Lib.splitK [c] 0 0 l = [l] from rfl]; simp
  | k + 1, l => by
    unfold Lib.splitK
    split
    · simp
    · have := splitK_len c k (l.drop ((Lib.index l [c]).toNat + [c].length))
      simp only [List.length_cons] at this ⊢; omega
theorem SplitN_any (s : ByteArray) (c : UInt8) (n : Nat) (ni : Int) (hni : (n : Int) = ni) (w : World) (hs : s.size ≤ 1048576) (h1 : 1 ≤ n) (h2 : n ≤ 1000) (ht : Lib3 w) :
    Calls Tryd.prog 51 #[.string s, .string ⟨#[c]⟩, .int .i64 ni] w fun e w' => ∃ (A : Option Addr) (m d : Nat), e = .returned (.slice A m d) ∧ Reads w' w'.heap.size 1 A m (strB (Lib.splitK [c] 0 (min n (s.data.toList.length + 1) - 1) s.data.toList)) ∧ Hid ((Lib.splitK [c] 0 (min n (s.data.toList.length + 1) - 1) s.data.toList).length = m) ∧ m ≤ 1000 ∧ Below w.heap.size w w' := by
  subst hni
  obtain ⟨ml, hml⟩ := ht.ml
  have hc := Tryd.strings_SplitN s ⟨#[c]⟩ n ml w (by omega) hml (Nat.le_refl 1) h1 (by omega)
  have hsz : s.size = s.data.toList.length := (blen s).symm
  rw [splitB_mk, hsz] at hc
  refine hc.mono fun e w' ⟨he, hw⟩ => ?_
  have hl := splitK_len c (min n (s.data.toList.length + 1) - 1) s.data.toList
  have h3 : 1 ≤ min n (s.data.toList.length + 1) := by omega
  have h4 : min n (s.data.toList.length + 1) ≤ 1000 := by omega
  generalize Lib.splitK [c] 0 (min n (s.data.toList.length + 1) - 1) s.data.toList = qs at *
  generalize min n (s.data.toList.length + 1) = N at *
  have hN : qs.length ≤ N := by omega
  have hmap : (qs.map fun p => (⟨p.toArray⟩ : ByteArray)).map Value.string = strB qs := by rw [List.map_map]; rfl
  have ho : (w.alloc (.cells (Lib.cellsOf (qs.map fun p => (⟨p.toArray⟩ : ByteArray)) N) 9)).ownsRow w.heap.size 9 1 (.slice (some ⟨w.heap.size, 0, none⟩) qs.length N) qs.length (strB qs) :=
    ⟨by simp, .inr ⟨w.heap.size, N, Lib.cellsOf (qs.map fun p => (⟨p.toArray⟩ : ByteArray)) N, rfl, Nat.le_refl _, by have h := Blk.new w 9 (Lib.cellsOf (qs.map fun p => (⟨p.toArray⟩ : ByteArray)) N); exact h, hN, by unfold maxLen; omega, by rw [Lib.cellsOf_size (by simpa using hN)]; omega, by
      unfold Lib.cellsOf
      rw [hmap, List.take_left' (by simp)]⟩⟩
  subst hw
  refine ⟨some ⟨w.heap.size, 0, none⟩, qs.length, N, by rw [he, List.length_map], ?_, rfl, by omega, (Below.refl _ _).alloc (Nat.le_refl _) _⟩
  exact Reads.of_own ho
set_option maxHeartbeats 1600000 in
set_option maxRecDepth 100000 in
theorem implReadList_any (s : ByteArray) (w : World) (hs : s.size ≤ 1048576) (ht : Lib3 w) :
    Calls Tryd.prog 59 #[.string s] w fun e w' => ∃ (A : Option Addr) (n c : Nat), e = .returned (.tuple #[.slice A n c, .bool (lsB s.data.toList)]) ∧ w'.ownsRow w.heap.size 2 1 (.slice A n c) n (ints (lsV s.data.toList)) ∧ n ≤ 64 ∧ Below w.heap.size w w' := by
  by_cases hd : s.data.toList = [45]
  · have HB := Lib.hid (lsB_y (l := s.data.toList) (xs := []) (by rw [hd]; exact rdL_dash))
    have HV := Lib.hid (lsV_y (l := s.data.toList) (xs := []) (by rw [hd]; exact rdL_dash))
    have hq : (s.toList == [45]) = true := by rw [ByteArray.toList_eq, hd]; rfl
    clear hd ht
    go_enter Tryd.func59, Tryd.ntmps59
    go_wp2
    go_ret2
    exact ⟨none, 0, 0, by rw [HB.out]; rfl, by rw [HV.out]; exact own_nil _ _ _ _, by omega, Below.refl _ _⟩
  have hq : (s.toList == [45]) = false := by rw [ByteArray.toList_eq]; exact beq_eq_false_iff_ne.2 hd
  have HL : Hid (s.data.toList.length = s.size) := blen s
  have HC := Lib.hid (SplitN_any s 44 65 65 rfl w hs (by omega) (by omega) ht)
  have HD : Hid (s.data.toList ≠ [45]) := hd
  have HT3 := Lib.hid ht
  obtain ⟨i0, hi0, hz0, hz1, hz2⟩ := info_parts info_Int64S
  clear hd ht
  go_enter Tryd.func59, Tryd.ntmps59
  go_wp2_with fail; ((with_reducible refine HC.out.mono ?_); rintro e w2 ⟨A, n, c, rfl, hr, HN, hn, hb2⟩)
  have HPB := Lib.hid (fun (k : Nat) p h1 h2 => pl_bad (k := k) (p := p) HD.out h1 h2)
  have HOK := Lib.hid (fun h1 h2 => pl_ok HD.out h1 h2)
  have HNO := Lib.hid (fun h1 => pl_no HD.out h1)
  have HSZ : Hid (∀ p ∈ Lib.splitK [44] 0 (min 65 (s.data.toList.length + 1) - 1) s.data.toList, p.length ≤ s.size) := fun p hp => by
    have := splitK_size _ _ p hp; rw [HL.out] at this; exact this
  generalize Lib.splitK [44] 0 (min 65 (s.data.toList.length + 1) - 1) s.data.toList = qs at *
  have HR := Lib.hid hr
  have hz2' := hb2.size
  have ht2 := Lib.hid (lib3_below HT3.out hb2)
  clear hr HC
  go_wp2
  go_loopw [4, 14] (fun o i wr => ∃ (k : Nat) (A' : Option Addr) (c' : Nat), k ≤ n ∧ o = .slice A' k c' ∧ i = .int .i64 k ∧ Hid (∀ p ∈ qs.take k, ∃ m, rdN p = some m) ∧ wr.ownsRow w2.heap.size 2 1 (.slice A' k c') k (ints ((qs.take k).map candN)) ∧ Below w2.heap.size w2 wr) (fun _ i _ => n - (intOf i).toNat)
  case atStart => exact ⟨0, none, 0, by omega, rfl, rfl, (fun p hp => absurd hp (by simp)), own_nil _ _ _ _, by (repeat (first | exact Below.refl _ _ | assumption | (refine Below.alloc ?_ (by first | exact Nat.le_refl _ | (simp; done) | (simp; omega)) _) | (refine below_drewN ?_ _) | (refine Below.trans ?_ (Below.mono (by assumption) (by first | exact Nat.le_refl _ | (simp; done) | (simp; omega) | omega)))))⟩
  case round =>
    obtain ⟨k, A', c', hk, rfl, rfl, HA, hown, hbr⟩ := hrel
    obtain ⟨wo, rfl⟩ : ∃ wo : World, wo = wr := ⟨_, rfl⟩
    have HO := Lib.hid hown
    clear hown
    by_cases hlt : k < n
    · obtain ⟨ad, u, rfl, had, hx, hc⟩ := (HR.out.below hbr).at_ hlt
      obtain ⟨p, hp, rfl⟩ := strB_at hx
      have hpl := HSZ.out p (List.mem_of_getElem? hp)
      have cN := ReadDecimal_any ⟨p.toArray⟩ wo (by rw [mk_size]; omega) (lib3_below ht2.out hbr)
      rw [mk_list] at cN
      have hkI : (k : Int) < (n : Int) := by omega
      rcases hr : rdN p with _ | m
      · have HRn := HPB.out k p hp hr
        have HB := Lib.hid (lsB_n HRn)
        have HV := Lib.hid (lsV_n HRn)
        rw [numV_n hr] at cN
        have HCN := Lib.hid cN
        generalize (⟨p.toArray⟩ : ByteArray) = sp at *
        clear HRn hr hp hx cN hpl
        go_wp2_with fail; ((with_reducible refine HCN.out.mono ?_); rintro e w3 ⟨rfl, hb3⟩)
        go_wp2
        go_ret2
        exact ⟨none, 0, 0, by rw [HB.out]; rfl, by rw [HV.out]; exact own_nil _ _ _ _, by omega, (hb2.trans (hbr.mono hb2.size)).trans (hb3.mono (hb2.trans (hbr.mono hb2.size)).size)⟩
      · rw [numV_y hr] at cN
        have HCN := Lib.hid cN
        have hcm := cand_of hr
        have HT : Hid ((qs.take (k + 1)).map candN = (qs.take k).map candN ++ [m]) := show _ = _ by rw [take_cand hp, hcm]
        have HA2 := Lib.hid (every_take (Q := fun p => ∃ m, rdN p = some m) hp HA.out ⟨m, hr⟩)
        generalize (⟨p.toArray⟩ : ByteArray) = sp at *
        clear hr hp hx cN hpl hcm
        go_wp2_with fail; ((with_reducible refine HCN.out.mono ?_); rintro e w3 ⟨rfl, hb3⟩)
        have HO3 := Lib.hid (own_below HO.out hb3)
        have hbr3 := hbr.trans (hb3.mono hbr.size)
        go_wp2_with (at_builtin; (refine wpList_app _ rfl _ _ 57 rfl w2.heap.size 2 i0 _ 1 8 Tryd.underlying57 hi0 hz0 hz1 hz2 rfl (by omega) A' _ c' _ rfl ((HO3.out).alloc _) ⟨_, 0, none⟩ 1 1 [.int .i64 m] rfl rfl (cell_one_at (by simp) _ _) (by simp [Value.oneCell']) (by unfold maxLen; omega) (by omega) (by have hz := (hbr3).size; simp at hz ⊢; omega) ?_); intro A1 c1 w4 ho4 hb4)
        go_roundw
        case rel => exact ⟨k + 1, A1, c1, by omega, by first | rfl | go_num, by go_num, HA2, by rw [HT.out]; simpa [ints] using ho4, (hbr3.alloc hbr3.size _).trans hb4⟩
        case measure => simp [intOf]; omega
    · have e : k = n := by omega
      have HTK : Hid (qs.take k = qs) := List.take_of_length_le (by rw [HN.out]; omega)
      rw [HTK.out] at HA HO
      have hB := hb2.trans (hbr.mono hb2.size)
      have cT := ListText_any A' k c' (qs.map candN) wo (Reads.of_own HO.out) (by omega) (lib3_below HT3.out hB).pow
      have HCT := Lib.hid cT
      have hk1000 : k ≤ 1000 := by omega
      clear cT e
      by_cases he : (ltS (qs.map candN)).data.toList = s.data.toList
      · have HRy := HOK.out HA.out he
        have HB := Lib.hid (lsB_y HRy)
        have HV := Lib.hid (lsV_y HRy)
        have hll : (qs.map candN).length = k := ints_len (Reads.of_own HO.out)
        have hk64 : k ≤ 64 := by rw [← hll]; exact rdL_len HRy
        have hq : ((ltS (qs.map candN)).toList == s.toList) = true := by rw [toL_eq]; exact decide_eq_true he
        generalize ltS (qs.map candN) = lt at *
        clear he HRy hll HOK HNO
        go_wp2_with fail; ((with_reducible refine HCT.out.mono ?_); rintro e w3 ⟨rfl, hb3⟩)
        go_wp2
        go_ret2
        exact ⟨A', k, c', by rw [HB.out]; rfl, by rw [HV.out]; exact own_base (own_below HO.out hb3) hz2', hk64, hB.trans (hb3.mono hB.size)⟩
      · have HRn := HNO.out he
        have HB := Lib.hid (lsB_n HRn)
        have HV := Lib.hid (lsV_n HRn)
        have hq : ((ltS (qs.map candN)).toList == s.toList) = false := by rw [toL_eq]; exact decide_eq_false he
        generalize ltS (qs.map candN) = lt at *
        clear he HRn HOK HNO
        go_wp2_with fail; ((with_reducible refine HCT.out.mono ?_); rintro e w3 ⟨rfl, hb3⟩)
        go_wp2
        go_ret2
        exact ⟨none, 0, 0, by rw [HB.out]; rfl, by rw [HV.out]; exact own_nil _ _ _ _, by omega, hB.trans (hb3.mono hB.size)⟩
end Go.Proofs.YtdooajiobpjihaaDoor
