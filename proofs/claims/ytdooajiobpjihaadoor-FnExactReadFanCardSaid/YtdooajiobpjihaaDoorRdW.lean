/- Contracts of the readings of surveys and doors, both sides. -/
import Derived.Test.YtdooajiobpjihaaDoorRdL
import Derived.Test.YtdooajiobpjihaaDoorDrT
import Derived.BigRegion
namespace Go.Proofs.YtdooajiobpjihaaDoor
set_option linter.unusedVariables false
set_option linter.unusedSimpArgs false
open Go.RowKit
theorem name_no {s : ByteArray} (h : isName s = true) {c : UInt8} (hc : nameB c = false) : c ∉ s.data.toList := fun hm => by
  obtain ⟨k, hk⟩ := List.mem_iff_getElem?.1 hm
  have hlt : k < s.size := by
    have := (List.getElem?_eq_some_iff.1 hk).1
    rwa [blen] at this
  rw [byte_mem hlt] at hk
  unfold isName at h
  simp only [Bool.and_eq_true] at h
  have h1 : nameB s[k]! = true := allUpto_get h.2 hlt
  rw [byte_at hlt, Option.some.inj hk, hc] at h1
  cases h1
theorem cut_len (l : List UInt8) (c : UInt8) : (Lib.cut l [c]).2.1.length ≤ l.length ∧ (Lib.cut l [c]).1.length ≤ l.length := by
  unfold Lib.cut
  split
  · constructor
    · simp only [List.length_drop]; omega
    · simp only [List.length_take]; omega
  · simp
theorem Cut_any (s : ByteArray) (c : UInt8) (w : World) (hs : s.size ≤ 1048576) (ht : Lib3 w) :
    Calls Tryd.prog 53 #[.string s, .string ⟨#[c]⟩] w fun e w' => ∃ b, e = .returned (.tuple #[.string ⟨(Lib.cut s.data.toList [c]).1.toArray⟩, .string ⟨(Lib.cut s.data.toList [c]).2.1.toArray⟩, .bool b]) ∧ ∃ n, w' = w.drewN n := by
  obtain ⟨m, hm⟩ := ht.ml
  exact (Tryd.strings_Cut s ⟨#[c]⟩ m w (by omega) hm).mono fun e w' ⟨he, hn⟩ => ⟨_, he, hn⟩
set_option maxHeartbeats 800000 in
theorem readWithId_no (s : ByteArray) (m : Nat) (mi : Int) (hmi : (m : Int) = mi) (w : World) (hs : s.size ≤ 1048576) (ht : Lib3 w) (hm : 1 ≤ m ∧ m ≤ 64) (h : ∀ xs, rdL (Lib.cut s.data.toList [32]).2.1 = some xs → xs.length ≠ m) :
    Calls Tryd.prog 35 #[.string s, .int .i64 mi] w fun e w' => ∃ (g c : Nat), e = .returned (.tuple #[.string ⟨#[]⟩, .slice (some ⟨g, 0, none⟩) m c, .bool false]) ∧ (∀ j u, (ints (List.replicate m 0))[j]? = some u → w'.cell? ⟨g, j, none⟩ = some u) ∧ g < w'.heap.size ∧ Below w.heap.size w w' := by
  subst hmi
  have HC := Lib.hid (Cut_any s 32 w hs ht)
  have hl := (cut_len s.data.toList 32).1
  have cL := fun (n : Nat) => implReadList_any ⟨(Lib.cut s.data.toList [32]).2.1.toArray⟩ (w.drewN n) (by rw [mk_size]; rw [blen] at hl; omega) (lib3_below ht (below_drewN (Below.refl _ _) n))
  simp only [mk_list] at cL
  have HL := Lib.hid cL
  obtain ⟨i0, hi0, hz0, hz1, hz2⟩ := info_parts info_Int64S
  have hmk := fun W => run_make_rowN (P := Tryd.prog) 57 2 i0 _ Tryd.underlying57 hi0 hz0 .i64 .i64 m m (Nat.le_refl _) (by rw [hz2]; omega) (by omega) W
  rw [hz1] at hmk
  have HB : Hid ((rdL (Lib.cut s.data.toList [32]).2.1 = none ∧ lsB (Lib.cut s.data.toList [32]).2.1 = false) ∨ (lsB (Lib.cut s.data.toList [32]).2.1 = true ∧ (lsV (Lib.cut s.data.toList [32]).2.1).length ≠ m)) := by
    show _ ∨ _
    rcases hr : rdL (Lib.cut s.data.toList [32]).2.1 with _ | xs
    · exact .inl ⟨rfl, lsB_n hr⟩
    · exact .inr ⟨lsB_y hr, by rw [lsV_y hr]; exact h xs hr⟩
  have HZ : Hid (∀ W : World, ∀ j u, (ints (List.replicate m 0))[j]? = some u → (W.alloc (.cells (madeCells #[Value.int .i64 0] m) 2)).cell? ⟨W.heap.size, j, none⟩ = some u) := fun W j u hu => by
    rw [(Blk.new W 2 (madeCells #[Value.int .i64 0] m)).cell j]
    have hj : j < m := by
      rcases Nat.lt_or_ge j m with h | h
      · exact h
      · rw [List.getElem?_eq_none (by simp [ints]; omega)] at hu; cases hu
    rw [← hu]
    simp [madeCells, ints, hj, Nat.mod_one, List.getElem?_replicate]
  clear cL ht h hl
  generalize (⟨(Lib.cut s.data.toList [32]).2.1.toArray⟩ : ByteArray) = rest at *
  generalize (⟨(Lib.cut s.data.toList [32]).1.toArray⟩ : ByteArray) = head at *
  generalize (Lib.cut s.data.toList [32]).2.1 = rl at *
  go_enter Tryd.func35, Tryd.ntmps35
  go_wp2_with fail; ((with_reducible refine HC.out.mono ?_); rintro e w2 ⟨b, rfl, n, rfl⟩)
  go_wp2_with fail; ((with_reducible refine (HL.out n).mono ?_); rintro e w3 ⟨A, n3, c3, rfl, ho3, hn3, hb3⟩)
  have hb3' : Below w.heap.size w w3 := (below_drewN (Below.refl _ _) n).trans (hb3.mono (by simp))
  have hlen : (lsV rl).length = n3 := ints_len (Reads.of_own ho3)
  rcases HB.out with ⟨_, hk⟩ | ⟨hk, hne⟩
  · rw [hk]
    clear hk ho3 hlen HB HL
    go_wp2
    go_region
    all_goals
      go_wp2
      refine bodyPost_ret (v := .tuple #[.string ⟨#[]⟩, .slice (some ⟨w3.heap.size, 0, none⟩) m m, .bool false]) (by simp [results, Tryd.results35, go_sem]) rfl ⟨_, m, rfl, fun j u hu => ?_, by simp, ?_⟩
      · have h := HZ.out w3 j u hu
        simpa using h
      · exact (hb3'.drew).alloc (by simpa using hb3'.size) _
  · have hd : ((n3 : Int) != (m : Int)) = true := by rw [bne_iff_ne]; omega
    rw [hk]
    clear hk ho3 hlen hne HB HL
    go_wp2
    go_region
    all_goals
      go_wp2
      refine bodyPost_ret (v := .tuple #[.string ⟨#[]⟩, .slice (some ⟨w3.heap.size, 0, none⟩) m m, .bool false]) (by simp [results, Tryd.results35, go_sem]) rfl ⟨_, m, rfl, fun j u hu => ?_, by simp, ?_⟩
      · have h := HZ.out w3 j u hu
        simpa using h
      · exact (hb3'.drew).alloc (by simpa using hb3'.size) _
set_option maxHeartbeats 800000 in
theorem readWithId_yes (s : ByteArray) (m : Nat) (mi : Int) (hmi : (m : Int) = mi) (w : World) (hs : s.size ≤ 1048576) (ht : Lib3 w) (hm : 1 ≤ m ∧ m ≤ 64) (xs : List Int) (h : rdL (Lib.cut s.data.toList [32]).2.1 = some xs) (hx : xs.length = m) :
    Calls Tryd.prog 35 #[.string s, .int .i64 mi] w fun e w' => ∃ (g c : Nat), e = .returned (.tuple #[.string ⟨(Lib.cut s.data.toList [32]).1.toArray⟩, .slice (some ⟨g, 0, none⟩) m c, .bool true]) ∧ (∀ j u, (ints xs)[j]? = some u → w'.cell? ⟨g, j, none⟩ = some u) ∧ g < w'.heap.size ∧ Below w.heap.size w w' := by
  subst hmi
  have HC := Lib.hid (Cut_any s 32 w hs ht)
  have hl := (cut_len s.data.toList 32).1
  have cL := fun (n : Nat) => implReadList_any ⟨(Lib.cut s.data.toList [32]).2.1.toArray⟩ (w.drewN n) (by rw [mk_size]; rw [blen] at hl; omega) (lib3_below ht (below_drewN (Below.refl _ _) n))
  simp only [mk_list, lsB_y h, lsV_y h] at cL
  have HL := Lib.hid cL
  clear cL ht hl
  generalize (⟨(Lib.cut s.data.toList [32]).2.1.toArray⟩ : ByteArray) = rest at *
  generalize (⟨(Lib.cut s.data.toList [32]).1.toArray⟩ : ByteArray) = head at *
  go_enter Tryd.func35, Tryd.ntmps35
  go_wp2_with fail; ((with_reducible refine HC.out.mono ?_); rintro e w2 ⟨b, rfl, n, rfl⟩)
  go_wp2_with fail; ((with_reducible refine (HL.out n).mono ?_); rintro e w3 ⟨A, n3, c3, rfl, ho3, hn3, hb3⟩)
  have hb3' : Below w.heap.size w w3 := (below_drewN (Below.refl _ _) n).trans (hb3.mono (by simp))
  obtain rfl : n3 = m := by have h1 := ints_len (Reads.of_own ho3); omega
  obtain ⟨gb, rfl, hgb, hcb, hcells⟩ := own_addr ho3 (by omega)
  have HR := Lib.hid hcells
  clear ho3 hx hcells
  go_wp2
  refine bodyPost_ret (v := .tuple #[.string head, .slice (some ⟨gb, 0, none⟩) n3 c3, .bool true]) (by simp [results, Tryd.results35, go_sem]) rfl ⟨_, _, rfl, HR.out, hgb, hb3'⟩
end Go.Proofs.YtdooajiobpjihaaDoor
