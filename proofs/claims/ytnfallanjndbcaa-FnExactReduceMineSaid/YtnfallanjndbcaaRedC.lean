/- Contracts of the reduction's small functions: the edges at a junction, what carries nothing, the first place at which a test holds. -/
import Derived.Test.YtnfallanjndbcaaRed
import Derived.Test.YtnfallanjndbcaaRAwy
import Derived.Test.YtnfallanjndbcaaOwn
namespace Go.Proofs.Ytnfallanjndbcaa
set_option linter.unusedVariables false
set_option linter.unusedSimpArgs false
open Go.RowKit
def Edg.cells (x : Edg) : List Value := [.int .i64 x.a, .int .i64 x.b, .int .i64 x.r]
theorem Edg.clen (x : Edg) : x.cells.length = 3 := rfl
theorem Edg.one (x : Edg) : ∀ u ∈ x.cells, u.oneCell' = true := by
  intro u hu
  simp only [Edg.cells, List.mem_cons, List.not_mem_nil, or_false] at hu
  rcases hu with rfl | rfl | rfl <;> rfl
abbrev Edg.recs (xs : List Edg) : List Value := Go.Proofs.Ytnfallanjndbcaa.recs Edg.cells xs
theorem Edg.open_ {w : World} {p : Addr} {x : Edg} (h : Cells w p x.cells) : w.cell? p = some (.int .i64 x.a) ∧ w.cell? ⟨p.block, p.off + 1, none⟩ = some (.int .i64 x.b) ∧ w.cell? ⟨p.block, p.off + 2, none⟩ = some (.int .i64 x.r) :=
  ⟨h.z rfl, h.at_ 0 rfl, h.at_ 1 rfl⟩
theorem jn_comm (x y : Edg) : jn x y = jn y x := by
  unfold jn
  rw [Bool.eq_iff_iff]
  simp only [Bool.or_eq_true, Bool.and_eq_true, beq_iff_eq]
  constructor
  · rintro (⟨h1, h2⟩ | ⟨h1, h2⟩)
    · exact .inl ⟨h1.symm, h2.symm⟩
    · exact .inr ⟨h2.symm, h1.symm⟩
  · rintro (⟨h1, h2⟩ | ⟨h1, h2⟩)
    · exact .inl ⟨h1.symm, h2.symm⟩
    · exact .inr ⟨h2.symm, h1.symm⟩
/-- Places as numbers of the program. -/
def natsV (xs : List Nat) : List Int := List.map (fun n : Nat => (n : Int)) xs
def edTo (es : List Edg) (j : Int) (k : Nat) : List Nat := (List.range k).filter fun i => (es.getD i default).has j
theorem edTo_s (es : List Edg) (j : Int) (k : Nat) : edTo es j (k + 1) = edTo es j k ++ (if (es.getD k default).has j = true then [k] else []) := by
  unfold edTo
  rw [List.range_succ, List.filter_append]
  congr 1
  cases h : (es.getD k default).has j <;> simp only [List.filter_cons, List.filter_nil, h] <;> rfl
theorem getD_of {es : List Edg} {k : Nat} {x : Edg} (h : es[k]? = some x) : es.getD k default = x := by rw [List.getD_eq_getElem?_getD, h]; rfl
theorem ints_snoc_nat (xs : List Nat) (k : Nat) : ints (natsV xs) ++ [.int .i64 (k : Int)] = ints (natsV (xs ++ [k])) := by unfold natsV ints; simp
set_option maxHeartbeats 1600000 in
theorem joins_any (x : Edg) (c d : Int) (w : World) :
    Calls Try.prog 23 #[.agg #[.int .i64 x.a, .int .i64 x.b, .int .i64 x.r], .int .i64 c, .int .i64 d] w fun e w' => e = .returned (.bool (jn x ⟨c, d, 0⟩)) ∧ Below w.heap.size w w' := by
  obtain ⟨a, b, r⟩ := x
  have HJ : Hid (jn ⟨a, b, r⟩ ⟨c, d, 0⟩ = ((a == c && b == d) || (a == d && b == c))) := rfl
  cases h1 : (a == c) <;> cases h2 : (b == d) <;> cases h3 : (a == d) <;> cases h4 : (b == c)
  all_goals
    have HR := HJ
    rw [h1, h2, h3, h4] at HR
    go_enter Try.func23, Try.ntmps23
    go_wp2
    go_ret
    exact ⟨ret_bool (by rw [HR.out]; rfl), (Below.refl _ _).alloc (Nat.le_refl _) _⟩
theorem info_int : (Try.prog.info? 3).map (fun i => (i.zero, i.size, i.bytes)) = some (some (.int .i64 0), 1, 8) := by kernel_rfl
set_option maxHeartbeats 3200000 in
set_option maxRecDepth 100000 in
theorem at_any (g : Nat) (j : Int) (A : Option Addr) (n c : Nat) (es : List Edg) (w : World) (h2 : w.cell? ⟨g, 2, none⟩ = some (.slice A n c)) (hr : Reads w w.heap.size 3 A n (Edg.recs es)) (hn : n ≤ 1000) :
    Calls Try.prog 42 #[.pointer (some ⟨g, 0, none⟩), .int .i64 j] w fun e w' => ∃ (A' : Option Addr) (N' c' : Nat), e = .returned (.slice A' N' c') ∧ w'.ownsRow w.heap.size 3 1 (.slice A' N' c') N' (ints (natsV (edI es j))) ∧ Below w.heap.size w w' := by
  obtain ⟨i0, hi0, hz0, hz1, hz2⟩ := info_parts info_int
  have HL := Lib.hid (recs_rlen Edg.clen (by omega) hr)
  have HI : Hid (edI es j = edTo es j n) := show _ = _ by unfold edI edTo; rw [HL.out]
  go_enter Try.func42, Try.ntmps42
  go_wp2
  go_loopw [5, 13] (fun o i wr => ∃ (k N' : Nat) (A' : Option Addr) (c' : Nat), k ≤ n ∧ N' ≤ k ∧ o = .slice A' N' c' ∧ i = .int .i64 k ∧ Hid (wr.ownsRow w.heap.size 3 1 (.slice A' N' c') N' (ints (natsV (edTo es j k)))) ∧ Below w.heap.size w wr) (fun _ i _ => n - (intOf i).toNat)
  case atStart => exact ⟨0, 0, none, 0, by omega, by omega, rfl, rfl, show World.ownsRow _ _ _ _ _ _ _ from own_nil _ _ _ _, Below.refl _ _⟩
  case round =>
    obtain ⟨k, N', A', c', hk, hN, rfl, rfl, HO, hbr⟩ := hrel
    obtain ⟨wo, rfl⟩ : ∃ wo : World, wo = wr := ⟨_, rfl⟩
    have hzr := hbr.size
    by_cases hlt : k < n
    · obtain ⟨ad, x, rfl, had, hx, hc⟩ := (hr.below hbr).rec_at Edg.clen (by omega) hlt
      obtain ⟨e0, e1, e2⟩ := Edg.open_ hc
      have HS := Lib.hid (edTo_s es j k)
      have HX := Lib.hid (getD_of hx)
      have hkI : (k : Int) < (n : Int) := by omega
      clear hx hc
      cases h3 : (x.a == j) <;> cases h4 : (x.b == j)
      · have HT : Hid (edTo es j (k + 1) = edTo es j k) := show _ = _ by rw [HS.out, HX.out]; simp [Edg.has, h3, h4]
        go_wp2
        go_roundw
        case rel => exact ⟨k + 1, N', A', c', by omega, by omega, rfl, by go_num, by rw [HT.out]; exact own_below HO.out ((Below.refl _ _).alloc (Nat.le_refl _) _), hbr.alloc hbr.size _⟩
        case measure => simp [intOf]; omega
      all_goals
        have HT : Hid (edTo es j (k + 1) = edTo es j k ++ [k]) := show _ = _ by rw [HS.out, HX.out]; simp [Edg.has, h3, h4]
        go_wp2_with (at_builtin; refine wpList_app _ rfl _ _ 76 rfl w.heap.size 3 i0 _ 1 8 Try.underlying76 hi0 hz0 hz1 hz2 rfl (by omega) A' N' c' _ rfl ((HO.out.alloc _).alloc _) ⟨wo.heap.size + 1, 0, none⟩ 1 1 [.int .i64 (k : Int)] rfl rfl (cell_one_at (by simp) _ _) (by simp [Value.oneCell']) (by unfold maxLen; omega) (by omega) (by simp; omega) ?_; intro A3 c3 w3 ho3 hb3)
        go_roundw
        case rel => exact ⟨k + 1, N' + 1, A3, c3, by omega, by omega, rfl, by go_num, by rw [HT.out, ← ints_snoc_nat]; exact ho3, ((hbr.alloc hbr.size _).alloc (by simp; omega) _).trans hb3⟩
        case measure => simp [intOf]; omega
    · have e : k = n := by omega
      subst e
      rw [← HI.out] at HO
      go_wp2
      go_ret
      exact ⟨A', N', c', rfl, HO.out, hbr⟩
set_option maxHeartbeats 1600000 in
theorem isDead_any (g : Nat) (fr to j : Int) (A : Option Addr) (n c : Nat) (es : List Edg) (w : World) (h0 : w.cell? ⟨g, 0, none⟩ = some (.int .i64 fr)) (h1 : w.cell? ⟨g, 1, none⟩ = some (.int .i64 to)) (h2 : w.cell? ⟨g, 2, none⟩ = some (.slice A n c)) (hr : Reads w w.heap.size 3 A n (Edg.recs es)) (hn : n ≤ 1000) :
    Calls Try.prog 39 #[.pointer (some ⟨g, 0, none⟩), .int .i64 j] w fun e w' => e = .returned (.bool (ddJ fr to es j)) ∧ Below w.heap.size w w' := by
  have HC := Lib.hid (at_any g j A n c es w h2 hr hn)
  have HD : Hid (ddJ fr to es j = (j != fr && j != to && (edI es j).length == 1)) := rfl
  cases k1 : (j != fr)
  · go_enter Try.func39, Try.ntmps39
    go_wp2
    go_ret
    exact ⟨ret_bool (by rw [HD.out, k1]; rfl), Below.refl _ _⟩
  · cases k2 : (j != to)
    · go_enter Try.func39, Try.ntmps39
      go_wp2
      go_ret
      exact ⟨ret_bool (by rw [HD.out, k1, k2]; rfl), Below.refl _ _⟩
    · go_enter Try.func39, Try.ntmps39
      go_wp2_with fail; ((with_reducible refine HC.out.mono ?_); rintro e w1 ⟨A', N', c', rfl, ho, hb1⟩)
      have hl : Hid ((edI es j).length = N') := show _ = _ by have h := ints_len (Reads.of_own ho); unfold natsV at h; rwa [List.length_map] at h
      clear ho
      cases k3 : ((N' : Int) == 1)
      all_goals
        have HV := HD
        rw [k1, k2, hl.out] at HV
        go_wp2
        go_ret
        exact ⟨ret_bool (by rw [HV.out]; simp at k3 ⊢; omega), hb1⟩
set_option maxHeartbeats 1600000 in
theorem deadClosure_any (b g : Nat) (fr to : Int) (A : Option Addr) (n c : Nat) (es : List Edg) (x : Edg) (w : World) (hb : w.cell? ⟨b, 0, none⟩ = some (.pointer (some ⟨g, 0, none⟩))) (h0 : w.cell? ⟨g, 0, none⟩ = some (.int .i64 fr)) (h1 : w.cell? ⟨g, 1, none⟩ = some (.int .i64 to)) (h2 : w.cell? ⟨g, 2, none⟩ = some (.slice A n c)) (hr : Reads w w.heap.size 3 A n (Edg.recs es)) (hn : n ≤ 1000) :
    Calls Try.prog 38 #[.agg #[.int .i64 x.a, .int .i64 x.b, .int .i64 x.r], .pointer (some ⟨b, 0, none⟩)] w fun e w' => e = .returned (.bool (deadP fr to es x)) ∧ Below w.heap.size w w' := by
  obtain ⟨xa, xb, xr⟩ := x
  have HA : Hid (∀ (W : World) (j : Int), Below w.heap.size w W → Calls Try.prog 39 #[.pointer (some ⟨g, 0, none⟩), .int .i64 j] W fun e w' => e = .returned (.bool (ddJ fr to es j)) ∧ Below W.heap.size W w') := fun W j hW =>
    isDead_any g fr to j A n c es W ((hW.cell (block_lt_of_cell h0)).trans h0) ((hW.cell (block_lt_of_cell h1)).trans h1) ((hW.cell (block_lt_of_cell h2)).trans h2) ((hr.below hW).more hW.size) hn
  have HD : Hid (deadP fr to es ⟨xa, xb, xr⟩ = (xa == xb || ddJ fr to es xa || ddJ fr to es xb)) := rfl
  have hlb := block_lt_of_cell hb
  clear h0 h1 h2 hr
  have hbx : Below w.heap.size w (w.alloc (.cells #[.int .i64 xa, .int .i64 xb, .int .i64 xr] 57)) := (Below.refl _ _).alloc (Nat.le_refl _) _
  cases k1 : (xa == xb)
  · have HCA := Lib.hid (HA.out _ xa hbx)
    cases k2 : ddJ fr to es xa
    · rw [k2] at HCA
      have HV := HD
      rw [k1, k2] at HV
      go_enter Try.func38, Try.ntmps38
      go_wp2_with fail; ((with_reducible refine HCA.out.mono ?_); rintro e w1 ⟨rfl, hb1⟩)
      have hbb := hbx.trans (hb1.mono (by simp))
      have g0 := (hbb.cell hlb).trans hb
      have HK := Lib.hid ((Blk.new w 57 #[.int .i64 xa, .int .i64 xb, .int .i64 xr]).below hb1 (by simp))
      have g1 := HK.out.cell 1
      have HCB := Lib.hid (HA.out w1 xb hbb)
      go_wp2_with fail; ((with_reducible refine HCB.out.mono ?_); rintro e w2 ⟨rfl, hb2⟩)
      go_wp2
      go_ret
      exact ⟨ret_bool (by rw [HV.out]; rfl), hbb.trans (hb2.mono hbb.size)⟩
    · rw [k2] at HCA
      have HV := HD
      rw [k1, k2] at HV
      go_enter Try.func38, Try.ntmps38
      go_wp2_with fail; ((with_reducible refine HCA.out.mono ?_); rintro e w1 ⟨rfl, hb1⟩)
      go_wp2
      go_ret
      exact ⟨ret_bool (by rw [HV.out]; rfl), hbx.trans (hb1.mono (by simp))⟩
  · have HV := HD
    rw [k1] at HV
    go_enter Try.func38, Try.ntmps38
    go_wp2
    go_ret
    exact ⟨ret_bool (by rw [HV.out]; rfl), hbx⟩
set_option maxHeartbeats 1600000 in
theorem indexE_any (A : Option Addr) (n c : Nat) (xs : List Edg) (g : Nat) (cb : Array Value) (p : Edg → Bool) (w : World) (eg : ∀ args W, (callFunc g args).run Try.prog W = .ok (.enter g args) W)
    (hr : Reads w w.heap.size 3 A n (Edg.recs xs)) (hn : n ≤ 1000)
    (hf : ∀ (W : World) (x : Edg), Below w.heap.size w W → x ∈ xs → Calls Try.prog g (#[.agg #[.int .i64 x.a, .int .i64 x.b, .int .i64 x.r]] ++ cb) W fun e w' => e = .returned (.bool (p x)) ∧ Below W.heap.size W w') :
    Calls Try.prog 37 #[.slice A n c, .func (.func g) #[] cb] w fun e w' => e = .returned (.int .i64 (idxI p xs)) ∧ Below w.heap.size w w' := by
  have HF := Lib.hid hf
  have HL := Lib.hid (recs_rlen Edg.clen (by omega) hr)
  clear hf
  go_enter Try.func37, Try.ntmps37
  go_wp2
  go_loopw [8] (fun i wr => ∃ k : Nat, k ≤ n ∧ i = .int .i64 k ∧ Hid ((xs.take k).any p = false) ∧ Below w.heap.size w wr) (fun i _ => n - (intOf i).toNat)
  case atStart => exact ⟨0, by omega, rfl, by simp [Hid], Below.refl _ _⟩
  case round =>
    obtain ⟨k, hk, rfl, HK, hbw⟩ := hrel
    by_cases hlt : k < n
    · obtain ⟨ad, x, rfl, had, hx, hc⟩ := (hr.below hbw).rec_at Edg.clen (by omega) hlt
      obtain ⟨e0, e1, e2⟩ := Edg.open_ hc
      have hcall := HF.out wr x hbw (List.mem_of_getElem? hx)
      have HX := Lib.hid hx
      have hkI : (k : Int) < (n : Int) := by omega
      clear hc hx
      cases hp : p x <;> rw [hp] at hcall
      · have HP := Lib.hid hp
        clear hp
        go_wp2_with (go_at_fn g; refine hcall.mono ?_; rintro e w' ⟨rfl, hb1⟩)
        go_roundw
        case rel => exact ⟨k + 1, by omega, by go_num, any_take HX.out HK.out HP.out, hbw.trans (hb1.mono hbw.size)⟩
        case measure => simp [intOf]; omega
      · have HP := Lib.hid hp
        clear hp
        go_wp2_with (go_at_fn g; refine hcall.mono ?_; rintro e w' ⟨rfl, hb1⟩)
        go_ret
        exact ⟨ret_int (idx_at HX.out HP.out HK.out).symm, hbw.trans (hb1.mono hbw.size)⟩
    · have e : k = n := by omega
      subst e
      go_wp2
      go_ret
      have hall : xs.any p = false := by have := HK.out; rwa [List.take_of_length_le (by rw [HL.out]; omega)] at this
      exact ⟨ret_int (idx_none hall).symm, hbw⟩
end Go.Proofs.Ytnfallanjndbcaa
