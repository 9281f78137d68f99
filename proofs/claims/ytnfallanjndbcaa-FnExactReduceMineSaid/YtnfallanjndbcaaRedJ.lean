/- Contract of the step that joins two edges side by side, the program's side. -/
import Derived.Test.YtnfallanjndbcaaRedI
import Derived.Deep.RegionLaw
import Derived.Deep.RegionWith
import Derived.BigRegion
namespace Go.Proofs.Ytnfallanjndbcaa
set_option linter.unusedVariables false
set_option linter.unusedSimpArgs false
open Go.RowKit
def SidesRet (w : World) (g lo : Nat) (fr to : Int) (es : List Edg) (full : Bool) (e : Ending) (w' : World) : Prop :=
  (SdNo es ∧ e = .returned (.bool false) ∧ Below w.heap.size w w') ∨ (∃ i k A' n' c', SdAt es i k ∧ e = .returned (.bool true) ∧ RedS w' g lo fr to A' n' c' (sdE es i k) full ∧ Below g w w')
/-- No pair side by side ahead of the place (i, k). -/
def SdB (es : List Edg) (i k : Nat) : Prop := ∀ i' k', i' < k' → k' < es.length → (i' < i ∨ (i' = i ∧ k' < k)) → jnAt es i' k' = false
theorem sdB_next {es : List Edg} {i k : Nat} (h : SdB es i k) (h1 : jnAt es i k = false) : SdB es i (k + 1) := fun i' k' g1 g2 g3 => by
  rcases g3 with g | ⟨rfl, g⟩
  · exact h i' k' g1 g2 (.inl g)
  · rcases Nat.lt_succ_iff_lt_or_eq.1 g with g | rfl
    · exact h i' k' g1 g2 (.inr ⟨rfl, g⟩)
    · exact h1
theorem sdB_row {es : List Edg} {i k : Nat} (h : SdB es i k) (hk : es.length ≤ k) (m : Nat) (hm : m ≤ i + 1 + 1) : SdB es (i + 1) m := fun i' k' g1 g2 g3 => by
  rcases g3 with g | ⟨rfl, g⟩
  · rcases Nat.lt_succ_iff_lt_or_eq.1 g with g | rfl
    · exact h i' k' g1 g2 (.inl g)
    · exact h i' k' g1 g2 (.inr ⟨rfl, by omega⟩)
  · omega
theorem below_al {w3 w5 : World} {o : Obj} (h : Below ((w3.alloc o).drew).heap.size ((w3.alloc o).drew) w5) : Below w3.heap.size w3 w5 :=
  (below_drew ((Below.refl _ _).alloc (Nat.le_refl _) o)).trans (h.mono (by show w3.heap.size ≤ (w3.alloc o).heap.size; simp))
theorem reads_two {W : World} {g : Nat} {x y : Int} (h0 : W.cell? ⟨g, 0, none⟩ = some (.int .i64 x)) (h1 : W.cell? ⟨g, 1, none⟩ = some (.int .i64 y)) : Reads W W.heap.size 1 (some ⟨g, 0, none⟩) 2 (ints [x, y]) :=
  ⟨rfl, fun _ => ⟨⟨g, 0, none⟩, rfl, block_lt_of_cell h0, fun j u hu => by
    match j with
    | 0 => obtain rfl := Option.some.inj hu; exact h0
    | 1 => obtain rfl := Option.some.inj hu; exact h1
    | j + 2 => simp [ints] at hu⟩⟩
set_option maxHeartbeats 12800000 in
set_option maxRecDepth 100000 in
theorem joinSides_any (g lo : Nat) (fr to : Int) (A : Option Addr) (n c : Nat) (es : List Edg) (full : Bool) (w : World) (h : RedS w g lo fr to A n c es full) (hk : EsOk es) :
    Calls Try.prog 21 #[.pointer (some ⟨g, 0, none⟩)] w (SidesRet w g lo fr to es full) := by
  have HL := Lib.hid h.len
  have hn : n ≤ 24 := by have := hk.2; rw [h.len] at this; exact this
  have HS := Lib.hid h
  have HR := Lib.hid (Reads.of_own h.own)
  have HK := Lib.hid hk
  have g2 := h.blk.cell 2
  have hlt := h.blk.lt
  have hgl := h.lt
  clear h hk
  go_enter Try.func21, Try.ntmps21
  go_wp2
  go_loopw [12] (fun i wr => ∃ (k : Nat), k ≤ n ∧ i = .int .i64 k ∧ Hid (SdB es k 0) ∧ Below w.heap.size w wr) (fun i _ => n - (intOf i).toNat)
  case atStart => exact ⟨0, by omega, rfl, (fun i' k' _ _ g => by omega), Below.refl _ _⟩
  case round =>
    obtain ⟨i, hi, rfl, HSB, hbr⟩ := hrel
    obtain ⟨wo, rfl⟩ : ∃ wo : World, wo = wr := ⟨_, rfl⟩
    have hzo := hbr.size
    by_cases hli : i < n
    · obtain ⟨ge, rfl, hlo, hge, hne⟩ := HS.out.form (by omega)
      obtain ⟨x, HXx, hxm, e0, e1, e2⟩ := edge_cells (HS.out.below hbr).own hli
      have hiI : (i : Int) < (n : Int) := by omega
      have hxo := HK.out.1 x hxm
      have hwi : IntKind.i64.wrap ((i : Int) + 1) = (i : Int) + 1 := IntWalk.i64_in _ (by omega)
      have h2o : wo.cell? ⟨g, 2, none⟩ = some (.slice (some ⟨ge, 0, none⟩) n c) := ((HS.out.below hbr).blk.cell 2).trans rfl
      have HXB := Lib.hid (Blk.new wo 57 #[.int .i64 x.a, .int .i64 x.b, .int .i64 x.r])
      have HB1 : Hid (Below w.heap.size w (wo.alloc (.cells #[.int .i64 x.a, .int .i64 x.b, .int .i64 x.r] 57))) := hbr.alloc hzo _
      clear hxm
      go_wp2
      go_loopw [5] (fun q wr => ∃ (k : Nat), i + 1 ≤ k ∧ k ≤ n ∧ q = .int .i64 k ∧ Hid (SdB es i k) ∧ Below (wo.heap.size + 1) (wo.alloc (.cells #[.int .i64 x.a, .int .i64 x.b, .int .i64 x.r] 57)) wr) (fun q _ => n - (intOf q).toNat)
      case atStart => exact ⟨i + 1, by omega, by omega, by go_num, (fun i' k' g1 g2 g3 => by
        rcases g3 with g | ⟨rfl, g⟩
        · exact HSB.out i' k' g1 g2 (.inl g)
        · omega), Below.refl _ _⟩
      case round =>
        obtain ⟨k, hk1, hk2, rfl, HSK, hbk⟩ := hrel
        obtain ⟨wp, rfl⟩ : ∃ wp : World, wp = wr := ⟨_, rfl⟩
        have hzp := hbk.size
        simp at hzp
        have hbw : Below w.heap.size w wp := HB1.out.trans (hbk.mono (by omega))
        have HSp := Lib.hid (HS.out.below hbw)
        have HXp := Lib.hid (HXB.out.below hbk (by omega))
        have p2 : wp.cell? ⟨g, 2, none⟩ = some (.slice (some ⟨ge, 0, none⟩) n c) := (HSp.out.blk.cell 2).trans rfl
        have x0 : wp.cell? ⟨wo.heap.size, 0, none⟩ = some (.int .i64 x.a) := (HXp.out.cell 0).trans rfl
        have x1 : wp.cell? ⟨wo.heap.size, 1, none⟩ = some (.int .i64 x.b) := (HXp.out.cell 1).trans rfl
        have x2 : wp.cell? ⟨wo.heap.size, 2, none⟩ = some (.int .i64 x.r) := (HXp.out.cell 2).trans rfl
        by_cases hlk : k < n
        · obtain ⟨y, HYy, hym, y0, y1, y2⟩ := edge_cells HSp.out.own hlk
          have hkI : (k : Int) < (n : Int) := by omega
          have hyo := HK.out.1 y hym
          have HJ := joins_any y x.a x.b (wp.alloc (.cells #[.int .i64 y.a, .int .i64 y.b, .int .i64 y.r] 57))
          have HJV : Hid (jn y ⟨x.a, x.b, 0⟩ = jnAt es i k) := show _ = _ by unfold jnAt; rw [HXx.out, HYy.out, jn_comm x y]; rfl
          rw [HJV.out] at HJ
          have v0 : (wp.alloc (.cells #[.int .i64 y.a, .int .i64 y.b, .int .i64 y.r] 57)).cell? ⟨wo.heap.size, 0, none⟩ = some (.int .i64 x.a) := ((HXp.out.alloc _).cell 0).trans rfl
          have v1 : (wp.alloc (.cells #[.int .i64 y.a, .int .i64 y.b, .int .i64 y.r] 57)).cell? ⟨wo.heap.size, 1, none⟩ = some (.int .i64 x.b) := ((HXp.out.alloc _).cell 1).trans rfl
          have hwk : IntKind.i64.wrap ((k : Int) + 1) = (k : Int) + 1 := IntWalk.i64_in _ (by omega)
          clear hym
          cases hjn : jnAt es i k
          · rw [hjn] at HJ
            have HJC := Lib.hid HJ
            have HN := Lib.hid (sdB_next HSK.out hjn)
            clear HJ hjn
            go_wp2_with fail; ((with_reducible refine HJC.out.mono ?_); rintro e w3 ⟨rfl, hb3⟩)
            go_wp2
            go_roundw
            case rel => exact ⟨k + 1, by omega, by omega, by go_num, HN.out, (hbk.alloc (by omega) _).trans (hb3.mono (by simp; omega))⟩
            case measure => simp [intOf]; omega
          · rw [hjn] at HJ
            have HJC := Lib.hid HJ
            have HAT : Hid (SdAt es i k) := ⟨by omega, by rw [HL.out]; exact hlk, hjn, HSK.out⟩
            clear HJ hjn
            go_wp2_with fail; ((with_reducible refine HJC.out.mono ?_); rintro e w3 ⟨rfl, hb3⟩)
            have hb3w := hbw.trans ((((Below.refl wp.heap.size wp).alloc (Nat.le_refl _) _).trans (hb3.mono (by simp))).mono hbw.size)
            have HS3 := Lib.hid (HS.out.below hb3w)
            have hX3 := (HXp.out.alloc _).below hb3 (by simp; omega)
            have hY3 := (Blk.new wp 57 #[.int .i64 y.a, .int .i64 y.b, .int .i64 y.r]).below hb3 (by simp)
            have c2 : w3.cell? ⟨g, 2, none⟩ = some (.slice (some ⟨ge, 0, none⟩) n c) := (HS3.out.blk.cell 2).trans rfl
            have a2 : w3.cell? ⟨wo.heap.size, 2, none⟩ = some (.int .i64 x.r) := (hX3.cell 2).trans rfl
            have b2 : w3.cell? ⟨wp.heap.size, 2, none⟩ = some (.int .i64 y.r) := (hY3.cell 2).trans rfl
            obtain ⟨x3, hx3, hm3, q30, q31, q3⟩ := edge_cells HS3.out.own hli
            obtain ⟨cur3, hG3, hrest3⟩ := own_open HS3.out.own
            have q3f := hG3.frozen (i * 3 + 2)
            have HQ := Lib.hid q3
            have HQf := Lib.hid q3f
            have HP : Hid (∀ (W : World) (b : Nat), W.cell? ⟨b, 0, none⟩ = some (.int .i64 x.r) → W.cell? ⟨b, 1, none⟩ = some (.int .i64 y.r) → Calls Try.prog 41 #[.slice (some ⟨b, 0, none⟩) 2 2] W fun e w' => e = .returned (.int .i64 (par [x.r, y.r])) ∧ Below W.heap.size W w') := fun W b h0 h1 =>
              parallel_any (some ⟨b, 0, none⟩) 2 2 [x.r, y.r] W (reads_two h0 h1) (by omega) (by omega) (fun z hz => by
                rcases List.mem_cons.1 hz with rfl | hz
                · exact decide_eq_true hxo.2.2
                · rw [List.mem_singleton] at hz; subst hz; exact decide_eq_true hyo.2.2)
            have HB3 := Lib.hid hb3w
            have hz3 := hb3w.size
            have HV : Hid (par [(es.getD i default).r, (es.getD k default).r] = par [x.r, y.r]) := show _ = _ by rw [HXx.out, HYy.out]
            generalize par [x.r, y.r] = v at *
            clear hb3w hX3 hY3 hG3 hrest3 q3 q3f q30 q31 hx3 hm3 hb3 v0 v1 x0 x1 x2 p2 y0 y1 y2 e0 e1 e2 h2o HJC
            have cn : (w3.alloc (.cells #[.int .i64 x.r, .int .i64 y.r] 2)).cell? ⟨g, 2, none⟩ = some (.slice (some ⟨ge, 0, none⟩) n c) := (World.cell?_alloc_lt _ _ _ (block_lt_of_cell c2)).trans c2
            go_wp2
            go_region_law
              (go_simp; go_at_call 41; with_reducible refine (HP.out _ _ (by go_simp) (by go_simp)).mono ?_; rintro e w5 ⟨rfl, hb5⟩; have HB5 := Lib.hid (below_al hb5); have r5 := (HB5.out.cell (block_lt_of_cell HQ.out)).trans HQ.out; have f5 := (HB5.out.frozen (block_lt_of_cell HQ.out)).trans HQf.out; have s5 := (HB5.out.cell (block_lt_of_cell c2)).trans c2; clear hb5)
            all_goals
              have hgz : g ≤ w.heap.size := by omega
              have hS5 := HS3.out.below HB5.out
              have hS6 : RedS (w5.setCell ⟨ge, i * 3 + 2, none⟩ (.int .i64 v)) g lo fr to (some ⟨ge, 0, none⟩) n c (es.set i { es.getD i default with r := v }) full := ⟨hS5.blk.far (p := ⟨ge, i * 3 + 2, none⟩) hne _, own_edit1 hS5.own hli v, hS5.lt⟩
              have hB6 : Below g w (w5.setCell ⟨ge, i * 3 + 2, none⟩ (.int .i64 v)) := ((HB3.out.trans (HB5.out.mono hz3)).mono hgz).setCell (p := ⟨ge, i * 3 + 2, none⟩) (by show g ≤ ge; omega) _
              clear hS5 r5 f5 s5 cn
              generalize w5.setCell ⟨ge, i * 3 + 2, none⟩ (.int .i64 v) = w6 at *
              have HS6 := Lib.hid hS6
              have HB6 := Lib.hid hB6
              have c6 : w6.cell? ⟨g, 2, none⟩ = some (.slice (some ⟨ge, 0, none⟩) n c) := (hS6.blk.cell 2).trans rfl
              have HD := Lib.hid (delete_any lo ge n c k _ w6 hS6.own hlk (by omega))
              clear hS6 hB6 HB5 HB3 c2 a2 b2 HQ HQf HP
              go_wp2_with fail; ((with_reducible refine HD.out.mono ?_); rintro e w7 ⟨rfl, ho7, hg7⟩)
              have HO7 := Lib.hid ho7
              have HG7 := Lib.hid hg7
              have K7 := HS6.out.blk.grown hg7 (fun e => by injection e with e; omega)
              have k2 := K7.cell 2
              have f2 := K7.frozen 2
              clear ho7 hg7 K7
              go_wp2
              go_ret
              have hq : Below g w w7 := HB6.out.grown HG7.out (Nat.le_trans hgz (by have := HB6.out.size; omega)) (fun r e => by injection e with e; omega)
              refine .inr ⟨i, k, some ⟨ge, 0, none⟩, n - 1, c, HAT.out, rfl, ?_, hq.setCell (p := ⟨g, 2, none⟩) (Nat.le_refl g) _⟩
              have ht := RedS.turn HS6.out hlo HG7.out HO7.out
              rw [← HV.out] at ht
              exact ht
        · have HN := Lib.hid (sdB_row HSK.out (by rw [HL.out]; omega) 0 (by omega))
          go_wp2
          go_roundw
          case rel => exact ⟨i + 1, by omega, by go_num, HN.out, hbw⟩
          case measure => simp [intOf]; omega
    · have e : i = n := by omega
      have HNO : Hid (SdNo es) := fun i' k' g1 g2 => HSB.out i' k' g1 g2 (.inl (by rw [HL.out] at g2; omega))
      go_wp2
      go_ret
      exact .inl ⟨HNO.out, rfl, hbr⟩
end Go.Proofs.Ytnfallanjndbcaa
