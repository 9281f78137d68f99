/- Contract of the step that joins the two edges at a junction, the program's side. -/
import Derived.Test.YtnfallanjndbcaaRedI
import Derived.Deep.RegionLaw
import Derived.Deep.RegionWith
import Derived.Deep.RegionHeld3
import Derived.Deep.DeepCutAuto
import Derived.BigRegion
namespace Go.Proofs.Ytnfallanjndbcaa
set_option linter.unusedVariables false
set_option linter.unusedSimpArgs false
open Go.RowKit
def EndsRet (w : World) (g lo : Nat) (fr te J : Int) (es : List Edg) (full : Bool) (e : Ending) (w' : World) : Prop :=
  (EnNo fr te J es ∧ e = .returned (.bool false) ∧ Below w.heap.size w w') ∨ (∃ j p q A' n' c', EnAt fr te J es j p q ∧ e = .returned (.bool true) ∧ RedS w' g lo fr te A' n' c' (enE es j p q) (decide (1000000 < enSum es p q)) ∧ Below g w w')
def EndCut (wl : World) (x y : Edg) (s7 s8 : Value) (wx : World) : Prop :=
  ∃ bx by', s7 = .pointer (some ⟨bx, 0, none⟩) ∧ s8 = .pointer (some ⟨by', 0, none⟩) ∧ wl.heap.size ≤ bx ∧ wl.heap.size ≤ by' ∧ Blk wx bx 57 #[.int .i64 x.a, .int .i64 x.b, .int .i64 x.r] ∧ Blk wx by' 57 #[.int .i64 y.a, .int .i64 y.b, .int .i64 y.r] ∧ Below wl.heap.size wl wx
theorem endCut_xy (wl : World) (x y : Edg) : EndCut wl x y (.pointer (some ⟨wl.heap.size, 0, none⟩)) (.pointer (some ⟨wl.heap.size + 1, 0, none⟩)) (((wl.alloc (.cells #[.int .i64 x.a, .int .i64 x.b, .int .i64 x.r] 57)).alloc (.cells #[.int .i64 y.a, .int .i64 y.b, .int .i64 y.r] 57)).drew) := by
  have h1 := (Blk.new wl 57 #[.int .i64 x.a, .int .i64 x.b, .int .i64 x.r]).alloc (.cells #[.int .i64 y.a, .int .i64 y.b, .int .i64 y.r] 57)
  have h2 := Blk.new (wl.alloc (.cells #[.int .i64 x.a, .int .i64 x.b, .int .i64 x.r] 57)) 57 #[.int .i64 y.a, .int .i64 y.b, .int .i64 y.r]
  rw [show (wl.alloc (.cells #[.int .i64 x.a, .int .i64 x.b, .int .i64 x.r] 57)).heap.size = wl.heap.size + 1 by simp] at h2
  exact ⟨_, _, rfl, rfl, Nat.le_refl _, Nat.le_succ _, h1.drew, h2.drew, below_drew (((Below.refl _ _).alloc (Nat.le_refl _) _).alloc (by simp) _)⟩
theorem endCut_yx (wl : World) (x y : Edg) : EndCut wl x y (.pointer (some ⟨wl.heap.size + 1, 0, none⟩)) (.pointer (some ⟨wl.heap.size, 0, none⟩)) (((wl.alloc (.cells #[.int .i64 y.a, .int .i64 y.b, .int .i64 y.r] 57)).alloc (.cells #[.int .i64 x.a, .int .i64 x.b, .int .i64 x.r] 57)).drew) := by
  obtain ⟨a, b, h1, h2, h3, h4, h5, h6, h7⟩ := endCut_xy wl y x
  exact ⟨b, a, h2, h1, h4, h3, h6, h5, h7⟩
theorem two_list {xs : List Nat} (h : xs.length = 2) : ∃ p q, xs = [p, q] := by
  match xs, h with
  | [p, q], _ => exact ⟨p, q, rfl⟩
theorem own_two {w : World} {base c : Nat} {e : TypeId} {A : Option Addr} {x y : Value} (h : w.ownsRow base e 1 (.slice A 2 c) 2 [x, y]) : ∃ gl, A = some ⟨gl, 0, none⟩ ∧ base ≤ gl ∧ gl < w.heap.size ∧ w.cell? ⟨gl, 0, none⟩ = some x ∧ w.cell? ⟨gl, 1, none⟩ = some y := by
  obtain ⟨gl, cap, hv, hb, hl⟩ := h.form (by omega)
  injection hv with hA
  subst hA
  have hc := h.cells (g := gl) rfl
  exact ⟨gl, rfl, hb, hl, hc 0 x rfl, hc 1 y rfl⟩
set_option maxHeartbeats 12800000 in
set_option maxRecDepth 100000 in
theorem joinEnds_any (g lo : Nat) (fr te J : Int) (A : Option Addr) (n c : Nat) (es : List Edg) (full : Bool) (w : World) (h : RedS w g lo fr te A n c es full) (hk : EsOk es) (hJ : 0 ≤ J ∧ J ≤ 16) (hlw : lo ≤ w.heap.size) :
    Calls Try.prog 22 #[.pointer (some ⟨g, 0, none⟩), .int .i64 J] w (EndsRet w g lo fr te J es full) := by
  obtain ⟨N, rfl⟩ : ∃ N : Nat, J = (N : Int) := ⟨J.toNat, by omega⟩
  have HL := Lib.hid h.len
  have hn : n ≤ 24 := by have := hk.2; rw [h.len] at this; exact this
  have HS := Lib.hid h
  have HK := Lib.hid hk
  have hlt := h.blk.lt
  have hgl := h.lt
  clear h hk
  go_enter Try.func22, Try.ntmps22
  go_wp2
  go_loopw [10] (fun i wr => ∃ (k : Nat), k ≤ N ∧ i = .int .i64 k ∧ Hid (∀ j', 0 ≤ j' → j' < (k : Int) → twoJ fr te es j' = false) ∧ Below w.heap.size w wr) (fun i _ => N - (intOf i).toNat)
  case atStart => exact ⟨0, by omega, rfl, (fun j' h1 h2 => by omega), Below.refl _ _⟩
  case round =>
    obtain ⟨k, hk, rfl, HN, hbr⟩ := hrel
    obtain ⟨wo, rfl⟩ : ∃ wo : World, wo = wr := ⟨_, rfl⟩
    have hzo := hbr.size
    by_cases hlk : k < N
    · have hkI : (k : Int) < (N : Int) := by omega
      have hSo := HS.out.below hbr
      have h0o : wo.cell? ⟨g, 0, none⟩ = some (.int .i64 fr) := (hSo.blk.cell 0).trans rfl
      have h1o : wo.cell? ⟨g, 1, none⟩ = some (.int .i64 te) := (hSo.blk.cell 1).trans rfl
      have h2o : wo.cell? ⟨g, 2, none⟩ = some (.slice A n c) := (hSo.blk.cell 2).trans rfl
      have HA := Lib.hid (at_any g (k : Int) A n c es wo h2o (Reads.of_own hSo.own) (by omega))
      clear hSo
      go_wp2_with fail; ((with_reducible refine HA.out.mono ?_); rintro e wl ⟨A', N', c', rfl, ho, hbl⟩)
      have hNl : Hid ((edI es (k : Int)).length = N') := show _ = _ by have h := ints_len (Reads.of_own ho); unfold natsV at h; rwa [List.length_map] at h
      have g0 := (hbl.cell (block_lt_of_cell h0o)).trans h0o
      have g1 := (hbl.cell (block_lt_of_cell h1o)).trans h1o
      have g2 := (hbl.cell (block_lt_of_cell h2o)).trans h2o
      have HO := Lib.hid ho
      have hbwl := hbr.trans (hbl.mono hzo)
      have HT : Hid (twoJ fr te es (k : Int) = ((k : Int) != fr && (k : Int) != te && (edI es (k : Int)).length == 2)) := rfl
      clear ho
      have next : Hid (twoJ fr te es (k : Int) = false → ∀ j', 0 ≤ j' → j' < ((k + 1 : Nat) : Int) → twoJ fr te es j' = false) := fun hf j' h1 h2 => by
        by_cases hj : j' = (k : Int)
        · rw [hj]; exact hf
        · exact HN.out j' h1 (by omega)
      cases k1 : ((k : Int) == fr)
      · cases k2 : ((k : Int) == te)
        · cases k3 : ((N' : Int) != 2)
          · have hN2 : N' = 2 := by simp at k3; omega
            subst hN2
            clear k3
            obtain ⟨p, q, hpq⟩ := two_list hNl.out
            have HAT : Hid (EnAt fr te (N : Int) es (k : Int) p q) := ⟨by omega, hkI, by rw [HT.out, hNl.out]; simp only [bne, k1, k2]; rfl, hpq, HN.out⟩
            obtain ⟨pq1, pq2, pq3, pq4⟩ := en_pq HAT.out
            have HEO := Lib.hid (en_ok HK.out HAT.out)
            rw [hpq] at HO
            obtain ⟨gl, rfl, hgl1, hgl2, l0, l1⟩ := own_two HO.out
            have hqn : q < n := by rw [← HL.out]; exact pq2
            have hpn : p < n := by omega
            have hSl := HS.out.below hbwl
            obtain ⟨ge, rfl, hlo, hge, hne⟩ := HS.out.form (by omega)
            obtain ⟨x, HXx, hxm, x0, x1, x2⟩ := edge_cells hSl.own hpn
            obtain ⟨y, HYy, hym, y0, y1, y2⟩ := edge_cells hSl.own hqn
            have hxo := HK.out.1 x hxm
            have hyo := HK.out.1 y hym
            have HSl := Lib.hid hSl
            have HBwl := Lib.hid hbwl
            have hpI : (p : Int) < (n : Int) := by omega
            have hqI : (q : Int) < (n : Int) := by omega
            have hzl := hbwl.size
            have hnge : ge ≠ gl := by omega
            clear hpq hxm hym HA h0o h1o h2o hSl hbl next HT hNl
            go_upto_region 6 with (fail)
            go_cut [7, 8] (fun s7 s8 wx => EndCut wl x y s7 s8 wx)
            case first =>
              go_region_held3 (fun w' => w'.cell? ⟨g, 2, none⟩ = some (.slice (some ⟨ge, 0, none⟩) n c) ∧ w'.cell? ⟨gl, 0, none⟩ = some (.int .i64 (p : Int)) ∧ w'.cell? ⟨gl, 1, none⟩ = some (.int .i64 (q : Int)) ∧ w'.cell? ⟨ge, p * 3, none⟩ = some (.int .i64 x.a) ∧ w'.cell? ⟨ge, p * 3 + 1, none⟩ = some (.int .i64 x.b) ∧ w'.cell? ⟨ge, p * 3 + 2, none⟩ = some (.int .i64 x.r) ∧ w'.cell? ⟨ge, q * 3, none⟩ = some (.int .i64 y.a) ∧ w'.cell? ⟨ge, q * 3 + 1, none⟩ = some (.int .i64 y.b) ∧ w'.cell? ⟨ge, q * 3 + 2, none⟩ = some (.int .i64 y.r))
                (go_keep) (fail)
              all_goals (go_wp2_with fail; go_meet; first | exact endCut_xy wl x y | exact endCut_yx wl x y)
            obtain ⟨bx, bz, rfl, rfl, hbx, hbz, hX, hZ, hbq⟩ := hcut
            obtain ⟨wx, rfl⟩ : ∃ t : World, t = wc := ⟨_, rfl⟩
            have HSx := Lib.hid (HSl.out.below hbq)
            have HX := Lib.hid hX
            have HZ := Lib.hid hZ
            have HBx := Lib.hid (HBwl.out.trans (hbq.mono hzl))
            have g2x : wx.cell? ⟨g, 2, none⟩ = some (.slice (some ⟨ge, 0, none⟩) n c) := (HSx.out.blk.cell 2).trans rfl
            have l0x := (hbq.cell (block_lt_of_cell l0)).trans l0
            have l1x := (hbq.cell (block_lt_of_cell l1)).trans l1
            have q0 := (hbq.cell (block_lt_of_cell x0)).trans x0
            have q1 := (hbq.cell (block_lt_of_cell x1)).trans x1
            have q2 := (hbq.cell (block_lt_of_cell x2)).trans x2
            obtain ⟨curx, hGx, hrestx⟩ := own_open HSx.out.own
            have fq0 := hGx.frozen (p * 3)
            have fq1 := hGx.frozen (p * 3 + 1)
            have fq2 := hGx.frozen (p * 3 + 2)
            have u0 : wx.cell? ⟨bx, 0, none⟩ = some (.int .i64 x.a) := (hX.cell 0).trans rfl
            have u1 : wx.cell? ⟨bx, 1, none⟩ = some (.int .i64 x.b) := (hX.cell 1).trans rfl
            have u2 : wx.cell? ⟨bx, 2, none⟩ = some (.int .i64 x.r) := (hX.cell 2).trans rfl
            have v0 : wx.cell? ⟨bz, 0, none⟩ = some (.int .i64 y.a) := (hZ.cell 0).trans rfl
            have v1 : wx.cell? ⟨bz, 1, none⟩ = some (.int .i64 y.b) := (hZ.cell 1).trans rfl
            have v2 : wx.cell? ⟨bz, 2, none⟩ = some (.int .i64 y.r) := (hZ.cell 2).trans rfl
            have hgg : ge < wl.heap.size := by omega
            have hnx : ge ≠ bx := by omega
            have hnz : ge ≠ bz := by omega
            have hneg : ge ≠ g := Ne.symm hne
            have HSK : Hid (∀ a b r : Value, (((wx.setCell ⟨ge, p * 3, none⟩ a).setCell ⟨ge, p * 3 + 1, none⟩ b).setCell ⟨ge, p * 3 + 2, none⟩ r).cell? ⟨g, 2, none⟩ = some (.slice (some ⟨ge, 0, none⟩) n c) ∧ (((wx.setCell ⟨ge, p * 3, none⟩ a).setCell ⟨ge, p * 3 + 1, none⟩ b).setCell ⟨ge, p * 3 + 2, none⟩ r).cell? ⟨gl, 0, none⟩ = some (.int .i64 (p : Int)) ∧
                (((wx.setCell ⟨ge, p * 3, none⟩ a).setCell ⟨ge, p * 3 + 1, none⟩ b).setCell ⟨ge, p * 3 + 2, none⟩ r).cell? ⟨bx, 0, none⟩ = some (.int .i64 x.a) ∧ (((wx.setCell ⟨ge, p * 3, none⟩ a).setCell ⟨ge, p * 3 + 1, none⟩ b).setCell ⟨ge, p * 3 + 2, none⟩ r).cell? ⟨bx, 1, none⟩ = some (.int .i64 x.b) ∧ (((wx.setCell ⟨ge, p * 3, none⟩ a).setCell ⟨ge, p * 3 + 1, none⟩ b).setCell ⟨ge, p * 3 + 2, none⟩ r).cell? ⟨bx, 2, none⟩ = some (.int .i64 x.r) ∧
                (((wx.setCell ⟨ge, p * 3, none⟩ a).setCell ⟨ge, p * 3 + 1, none⟩ b).setCell ⟨ge, p * 3 + 2, none⟩ r).cell? ⟨bz, 0, none⟩ = some (.int .i64 y.a) ∧ (((wx.setCell ⟨ge, p * 3, none⟩ a).setCell ⟨ge, p * 3 + 1, none⟩ b).setCell ⟨ge, p * 3 + 2, none⟩ r).cell? ⟨bz, 1, none⟩ = some (.int .i64 y.b) ∧ (((wx.setCell ⟨ge, p * 3, none⟩ a).setCell ⟨ge, p * 3 + 1, none⟩ b).setCell ⟨ge, p * 3 + 2, none⟩ r).cell? ⟨bz, 2, none⟩ = some (.int .i64 y.r)) := fun a b r =>
              ⟨(HSx.out.blk.far (p := ⟨ge, p * 3, none⟩) hne a |>.far (p := ⟨ge, p * 3 + 1, none⟩) hne b |>.far (p := ⟨ge, p * 3 + 2, none⟩) hne r).cell 2 |>.trans rfl,
               (World.cell?_setCell_other _ _ _ _ (fun e => hnge (by injection e))).trans ((World.cell?_setCell_other _ _ _ _ (fun e => hnge (by injection e))).trans ((World.cell?_setCell_other _ _ _ _ (fun e => hnge (by injection e))).trans l0x)),
               (hX.far (p := ⟨ge, p * 3, none⟩) (Ne.symm hnx) a |>.far (p := ⟨ge, p * 3 + 1, none⟩) (Ne.symm hnx) b |>.far (p := ⟨ge, p * 3 + 2, none⟩) (Ne.symm hnx) r).cell 0 |>.trans rfl,
               (hX.far (p := ⟨ge, p * 3, none⟩) (Ne.symm hnx) a |>.far (p := ⟨ge, p * 3 + 1, none⟩) (Ne.symm hnx) b |>.far (p := ⟨ge, p * 3 + 2, none⟩) (Ne.symm hnx) r).cell 1 |>.trans rfl,
               (hX.far (p := ⟨ge, p * 3, none⟩) (Ne.symm hnx) a |>.far (p := ⟨ge, p * 3 + 1, none⟩) (Ne.symm hnx) b |>.far (p := ⟨ge, p * 3 + 2, none⟩) (Ne.symm hnx) r).cell 2 |>.trans rfl,
               (hZ.far (p := ⟨ge, p * 3, none⟩) (Ne.symm hnz) a |>.far (p := ⟨ge, p * 3 + 1, none⟩) (Ne.symm hnz) b |>.far (p := ⟨ge, p * 3 + 2, none⟩) (Ne.symm hnz) r).cell 0 |>.trans rfl,
               (hZ.far (p := ⟨ge, p * 3, none⟩) (Ne.symm hnz) a |>.far (p := ⟨ge, p * 3 + 1, none⟩) (Ne.symm hnz) b |>.far (p := ⟨ge, p * 3 + 2, none⟩) (Ne.symm hnz) r).cell 1 |>.trans rfl,
               (hZ.far (p := ⟨ge, p * 3, none⟩) (Ne.symm hnz) a |>.far (p := ⟨ge, p * 3 + 1, none⟩) (Ne.symm hnz) b |>.far (p := ⟨ge, p * 3 + 2, none⟩) (Ne.symm hnz) r).cell 2 |>.trans rfl⟩
            unfold Edg.ok at hxo hyo
            have w1 : IntKind.i64.wrap (x.a + x.b) = x.a + x.b := IntWalk.i64_in _ (by omega)
            have w2 : IntKind.i64.wrap (x.a + x.b - (k : Int)) = x.a + x.b - (k : Int) := IntWalk.i64_in _ (by omega)
            have w3 : IntKind.i64.wrap (y.a + y.b) = y.a + y.b := IntWalk.i64_in _ (by omega)
            have w4 : IntKind.i64.wrap (y.a + y.b - (k : Int)) = y.a + y.b - (k : Int) := IntWalk.i64_in _ (by omega)
            have w5 : IntKind.i64.wrap (x.r + y.r) = x.r + y.r := IntWalk.i64_in _ (by omega)
            clear hX hZ hGx hrestx x0 x1 x2 y0 y1 y2 l0 l1 g0 g1 g2 hbq
            go_wp2_with fail
            go_region_held3 (fun w' => w'.cell? ⟨g, 2, none⟩ = some (.slice (some ⟨ge, 0, none⟩) n c) ∧ w'.cell? ⟨gl, 0, none⟩ = some (.int .i64 (p : Int)) ∧ w'.cell? ⟨bx, 0, none⟩ = some (.int .i64 x.a) ∧ w'.cell? ⟨bx, 1, none⟩ = some (.int .i64 x.b) ∧ w'.cell? ⟨bx, 2, none⟩ = some (.int .i64 x.r) ∧ w'.cell? ⟨bz, 0, none⟩ = some (.int .i64 y.a) ∧ w'.cell? ⟨bz, 1, none⟩ = some (.int .i64 y.b) ∧ w'.cell? ⟨bz, 2, none⟩ = some (.int .i64 y.r))
              (first | go_keep | (exact HSK.out _ _ _)) (fail)
            have hgz : g ≤ w.heap.size := by omega
            have hSy : RedS (((wx.setCell ⟨ge, p * 3, none⟩ (.int .i64 (x.a + x.b - (k : Int)))).setCell ⟨ge, p * 3 + 1, none⟩ (.int .i64 (y.a + y.b - (k : Int)))).setCell ⟨ge, p * 3 + 2, none⟩ (.int .i64 (x.r + y.r))).drew g lo fr te (some ⟨ge, 0, none⟩) n c (es.set p ⟨x.a + x.b - (k : Int), y.a + y.b - (k : Int), x.r + y.r⟩) full :=
              ⟨(((HSx.out.blk.far (p := ⟨ge, p * 3, none⟩) hne _).far (p := ⟨ge, p * 3 + 1, none⟩) hne _).far (p := ⟨ge, p * 3 + 2, none⟩) hne _).drew, own_edit3 HSx.out.own hpn _ _ _, HSx.out.lt⟩
            have hBy : Below g w (((wx.setCell ⟨ge, p * 3, none⟩ (.int .i64 (x.a + x.b - (k : Int)))).setCell ⟨ge, p * 3 + 1, none⟩ (.int .i64 (y.a + y.b - (k : Int)))).setCell ⟨ge, p * 3 + 2, none⟩ (.int .i64 (x.r + y.r))).drew := below_drew ((((HBx.out.mono hgz).setCell (p := ⟨ge, p * 3, none⟩) (by show g ≤ ge; omega) _).setCell (p := ⟨ge, p * 3 + 1, none⟩) (by show g ≤ ge; omega) _).setCell (p := ⟨ge, p * 3 + 2, none⟩) (by show g ≤ ge; omega) _)
            have hXy : Blk (((wx.setCell ⟨ge, p * 3, none⟩ (.int .i64 (x.a + x.b - (k : Int)))).setCell ⟨ge, p * 3 + 1, none⟩ (.int .i64 (y.a + y.b - (k : Int)))).setCell ⟨ge, p * 3 + 2, none⟩ (.int .i64 (x.r + y.r))).drew bx 57 #[.int .i64 x.a, .int .i64 x.b, .int .i64 x.r] := (((HX.out.far (p := ⟨ge, p * 3, none⟩) (Ne.symm hnx) _).far (p := ⟨ge, p * 3 + 1, none⟩) (Ne.symm hnx) _).far (p := ⟨ge, p * 3 + 2, none⟩) (Ne.symm hnx) _).drew
            have hZy : Blk (((wx.setCell ⟨ge, p * 3, none⟩ (.int .i64 (x.a + x.b - (k : Int)))).setCell ⟨ge, p * 3 + 1, none⟩ (.int .i64 (y.a + y.b - (k : Int)))).setCell ⟨ge, p * 3 + 2, none⟩ (.int .i64 (x.r + y.r))).drew bz 57 #[.int .i64 y.a, .int .i64 y.b, .int .i64 y.r] := (((HZ.out.far (p := ⟨ge, p * 3, none⟩) (Ne.symm hnz) _).far (p := ⟨ge, p * 3 + 1, none⟩) (Ne.symm hnz) _).far (p := ⟨ge, p * 3 + 2, none⟩) (Ne.symm hnz) _).drew
            have l1y : (((wx.setCell ⟨ge, p * 3, none⟩ (.int .i64 (x.a + x.b - (k : Int)))).setCell ⟨ge, p * 3 + 1, none⟩ (.int .i64 (y.a + y.b - (k : Int)))).setCell ⟨ge, p * 3 + 2, none⟩ (.int .i64 (x.r + y.r))).drew.cell? ⟨gl, 1, none⟩ = some (.int .i64 (q : Int)) := (World.cell?_setCell_other _ _ _ _ (fun e => hnge (by injection e))).trans ((World.cell?_setCell_other _ _ _ _ (fun e => hnge (by injection e))).trans ((World.cell?_setCell_other _ _ _ _ (fun e => hnge (by injection e))).trans l1x))
            have hV : enE es (k : Int) p q = (es.set p ⟨x.a + x.b - (k : Int), y.a + y.b - (k : Int), x.r + y.r⟩).eraseIdx q := by unfold enE enSum; rw [HXx.out, HYy.out]
            have hVS : enSum es p q = x.r + y.r := by unfold enSum; rw [HXx.out, HYy.out]
            have HV := Lib.hid hV
            have HVS := Lib.hid hVS
            clear hV hVS HSK u0 u1 u2 v0 v1 v2 q0 q1 q2 fq0 fq1 fq2 l0x l1x g2x w1 w2 w3 w4
            generalize (((wx.setCell ⟨ge, p * 3, none⟩ (.int .i64 (x.a + x.b - (k : Int)))).setCell ⟨ge, p * 3 + 1, none⟩ (.int .i64 (y.a + y.b - (k : Int)))).setCell ⟨ge, p * 3 + 2, none⟩ (.int .i64 (x.r + y.r))).drew = wy at *
            have HSy := Lib.hid hSy
            have HBy := Lib.hid hBy
            have HXy := Lib.hid hXy
            have HZy := Lib.hid hZy
            have g2y : wy.cell? ⟨g, 2, none⟩ = some (.slice (some ⟨ge, 0, none⟩) n c) := (hSy.blk.cell 2).trans rfl
            have HD : Hid (Calls Try.prog 40 #[.slice (some ⟨ge, 0, none⟩) n c, .int .i64 (q : Int), .int .i64 ((q : Int) + 1)] wy.drew fun e w' => e = .returned (.slice (some ⟨ge, 0, none⟩) (n - 1) c) ∧ w'.ownsRow lo 57 3 (.slice (some ⟨ge, 0, none⟩) (n - 1) c) (n - 1) (Edg.recs ((es.set p ⟨x.a + x.b - (k : Int), y.a + y.b - (k : Int), x.r + y.r⟩).eraseIdx q)) ∧ wy.drew.grownBy w' (some ge)) :=
              delete_any lo ge n c q _ wy.drew hSy.own hqn (by omega)
            have hwq : IntKind.i64.wrap ((q : Int) + 1) = (q : Int) + 1 := IntWalk.i64_in _ (by omega)
            have hzy : g ≤ wy.heap.size := by have := hBy.size; omega
            clear hSy hBy hXy hZy HSx HX HZ HBx HSl HBwl
            go_wp2_with fail
            go_region_law
              (go_simp; go_at_call 40; with_reducible refine HD.out.mono ?_; rintro e w8 ⟨rfl, ho8, hg8⟩; have HO8 := Lib.hid ho8; have HG8 := Lib.hid hg8; have K8 := HSy.out.blk.drew.grown hg8 (fun e => by injection e with e; omega); have k2 := K8.cell 2; have f2 := K8.frozen 2; clear ho8 hg8 K8)
            all_goals
              have hq8 : Below g w w8 := (below_drew HBy.out).grown HG8.out hzy (fun r e => by injection e with e; omega)
              have hS8 := RedS.turn (HSy.out.below (below_drew (Below.refl _ _))) hlo HG8.out HO8.out
              have hX8 : Blk (w8.setCell ⟨g, 2, none⟩ (.slice (some ⟨ge, 0, none⟩) (n - 1) c)) bx 57 #[.int .i64 x.a, .int .i64 x.b, .int .i64 x.r] := (HXy.out.drew.grown HG8.out (fun e => by injection e with e; omega)).far (p := ⟨g, 2, none⟩) (by show bx ≠ g; omega) _
              have hZ8 : Blk (w8.setCell ⟨g, 2, none⟩ (.slice (some ⟨ge, 0, none⟩) (n - 1) c)) bz 57 #[.int .i64 y.a, .int .i64 y.b, .int .i64 y.r] := (HZy.out.drew.grown HG8.out (fun e => by injection e with e; omega)).far (p := ⟨g, 2, none⟩) (by show bz ≠ g; omega) _
              have hB8 := hq8.setCell (p := ⟨g, 2, none⟩) (Nat.le_refl g) (.slice (some ⟨ge, 0, none⟩) (n - 1) c)
              clear k2 f2 hq8 g2y l1y HD HO8 HG8
              generalize w8.setCell ⟨g, 2, none⟩ (.slice (some ⟨ge, 0, none⟩) (n - 1) c) = w9 at *
              have HS9 := Lib.hid hS8
              have HB9 := Lib.hid hB8
              have u9 : w9.cell? ⟨bx, 2, none⟩ = some (.int .i64 x.r) := (hX8.cell 2).trans rfl
              have v9 : w9.cell? ⟨bz, 2, none⟩ = some (.int .i64 y.r) := (hZ8.cell 2).trans rfl
              have s9 := hS8.blk.cell 3
              have t9 := hS8.blk.frozen 3
              clear hS8 hX8 hZ8 hB8
              cases hd : decide (1000000 < x.r + y.r)
              all_goals
                go_wp2
                go_ret
                refine .inr ⟨(k : Int), p, q, some ⟨ge, 0, none⟩, n - 1, c, HAT.out, rfl, ?_, HB9.out.setCell (p := ⟨g, 3, none⟩) (Nat.le_refl g) _⟩
                rw [HV.out, HVS.out, hd]
                exact ⟨HS9.out.blk.set_ 3 _, own_low HS9.out.own (p := ⟨g, 3, none⟩) HS9.out.lt _, HS9.out.lt⟩
          · have HF : Hid (twoJ fr te es (k : Int) = false) := show _ = _ by rw [HT.out, hNl.out]; simp at k3 ⊢; intro _ _; omega
            have HNx := Lib.hid (next.out HF.out)
            clear next HT
            go_wp2
            go_roundw
            case rel => exact ⟨k + 1, by omega, by go_num, HNx.out, hbwl⟩
            case measure => simp [intOf]; omega
        · have HF : Hid (twoJ fr te es (k : Int) = false) := show _ = _ by rw [HT.out]; simp only [bne, k2]; simp
          have HNx := Lib.hid (next.out HF.out)
          clear next HT
          go_wp2
          go_roundw
          case rel => exact ⟨k + 1, by omega, by go_num, HNx.out, hbwl⟩
          case measure => simp [intOf]; omega
      · have HF : Hid (twoJ fr te es (k : Int) = false) := show _ = _ by rw [HT.out]; simp only [bne, k1]; simp
        have HNx := Lib.hid (next.out HF.out)
        clear next HT
        go_wp2
        go_roundw
        case rel => exact ⟨k + 1, by omega, by go_num, HNx.out, hbwl⟩
        case measure => simp [intOf]; omega
    · have e : k = N := by omega
      subst e
      go_wp2
      go_ret
      exact .inl ⟨HN.out, rfl, hbr⟩
end Go.Proofs.Ytnfallanjndbcaa
