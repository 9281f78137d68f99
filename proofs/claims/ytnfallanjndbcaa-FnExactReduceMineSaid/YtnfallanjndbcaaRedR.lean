/- Contract of the reduction of a mine, the reference's side. -/
import Derived.Test.YtnfallanjndbcaaRedG
import Derived.Test.YtnfallanjndbcaaLev
import Derived.Deep.RegionHeld3
import Derived.Deep.DeepCutAuto
import Derived.BigQuiet
import Derived.BigRegion
namespace Go.Proofs.Ytnfallanjndbcaa
set_option linter.unusedVariables false
set_option linter.unusedSimpArgs false
open Go.RowKit
def edgL (xs : List Awy) (rs : List Int) : List Edg := List.zipWith (fun x r => (⟨x.a, x.b, r⟩ : Edg)) xs rs
def redOk (J : Int) (xs : List Awy) (rs : List Int) (fr te : Int) : Bool := lstOk xs.length 1 1000000 rs && inB fr 0 (J - 1) && inB te 0 (J - 1) && !(fr == te)
noncomputable def redR (J : Int) (xs : List Awy) (rs : List Int) (fr te : Int) : Int × Int × Int :=
  if mineOk J xs = true then (if redOk J xs rs fr te = true then redV fr te J (edgL xs rs) else (0, 0, 2)) else (0, 0, 1)
theorem edgL_at {xs : List Awy} {rs : List Int} {k : Nat} {x : Awy} {r : Int} (hx : xs[k]? = some x) (hr : rs[k]? = some r) : (edgL xs rs).take (k + 1) = (edgL xs rs).take k ++ [⟨x.a, x.b, r⟩] := by
  have h : (edgL xs rs)[k]? = some ⟨x.a, x.b, r⟩ := by unfold edgL; rw [List.getElem?_zipWith, hx, hr]
  rw [List.take_add_one, h]
  rfl
theorem edgL_len {xs : List Awy} {rs : List Int} (h : rs.length = xs.length) : (edgL xs rs).length = xs.length := by unfold edgL; rw [List.length_zipWith]; omega
theorem edgL_ok {J : Int} {xs : List Awy} {rs : List Int} (hm : mineOk J xs = true) (hl : lstOk xs.length 1 1000000 rs = true) : EsOk (edgL xs rs) := by
  obtain ⟨⟨hj1, hj2⟩, h24, hx⟩ := mineOk_t hm
  obtain ⟨hl1, hl2⟩ := lstOk_t hl
  refine ⟨fun e he => ?_, by rw [edgL_len (by omega)]; exact h24⟩
  obtain ⟨k, hk⟩ := List.mem_iff_getElem?.1 he
  unfold edgL at hk
  rw [List.getElem?_zipWith] at hk
  cases h1 : xs[k]? with
  | none => rw [h1] at hk; simp at hk
  | some x =>
    cases h2 : rs[k]? with
    | none => rw [h1, h2] at hk; simp at hk
    | some r =>
      rw [h1, h2] at hk
      obtain rfl := Option.some.inj hk
      obtain ⟨_, g1, g2⟩ := hx x (List.mem_of_getElem? h1)
      have g3 := hl2 r (List.mem_of_getElem? h2)
      exact ⟨by show 0 ≤ x.a ∧ x.a ≤ 15; omega, by show 0 ≤ x.b ∧ x.b ≤ 15; omega, by show 1 ≤ r ∧ r ≤ 1000000; omega⟩
theorem recs_snoc (es : List Edg) (e : Edg) : Edg.recs es ++ e.cells = Edg.recs (es ++ [e]) := by
  show _ = Go.Proofs.Ytnfallanjndbcaa.recs Edg.cells (es ++ [e])
  rw [recs_append]
  simp [Go.Proofs.Ytnfallanjndbcaa.recs]
theorem redR_1 {J : Int} {xs : List Awy} {rs : List Int} {fr te : Int} (h : mineOk J xs = false) : redR J xs rs fr te = (0, 0, 1) := by unfold redR; rw [if_neg (by rw [h]; exact Bool.false_ne_true)]
theorem redR_2 {J : Int} {xs : List Awy} {rs : List Int} {fr te : Int} (h : mineOk J xs = true) (h2 : redOk J xs rs fr te = false) : redR J xs rs fr te = (0, 0, 2) := by unfold redR; rw [if_pos h, if_neg (by rw [h2]; exact Bool.false_ne_true)]
theorem redR_3 {J : Int} {xs : List Awy} {rs : List Int} {fr te : Int} (h : mineOk J xs = true) (h2 : redOk J xs rs fr te = true) : redR J xs rs fr te = redV fr te J (edgL xs rs) := by unfold redR; rw [if_pos h, if_pos h2]
theorem redOk_t {J : Int} {xs : List Awy} {rs : List Int} {fr te : Int} (h : redOk J xs rs fr te = true) : lstOk xs.length 1 1000000 rs = true ∧ (0 ≤ fr ∧ fr ≤ J - 1) ∧ (0 ≤ te ∧ te ≤ J - 1) ∧ fr ≠ te := by
  unfold redOk at h
  simp only [Bool.and_eq_true, Bool.not_eq_true', beq_eq_false_iff_ne, ne_eq] at h
  exact ⟨h.1.1.1, inB_t h.1.1.2, inB_t h.1.2, h.2⟩
theorem ret_i3 {a b c : Int} {R : Int × Int × Int} (h : R = (a, b, c)) : Ending.returned (.tuple #[.int .i64 a, .int .i64 b, .int .i64 c]) = .returned (.tuple #[.int .i64 R.1, .int .i64 R.2.1, .int .i64 R.2.2]) := by rw [h]
/-- Whatever the run from here returns is what the whole run returns. -/
def RThen (fr te J : Int) (es0 es : List Edg) (st : Int) : Prop := ∀ R, RRun fr te J es st R → RRun fr te J es0 0 R
theorem rthen_0 (fr te J : Int) (es : List Edg) : RThen fr te J es es 0 := fun _ h => h
theorem rthen_s {fr te J : Int} {es0 es x : List Edg} {st : Int} (h : RThen fr te J es0 es st) (hs : RStep fr te J es x false) : RThen fr te J es0 x (st + 1) := fun R hr => h R (.go es x st R hs hr)
theorem rthen_full {fr te J : Int} {es0 es x : List Edg} {st : Int} (h : RThen fr te J es0 es st) (hs : RStep fr te J es x true) : redV fr te J es0 = (0, 0, 5) := redV_eq (h _ (.full es x st hs))
theorem rthen_stop {fr te J : Int} {es0 es : List Edg} {st : Int} (h : RThen fr te J es0 es st) (hs : RStop fr te J es) : redV fr te J es0 = redFin fr te es st := redV_eq (h _ (.stop es st hs))
theorem fin_no {fr te : Int} {es : List Edg} {st : Int} (h : es.length ≠ 1) : redFin fr te es st = (0, 0, 6) := by
  unfold redFin
  match es, h with
  | [], _ => rfl
  | [e], h => exact absurd rfl h
  | _ :: _ :: _, _ => rfl
theorem fin_one {fr te : Int} {es : List Edg} {st : Int} (h : es.length = 1) : redFin fr te es st = if jn (es.getD 0 default) ⟨fr, te, 0⟩ = true then ((es.getD 0 default).r, st, 0) else (0, 0, 6) := by
  match es, h with
  | [e], _ => rfl
set_option maxHeartbeats 25600000 in
set_option maxRecDepth 100000 in
theorem specReduceMine_any (J : Int) (M : Option Addr) (m d : Nat) (xs : List Awy) (A : Option Addr) (n c : Nat) (rs : List Int) (fr te : Int) (w : World) (hm : Reads w w.heap.size 7 M m (Awy.recs xs)) (hmn : m ≤ 1048576) (hxs : ∀ x ∈ xs, x.s.size ≤ maxLen) (hr : Reads w w.heap.size 1 A n (ints rs)) (hn : n ≤ 1048576) :
    Calls Try.prog 5 #[.agg #[.int .i64 J, .slice M m d], .slice A n c, .int .i64 fr, .int .i64 te] w fun e w' => e = .returned (.tuple #[.int .i64 (redR J xs rs fr te).1, .int .i64 (redR J xs rs fr te).2.1, .int .i64 (redR J xs rs fr te).2.2]) ∧ Below w.heap.size w w' := by
  obtain ⟨i0, hi0, hz0, hz1, hz2⟩ := info_parts info_way
  have HLm := Lib.hid (recs_rlen Awy.clen (by omega) hm)
  have HLn := Lib.hid (ints_len hr)
  have hb : Below w.heap.size w (w.alloc (.cells #[.int .i64 J, .slice M m d] 31)) := (Below.refl _ _).alloc (Nat.le_refl _) _
  have cc := l04Ok_any J M m d xs ⟨w.heap.size, 0, none⟩ _ ((hm.below hb).more hb.size) hmn hxs (Cells.new w _ _)
  clear hxs
  go_enter Try.func5, Try.ntmps5
  go_wp2_with fail; ((with_reducible refine (cc).mono ?_); rintro e w1 ⟨rfl, hb1⟩)
  have B1 : Below w.heap.size w w1 := hb.trans (hb1.mono (by simp))
  have z1 : w.heap.size < w1.heap.size := by have h := hb1.size; simp at h; omega
  have g0_1 : w1.cell? ⟨w.heap.size, 0, none⟩ = some (.int .i64 J) := (hb1.cell (p := ⟨w.heap.size, 0, none⟩) (by simp)).trans (by go_simp)
  have g1_1 : w1.cell? ⟨w.heap.size, 1, none⟩ = some (.slice M m d) := (hb1.cell (p := ⟨w.heap.size, 1, none⟩) (by simp)).trans (by go_simp)
  clear cc hb hb1
  cases hok : mineOk J xs
  · have HV := Lib.hid (redR_1 (rs := rs) (fr := fr) (te := te) hok)
    go_wp2
    go_ret3
    exact ⟨ret_i3 HV.out, B1⟩
  · have HOK := Lib.hid hok
    have HO := Lib.hid (mineOk_t hok)
    have hm24 : m ≤ 24 := by have := HO.out.2.1; rw [HLm.out] at this; exact this
    obtain ⟨hj1, hj2⟩ := HO.out.1
    have HJ1 := Lib.hid (l04Junction_any J fr ⟨w.heap.size, 0, none⟩ w1 (by omega) (by omega) g0_1)
    have HJ2 := Lib.hid (l04Junction_any J te ⟨w.heap.size, 0, none⟩ w1 (by omega) (by omega) g0_1)
    have HLS := Lib.hid (l08List_any A n c rs w1 ((hr.below B1).more B1.size) hn)
    have HD : Hid (redOk J xs rs fr te = (allIn 1 1000000 rs && ((n : Int) == (m : Int)) && inB fr 0 (J - 1) && inB te 0 (J - 1) && !(fr == te))) := show _ = _ by unfold redOk lstOk; rw [HLm.out, HLn.out]
    have HRL : Hid (resList rs = (decide (1 ≤ n ∧ n ≤ 24) && allIn 1 1000000 rs)) := show _ = _ by unfold resList; rw [HLn.out]
    clear hok
    go_upto_region 3 with (fail)
    go_cut [50] (fun s50 wx => s50 = .bool (!redOk J xs rs fr te) ∧ wx = w1)
    case first =>
      cases kn : ((n : Int) != (m : Int))
      · have kn' : ((n : Int) == (m : Int)) = true := by simp at kn ⊢; omega
        have hnm : (n : Int) = (m : Int) := by simpa using kn'
        by_cases h0 : 0 < m
        · have hpos : decide ((0 : Int) < (m : Int)) = true := decide_eq_true (by omega)
          have hposI : (0 : Int) < (m : Int) := by omega
          have hrl : resList rs = allIn 1 1000000 rs := by rw [HRL.out, decide_eq_true (show 1 ≤ n ∧ n ≤ 24 by omega)]; rfl
          have HRE := Lib.hid hrl
          clear hrl
          cases kl : resList rs
          · rw [kl] at HLS
            have ka : allIn 1 1000000 rs = false := by rw [← HRE.out]; exact kl
            clear kl
            go_wp2_with (first | (go_at_call 13; (with_reducible refine HLS.out.mono ?_); rintro e w' ⟨rfl, rfl⟩) | (go_at_call 14; first | ((with_reducible refine HJ1.out.mono ?_); rintro e w' ⟨rfl, rfl⟩) | ((with_reducible refine HJ2.out.mono ?_); rintro e w' ⟨rfl, rfl⟩)))
            go_meet
            exact ⟨congrArg Value.bool (by rw [HD.out]; simp [ka]), rfl⟩
          · rw [kl] at HLS
            have ka : allIn 1 1000000 rs = true := by rw [← HRE.out]; exact kl
            clear kl
            cases k1 : inB fr 0 (J - 1)
            · rw [k1] at HJ1
              go_wp2_with (first | (go_at_call 13; (with_reducible refine HLS.out.mono ?_); rintro e w' ⟨rfl, rfl⟩) | (go_at_call 14; first | ((with_reducible refine HJ1.out.mono ?_); rintro e w' ⟨rfl, rfl⟩) | ((with_reducible refine HJ2.out.mono ?_); rintro e w' ⟨rfl, rfl⟩)))
              go_meet
              exact ⟨congrArg Value.bool (by rw [HD.out]; simp [ka, kn', k1]), rfl⟩
            · rw [k1] at HJ1
              cases k2 : inB te 0 (J - 1)
              · rw [k2] at HJ2
                go_wp2_with (first | (go_at_call 13; (with_reducible refine HLS.out.mono ?_); rintro e w' ⟨rfl, rfl⟩) | (go_at_call 14; first | ((with_reducible refine HJ1.out.mono ?_); rintro e w' ⟨rfl, rfl⟩) | ((with_reducible refine HJ2.out.mono ?_); rintro e w' ⟨rfl, rfl⟩)))
                go_meet
                exact ⟨congrArg Value.bool (by rw [HD.out]; simp [ka, kn', k1, k2]), rfl⟩
              · rw [k2] at HJ2
                cases k3 : (fr == te)
                · skip
                  go_wp2_with (first | (go_at_call 13; (with_reducible refine HLS.out.mono ?_); rintro e w' ⟨rfl, rfl⟩) | (go_at_call 14; first | ((with_reducible refine HJ1.out.mono ?_); rintro e w' ⟨rfl, rfl⟩) | ((with_reducible refine HJ2.out.mono ?_); rintro e w' ⟨rfl, rfl⟩)))
                  go_meet
                  exact ⟨congrArg Value.bool (by rw [HD.out]; simp [ka, kn', k1, k2, k3]), rfl⟩
                · skip
                  go_wp2_with (first | (go_at_call 13; (with_reducible refine HLS.out.mono ?_); rintro e w' ⟨rfl, rfl⟩) | (go_at_call 14; first | ((with_reducible refine HJ1.out.mono ?_); rintro e w' ⟨rfl, rfl⟩) | ((with_reducible refine HJ2.out.mono ?_); rintro e w' ⟨rfl, rfl⟩)))
                  go_meet
                  exact ⟨congrArg Value.bool (by rw [HD.out]; simp [ka, kn', k1, k2, k3]), rfl⟩
        · have h00 : m = 0 := by omega
          have hpos : decide ((0 : Int) < (m : Int)) = false := decide_eq_false (by omega)
          have hposI : ¬ (0 : Int) < (m : Int) := by omega
          have ka : allIn 1 1000000 rs = true := by
            have e : rs = [] := List.eq_nil_of_length_eq_zero (by have := HLn.out; omega)
            rw [e]; rfl
          clear h00
          cases k1 : inB fr 0 (J - 1)
          · rw [k1] at HJ1
            go_wp2_with (first | (go_at_call 13; (with_reducible refine HLS.out.mono ?_); rintro e w' ⟨rfl, rfl⟩) | (go_at_call 14; first | ((with_reducible refine HJ1.out.mono ?_); rintro e w' ⟨rfl, rfl⟩) | ((with_reducible refine HJ2.out.mono ?_); rintro e w' ⟨rfl, rfl⟩)))
            go_meet
            exact ⟨congrArg Value.bool (by rw [HD.out]; simp [ka, kn', k1]), rfl⟩
          · rw [k1] at HJ1
            cases k2 : inB te 0 (J - 1)
            · rw [k2] at HJ2
              go_wp2_with (first | (go_at_call 13; (with_reducible refine HLS.out.mono ?_); rintro e w' ⟨rfl, rfl⟩) | (go_at_call 14; first | ((with_reducible refine HJ1.out.mono ?_); rintro e w' ⟨rfl, rfl⟩) | ((with_reducible refine HJ2.out.mono ?_); rintro e w' ⟨rfl, rfl⟩)))
              go_meet
              exact ⟨congrArg Value.bool (by rw [HD.out]; simp [ka, kn', k1, k2]), rfl⟩
            · rw [k2] at HJ2
              cases k3 : (fr == te)
              · skip
                go_wp2_with (first | (go_at_call 13; (with_reducible refine HLS.out.mono ?_); rintro e w' ⟨rfl, rfl⟩) | (go_at_call 14; first | ((with_reducible refine HJ1.out.mono ?_); rintro e w' ⟨rfl, rfl⟩) | ((with_reducible refine HJ2.out.mono ?_); rintro e w' ⟨rfl, rfl⟩)))
                go_meet
                exact ⟨congrArg Value.bool (by rw [HD.out]; simp [ka, kn', k1, k2, k3]), rfl⟩
              · skip
                go_wp2_with (first | (go_at_call 13; (with_reducible refine HLS.out.mono ?_); rintro e w' ⟨rfl, rfl⟩) | (go_at_call 14; first | ((with_reducible refine HJ1.out.mono ?_); rintro e w' ⟨rfl, rfl⟩) | ((with_reducible refine HJ2.out.mono ?_); rintro e w' ⟨rfl, rfl⟩)))
                go_meet
                exact ⟨congrArg Value.bool (by rw [HD.out]; simp [ka, kn', k1, k2, k3]), rfl⟩
      · have kn' : ((n : Int) == (m : Int)) = false := by simp at kn ⊢; omega
        go_wp2_with (first | (go_at_call 13; (with_reducible refine HLS.out.mono ?_); rintro e w' ⟨rfl, rfl⟩) | (go_at_call 14; first | ((with_reducible refine HJ1.out.mono ?_); rintro e w' ⟨rfl, rfl⟩) | ((with_reducible refine HJ2.out.mono ?_); rintro e w' ⟨rfl, rfl⟩)))
        go_meet
        exact ⟨congrArg Value.bool (by rw [HD.out]; simp [kn']), rfl⟩
    obtain ⟨b50, hb50⟩ : ∃ b : Bool, (!redOk J xs rs fr te) = b := ⟨_, rfl⟩
    rw [hb50] at hcut
    obtain ⟨rfl, hwc⟩ := hcut
    rw [hwc]
    clear hwc
    cases b50
    rotate_left
    · have hred : redOk J xs rs fr te = false := by simpa using hb50
      clear hb50
      have HV := Lib.hid (redR_2 HOK.out hred)
      clear hred
      go_wp2
      go_ret3
      exact ⟨ret_i3 HV.out, B1⟩
    · have hred : redOk J xs rs fr te = true := by simpa using hb50
      clear hb50
      have HRT := Lib.hid (redOk_t hred)
      have HV := Lib.hid (redR_3 HOK.out hred)
      have HEK := Lib.hid (edgL_ok HOK.out HRT.out.1)
      have hnm : n = m := by have := (lstOk_t HRT.out.1).1; rw [HLm.out, HLn.out] at this; omega
      have HEL : Hid ((edgL xs rs).length = m) := show _ = _ by rw [edgL_len (by rw [HLm.out, HLn.out, hnm]), HLm.out]
      have R1 := (hm.below B1).more B1.size
      have R2 := (hr.below B1).more B1.size
      subst hnm
      clear hred HD HRL HJ1 HJ2 HLS hm hr
      go_wp2
      go_loopw [11, 12] (fun o i wr => ∃ (k : Nat) (A' : Option Addr) (c' : Nat), k ≤ n ∧ o = .slice A' k c' ∧ i = .int .i64 k ∧ Hid (wr.ownsRow w1.heap.size 46 3 (.slice A' k c') k (Edg.recs ((edgL xs rs).take k))) ∧ Below w1.heap.size w1 wr) (fun _ i _ => n - (intOf i).toNat)
      case atStart => exact ⟨0, _, 0, by omega, rfl, rfl, own_empty _ _ _, (Below.refl _ _).alloc (Nat.le_refl _) _⟩
      case round =>
        obtain ⟨k, A', c', hk, rfl, rfl, HO', hbr⟩ := hrel
        obtain ⟨wo, rfl⟩ : ∃ wo : World, wo = wr := ⟨_, rfl⟩
        have g1o : wo.cell? ⟨w.heap.size, 1, none⟩ = some (.slice M n d) := (hbr.cell (p := ⟨w.heap.size, 1, none⟩) z1).trans g1_1
        have hsz := hbr.size
        by_cases hlt : k < n
        · obtain ⟨ad, x, rfl, had, hx, hc⟩ := (R1.below hbr).rec_at Awy.clen (by omega) hlt
          obtain ⟨r, hrr⟩ : ∃ r, rs[k]? = some r := ⟨_, List.getElem?_eq_getElem (by rw [HLn.out]; exact hlt)⟩
          obtain ⟨ar, rfl, har, hnr, hcr⟩ := (R2.below hbr).int_at hrr
          obtain ⟨a0, a1, a2, a3, a4, a5, a6⟩ := Awy.open_ hc
          have HS := Lib.hid (edgL_at hx hrr)
          have hkI : (k : Int) < (n : Int) := by omega
          have bx1 : (⟨(ad.add (k * 7)).block, (ad.add (k * 7)).off + 1, none⟩ : Addr).block < w1.heap.size := by show (ad.add (k * 7)).block < _; rw [block_of_add]; exact had
          have bx2 : (⟨(ad.add (k * 7)).block, (ad.add (k * 7)).off + 2, none⟩ : Addr).block < w1.heap.size := by show (ad.add (k * 7)).block < _; rw [block_of_add]; exact had
          have bra : (ar.add k).block < w1.heap.size := by rw [block_of_add]; exact har
          have hdr : Below w1.heap.size w1 ((wo.drew).alloc (.cells #[.int .i64 x.a, .int .i64 x.b, .int .i64 r] 46)) := (below_drew hbr).alloc (by show _ ≤ wo.heap.size; omega) _
          have HDR := Lib.hid hdr
          have HG : Hid (∀ {w6 : World} (p : Addr), ((wo.drew).alloc (.cells #[.int .i64 x.a, .int .i64 x.b, .int .i64 r] 46)).grownBy w6 (Value.ownBlock (.slice A' k c')) → p.block < w1.heap.size → w6.cell? p = wo.cell? p) := fun p hgrow hp => by
            have h1 := ((below_drew (Below.refl w1.heap.size wo)).alloc hsz (.cells #[.int .i64 x.a, .int .i64 x.b, .int .i64 r] 46)).grown hgrow (by simp; omega) fun q hq => (((HO'.out.drew).alloc (.cells #[.int .i64 x.a, .int .i64 x.b, .int .i64 r] 46)).lt q hq).1
            exact h1.cell hp
          clear hx hc hrr hdr a0 a3 a4 a5 a6
          go_wp2
          go_region_held3 (fun w' => w'.cell? ⟨w.heap.size, 1, none⟩ = some (.slice (some ad) n d) ∧ w'.cell? ⟨(ad.add (k * 7)).block, (ad.add (k * 7)).off + 1, none⟩ = some (.int .i64 x.a) ∧ w'.cell? ⟨(ad.add (k * 7)).block, (ad.add (k * 7)).off + 2, none⟩ = some (.int .i64 x.b) ∧ w'.cell? (ar.add k) = some (.int .i64 r))
            (first | go_keep | (exact ⟨(HG.out (⟨w.heap.size, 1, none⟩) hgrow z1).trans g1o, (HG.out (⟨(ad.add (k * 7)).block, (ad.add (k * 7)).off + 1, none⟩) hgrow bx1).trans a1, (HG.out (⟨(ad.add (k * 7)).block, (ad.add (k * 7)).off + 2, none⟩) hgrow bx2).trans a2, (HG.out _ hgrow bra).trans hcr⟩))
            ((first | (refine step_append_lies _ (by rfl) _ _ _ (by rfl) w1.heap.size 46 i0 _ 3 24 Try.underlying42 hi0 hz0 hz1 hz2 rfl (by omega) (.slice A' k c') k (Edg.recs ((edgL xs rs).take k)) (by rfl) ((HO'.out.drew).alloc _) ⟨wo.heap.size, 0, none⟩ 1 1 [.int .i64 x.a, .int .i64 x.b, .int .i64 r] (by rfl) (by rfl) (World.news_of_block (cs := #[.int .i64 x.a, .int .i64 x.b, .int .i64 r]) (t := 46) (fr := (0, 0)) (heap_alloc_new wo.drew _)) (by simp [Value.oneCell']) (by omega) (by unfold maxLen; omega) (by omega) (by simp; omega) (wo.heap.size + 1) (by simp) ?_; intro gg cap w6 ho6 hgrow hat hlt6)))
          have hb6 : Below w1.heap.size w1 w6 := HDR.out.grown hgrow (by simp; omega) fun q hq => (((HO'.out.drew).alloc (.cells #[.int .i64 x.a, .int .i64 x.b, .int .i64 r] 46)).lt q hq).1
          have HO6 : Hid (w6.ownsRow w1.heap.size 46 3 (.slice (some ⟨gg, 0, none⟩) (k + 1) cap) (k + 1) (Edg.recs ((edgL xs rs).take k ++ [⟨x.a, x.b, r⟩]))) := show World.ownsRow _ _ _ _ _ _ _ by rw [← recs_snoc]; exact ho6
          clear ho6 hgrow hat
          go_wp2
          go_roundw
          case rel => exact ⟨k + 1, _, _, by omega, by first | rfl | go_num, by go_num, by rw [HS.out]; exact HO6.out, hb6⟩
          case measure => simp [intOf]; omega
        · have e : k = n := by omega
          subst e
          have HT : Hid ((edgL xs rs).take k = edgL xs rs) := List.take_of_length_le (by rw [HEL.out]; exact Nat.le_refl _)
          rw [HT.out] at HO'
          have HB2 := Lib.hid hbr
          clear hbr hsz
          go_wp2
          clear g1o
          go_loopw [11, 13] (fun o s wr => ∃ (es : List Edg) (n' : Nat) (A' : Option Addr) (c' st : Nat), n' + st = k ∧ o = .slice A' n' c' ∧ s = .int .i64 st ∧ Hid (wr.ownsRow w1.heap.size 46 3 (.slice A' n' c') n' (Edg.recs es)) ∧ Hid (EsOk es) ∧ Hid (RThen fr te J (edgL xs rs) es st) ∧ Below w1.heap.size w1 wr) (fun _ s _ => k + 1 - (intOf s).toNat)
          case atStart => exact ⟨edgL xs rs, k, _, _, 0, by omega, rfl, rfl, HO'.out, HEK.out, rthen_0 _ _ _ _, HB2.out⟩
          case round =>
            clear HO' HB2 HT
            obtain ⟨es, n', A', c', st, hns, rfl, rfl, HO', HK, HR, hbr⟩ := hrel
            obtain ⟨wo, rfl⟩ : ∃ wo : World, wo = wr := ⟨_, rfl⟩
            have hsz := hbr.size
            have g0o : wo.cell? ⟨w.heap.size, 0, none⟩ = some (.int .i64 J) := (hbr.cell (p := ⟨w.heap.size, 0, none⟩) z1).trans g0_1
            have hel : es.length = n' := by have := HO'.out.1; rw [recs_len Edg.clen] at this; omega
            have HL := Lib.hid hel
            have HSP := Lib.hid (l08Step_any w1.heap.size fr te J A' n' c' es wo HO'.out HK.out (by omega))
            have HBr := Lib.hid hbr
            have Bo := B1.trans (hbr.mono B1.size)
            clear hel hbr
            go_wp2_with fail; ((with_reducible refine HSP.out.mono ?_); rintro e w3 (⟨hst, rfl, hb3⟩ | ⟨es', b, A3, n3, c3, hs, rfl, ho3, hb3⟩))
            · have HFN := Lib.hid (rthen_stop HR.out hst)
              have HO3 := Lib.hid (own_below HO'.out hb3)
              have B3 := Bo.trans (hb3.mono Bo.size)
              obtain ⟨⟨fr1, fr2⟩, ⟨te1, te2⟩, hft⟩ := HRT.out.2
              clear hst hb3
              by_cases hn1 : n' = 1
              · subst hn1
                obtain ⟨ge, cap, hv, hgb, hgl⟩ := HO3.out.form (by omega)
                injection hv with hA _ hcc
                subst hA
                subst hcc
                obtain ⟨y, HY, hym, f0, f1, f2⟩ := edge_cells HO3.out (show 0 < 1 by omega)
                have hyo := HK.out.1 y hym
                unfold Edg.ok at hyo
                have HF1 := Lib.hid (fin_one (fr := fr) (te := te) (es := es) (st := st) HL.out)
                have w1' : IntKind.i64.wrap (y.a + y.b) = y.a + y.b := IntWalk.i64_in _ (by omega)
                have w2' : IntKind.i64.wrap (fr + te) = fr + te := IntWalk.i64_in _ (by omega)
                rw [Nat.zero_mul] at f0 f1 f2
                clear hym
                cases q1 : (y.a + y.b != fr + te)
                · have e1 : y.a + y.b = fr + te := by simpa using q1
                  cases q2 : (y.a != fr)
                  · have e2 : y.a = fr := by simpa using q2
                    have HX : Hid (redFin fr te es st = (y.r, (st : Int), 0)) := show _ = _ by
                      rw [HF1.out, HY.out, if_pos (by have e3 : y.b = te := by omega
                                                      unfold jn; simp [e2, e3])]
                    clear e1 e2
                    go_wp2
                    go_quiet (fail)
                    go_wp2
                    go_ret3
                    exact ⟨ret_i3 (HV.out.trans (HFN.out.trans HX.out)), below_drewN B3 _⟩
                  · have e2 : y.a ≠ fr := by simpa using q2
                    cases q3 : (y.a != te)
                    · have e3 : y.a = te := by simpa using q3
                      have HX : Hid (redFin fr te es st = (y.r, (st : Int), 0)) := show _ = _ by
                        rw [HF1.out, HY.out, if_pos (by have e4 : y.b = fr := by omega
                                                        unfold jn; simp [e3, e4])]
                      clear e1 e2 e3
                      go_wp2
                      go_quiet (fail)
                      go_wp2
                      go_ret3
                      exact ⟨ret_i3 (HV.out.trans (HFN.out.trans HX.out)), below_drewN B3 _⟩
                    · have e3 : y.a ≠ te := by simpa using q3
                      have HX : Hid (redFin fr te es st = (0, 0, 6)) := show _ = _ by
                        rw [HF1.out, if_neg (by rw [HY.out]; unfold jn; simp; omega)]
                      clear e1 e2 e3
                      go_wp2
                      go_quiet (fail)
                      go_wp2
                      go_ret3
                      exact ⟨ret_i3 (HV.out.trans (HFN.out.trans HX.out)), below_drewN B3 _⟩
                · have e1 : y.a + y.b ≠ fr + te := by simpa using q1
                  have HX : Hid (redFin fr te es st = (0, 0, 6)) := show _ = _ by
                    rw [HF1.out, if_neg (by rw [HY.out]; unfold jn; simp; omega)]
                  clear e1
                  go_wp2
                  go_quiet (fail)
                  go_wp2
                  go_ret3
                  exact ⟨ret_i3 (HV.out.trans (HFN.out.trans HX.out)), below_drewN B3 _⟩
              · have HX := Lib.hid (fin_no (fr := fr) (te := te) (es := es) (st := st) (by rw [HL.out]; exact hn1))
                have hnI : ((n' : Int) != 1) = true := by simp; omega
                clear hn1
                go_wp2
                go_quiet (fail)
                go_wp2
                go_ret3
                exact ⟨ret_i3 (HV.out.trans (HFN.out.trans HX.out)), below_drewN B3 _⟩
            · have HST := Lib.hid hs
              have HO3 := Lib.hid ho3
              have HL3 : Hid (es'.length = n3) := show _ = _ by have := ho3.1; rw [recs_len Edg.clen] at this; omega
              have hn3 : n3 + 1 = n' := by have := step_len hs; rw [HL3.out, HL.out] at this; exact this
              have HF := Lib.hid (step_full hs HK.out)
              have hb3' := HBr.out.trans (hb3.mono hsz)
              clear hs ho3 hb3
              go_wp2
              go_loop [16] (fun i => ∃ q : Nat, q ≤ n3 ∧ i = .int .i64 q ∧ Hid (((es'.take q).any fun e => decide (1000000 < e.r)) = false)) (fun i => n3 - (intOf i).toNat)
              case atStart => exact ⟨0, by omega, rfl, rfl⟩
              case round =>
                obtain ⟨q, hq, rfl, HA⟩ := hrel
                by_cases hlt3 : q < n3
                · obtain ⟨ge, cap, hv, hgb, hgl⟩ := HO3.out.form (by omega)
                  injection hv with hA _ hcc
                  subst hA
                  subst hcc
                  obtain ⟨y, HY, hym, f0, f1, f2⟩ := edge_cells HO3.out hlt3
                  have hqI : (q : Int) < (n3 : Int) := by omega
                  cases hy : decide ((1000000 : Int) < y.r)
                  · have hyI : ¬ (1000000 : Int) < y.r := by simpa using hy
                    have HA' : Hid (((es'.take (q + 1)).any fun e => decide (1000000 < e.r)) = false) := show _ = _ by
                      have hx : es'[q]? = some y := by
                        have h1 : q < es'.length := by rw [HL3.out]; exact hlt3
                        rw [List.getElem?_eq_getElem h1, ← HY.out, List.getD_eq_getElem?_getD, List.getElem?_eq_getElem h1]; rfl
                      rw [List.take_add_one, List.any_append, HA.out, hx]
                      simp [hy]
                    clear hym hy
                    go_wp2
                    go_round
                    case rel => exact ⟨q + 1, by omega, by go_num, HA'⟩
                    case measure => simp [intOf]; omega
                  · have hyI : (1000000 : Int) < y.r := by simpa using hy
                    have hbt : b = true := by rw [← HF.out, List.any_eq_true]; exact ⟨y, hym, hy⟩
                    rw [hbt] at HST
                    have HX := Lib.hid (rthen_full HR.out HST.out)
                    clear hym hy hbt
                    go_wp2
                    go_ret3
                    exact ⟨ret_i3 (HV.out.trans HX.out), B1.trans (hb3'.mono B1.size)⟩
                · have e : q = n3 := by omega
                  subst e
                  have hbf : b = false := by
                    rw [← HF.out]
                    have h := HA.out
                    rwa [List.take_of_length_le (by rw [HL3.out]; exact Nat.le_refl _)] at h
                  rw [hbf] at HST
                  have HK' := Lib.hid (step_ok HST.out HK.out)
                  have HR' : Hid (RThen fr te J (edgL xs rs) es' ((st + 1 : Nat) : Int)) := show RThen _ _ _ _ _ _ by
                    have h := rthen_s HR.out HST.out
                    rwa [show (st : Int) + 1 = ((st + 1 : Nat) : Int) by omega] at h
                  have HO4 := Lib.hid (own_base HO3.out hsz)
                  clear hbf
                  go_wp2
                  go_roundw
                  case rel => exact ⟨es', q, _, _, st + 1, by omega, rfl, by go_num, HO4.out, HK'.out, HR'.out, hb3'⟩
                  case measure => simp [intOf]; omega
end Go.Proofs.Ytnfallanjndbcaa
