/- Contracts of the draughts of all airways, and of the test of levels and temperatures. -/
import Derived.Test.YtjmhhbjbmgpagaaLev
import Derived.Test.YtjmhhbjbmgpagaaAir
import Derived.Deep.AppendLies
import Derived.Deep.RegionHeld3
namespace Go.Proofs.Ytjmhhbjbmgpagaa
set_option linter.unusedVariables false
set_option linter.unusedSimpArgs false
open Go.RowKit
def askR (J : Int) (xs : List Awy) (ls ts : List Int) : Int :=
  if mineOk J xs = true then (if (lstOk J (-3000) 3000 ls && lstOk xs.length (-300) 600 ts) = true then 0 else 7) else 1
theorem askR_0 {J : Int} {xs : List Awy} {ls ts : List Int} (h : mineOk J xs = true) (h1 : lstOk J (-3000) 3000 ls = true) (h2 : lstOk xs.length (-300) 600 ts = true) : askR J xs ls ts = 0 := by unfold askR; rw [h, h1, h2]; rfl
theorem askR_7 {J : Int} {xs : List Awy} {ls ts : List Int} (h : mineOk J xs = true) (h1 : (lstOk J (-3000) 3000 ls && lstOk xs.length (-300) 600 ts) = false) : askR J xs ls ts = 7 := by unfold askR; rw [h, h1]; rfl
theorem askR_1 {J : Int} {xs : List Awy} {ls ts : List Int} (h : mineOk J xs = false) : askR J xs ls ts = 1 := by unfold askR; rw [h]; rfl
theorem askR_cases (J : Int) (xs : List Awy) (ls ts : List Int) : (askR J xs ls ts = 0 ∧ mineOk J xs = true ∧ lstOk J (-3000) 3000 ls = true ∧ lstOk xs.length (-300) 600 ts = true) ∨ askR J xs ls ts = 7 ∨ askR J xs ls ts = 1 := by
  rcases Bool.eq_false_or_eq_true (mineOk J xs) with h | h
  · rcases Bool.eq_false_or_eq_true (lstOk J (-3000) 3000 ls && lstOk xs.length (-300) 600 ts) with h1 | h1
    · have h2 := h1
      rw [Bool.and_eq_true] at h2
      exact .inl ⟨askR_0 h h2.1 h2.2, h, h2.1, h2.2⟩
    · exact .inr (.inl (askR_7 h h1))
  · exact .inr (.inr (askR_1 h))
def drAt (xs : List Awy) (ls ts : List Int) (k : Nat) : Int :=
  match xs[k]? with
  | some x => columnT (ls.getD x.b.toNat 0 - ls.getD x.a.toNat 0) (ts.getD k 0)
  | none => 0
def drTo (xs : List Awy) (ls ts : List Int) (k : Nat) : List Int := (List.range k).map (drAt xs ls ts)
theorem drTo_snoc {xs : List Awy} {ls ts : List Int} {k ta tb : Nat} {x : Awy} {la lb t : Int} (h : xs[k]? = some x) (hb : x.b = (tb : Int)) (ha : x.a = (ta : Int)) (eb : ls[tb]? = some lb) (ea : ls[ta]? = some la) (et : ts[k]? = some t) : drTo xs ls ts (k + 1) = drTo xs ls ts k ++ [columnT (lb - la) t] := by
  have e : drAt xs ls ts k = columnT (lb - la) t := by
    unfold drAt
    rw [h]
    show columnT (ls.getD x.b.toNat 0 - ls.getD x.a.toNat 0) (ts.getD k 0) = _
    rw [hb, ha, Int.toNat_natCast, Int.toNat_natCast, List.getD_eq_getElem?_getD, List.getD_eq_getElem?_getD, List.getD_eq_getElem?_getD, eb, ea, et]; rfl
  unfold drTo
  rw [List.range_succ, List.map_append, List.map_singleton, e]
theorem drTo_len (xs : List Awy) (ls ts : List Int) (k : Nat) : (drTo xs ls ts k).length = k := by unfold drTo; simp
def drsR (J : Int) (xs : List Awy) (ls ts : List Int) : List Int × Int := if askR J xs ls ts = 0 then (drTo xs ls ts xs.length, 0) else ([], askR J xs ls ts)
set_option maxHeartbeats 800000 in
theorem l09Ask_any (J : Int) (M : Option Addr) (m d : Nat) (xs : List Awy) (A1 : Option Addr) (n1 c1 : Nat) (ls : List Int) (A2 : Option Addr) (n2 c2 : Nat) (ts : List Int) (p : Addr) (w : World) (hm : Reads w w.heap.size 7 M m (Awy.recs xs)) (hmn : m ≤ 1048576) (hxs : ∀ x ∈ xs, x.s.size ≤ maxLen)
    (hr1 : Reads w w.heap.size 1 A1 n1 (ints ls)) (hn1 : n1 ≤ 1048576) (hr2 : Reads w w.heap.size 1 A2 n2 (ints ts)) (hn2 : n2 ≤ 1048576) (hcp : Cells w p [.int .i64 J, .slice M m d]) :
    Calls Try.prog 37 #[.pointer (some p), .slice A1 n1 c1, .slice A2 n2 c2] w fun e w' => e = .returned (.int .i64 (askR J xs ls ts)) ∧ Below w.heap.size w w' := by
  have HLm := Lib.hid (recs_rlen Awy.clen (by omega) hm)
  have hp0 := hcp.z rfl
  have hp1 := hcp.at_ 0 rfl
  have hpl := block_lt_of_cell hp0
  have cc := l04Ok_any J M m d xs p w hm hmn hxs hcp
  have HXX := Lib.hid hxs
  clear hxs hcp
  go_enter Try.func37, Try.ntmps37
  go_wp2_with fail; ((with_reducible refine (cc).mono ?_); rintro e w1 ⟨rfl, hb1⟩)
  have g0 : w1.cell? p = some (.int .i64 J) := (hb1.cell hpl).trans hp0
  have g1 : w1.cell? ⟨p.block, p.off + 1, none⟩ = some (.slice M m d) := (hb1.cell (p := ⟨p.block, p.off + 1, none⟩) hpl).trans hp1
  clear cc hp0 hp1
  rcases Bool.eq_false_or_eq_true (mineOk J xs) with hok | hok
  · have HOK := Lib.hid hok
    have cl := l09Levels_any J p A1 n1 c1 ls w1 ((hr1.below hb1).more hb1.size) hn1 g0
    have ct := l09Temps_any m M d p A2 n2 c2 ts w1 ((hr2.below hb1).more hb1.size) hn2 g1
    rcases Bool.eq_false_or_eq_true (lstOk J (-3000) 3000 ls) with hl | hl
    · rcases Bool.eq_false_or_eq_true (lstOk m (-300) 600 ts) with ht | ht
      · have HV := Lib.hid (askR_0 HOK.out hl (by rw [HLm.out]; exact ht))
        rw [hl] at cl
        rw [ht] at ct
        clear hl ht
        go_wp2_with (first | (go_at_call 92; refine cl.mono ?_; rintro e w' ⟨rfl, rfl⟩) | (go_at_call 93; refine ct.mono ?_; rintro e w' ⟨rfl, rfl⟩))
        go_ret
        exact ⟨by rw [HV.out]; rfl, hb1⟩
      · have HV := Lib.hid (askR_7 HOK.out (ls := ls) (ts := ts) (by rw [HLm.out, ht, Bool.and_false]))
        rw [hl] at cl
        rw [ht] at ct
        clear hl ht
        go_wp2_with (first | (go_at_call 92; refine cl.mono ?_; rintro e w' ⟨rfl, rfl⟩) | (go_at_call 93; refine ct.mono ?_; rintro e w' ⟨rfl, rfl⟩))
        go_ret
        exact ⟨by rw [HV.out]; rfl, hb1⟩
    · have HV := Lib.hid (askR_7 HOK.out (ls := ls) (ts := ts) (by rw [hl]; rfl))
      rw [hl] at cl
      clear hl
      go_wp2_with (first | (go_at_call 92; refine cl.mono ?_; rintro e w' ⟨rfl, rfl⟩))
      go_ret
      exact ⟨by rw [HV.out]; rfl, hb1⟩
  · have HV := Lib.hid (askR_1 (ls := ls) (ts := ts) hok)
    go_wp2
    go_ret
    exact ⟨by rw [HV.out]; rfl, hb1⟩
set_option maxHeartbeats 800000 in
theorem columnsCode_any (J : Int) (M : Option Addr) (m d : Nat) (xs : List Awy) (A1 : Option Addr) (n1 c1 : Nat) (ls : List Int) (A2 : Option Addr) (n2 c2 : Nat) (ts : List Int) (by_ : Int) (w : World) (hm : Reads w w.heap.size 7 M m (Awy.recs xs)) (hmn : m ≤ 1048576) (hxs : ∀ x ∈ xs, x.s.size ≤ maxLen)
    (hr1 : Reads w w.heap.size 1 A1 n1 (ints ls)) (hn1 : n1 ≤ 1048576) (hr2 : Reads w w.heap.size 1 A2 n2 (ints ts)) (hn2 : n2 ≤ 1048576) :
    Calls Try.prog 42 #[.agg #[.int .i64 J, .slice M m d], .slice A1 n1 c1, .slice A2 n2 c2, .int .i64 by_] w fun e w' => e = .returned (.int .i64 (askR J xs ls ts)) ∧ Below w.heap.size w w' := by
  have HLm := Lib.hid (recs_rlen Awy.clen (by omega) hm)
  have hb : Below w.heap.size w (w.alloc (.cells #[.int .i64 J, .slice M m d] 31)) := (Below.refl _ _).alloc (Nat.le_refl _) _
  have cc := implValidMine_any J M m d xs _ ((hm.below hb).more hb.size) hmn hxs
  have HXX := Lib.hid hxs
  clear hxs
  go_enter Try.func42, Try.ntmps42
  go_wp2_with fail; ((with_reducible refine (cc).mono ?_); rintro e w1 ⟨rfl, hb1⟩)
  have B1 : Below w.heap.size w w1 := hb.trans (hb1.mono (by simp))
  have z1 : w.heap.size < w1.heap.size := by have h := hb1.size; simp at h; omega
  have g0 : w1.cell? ⟨w.heap.size, 0, none⟩ = some (.int .i64 J) := (hb1.cell (p := ⟨w.heap.size, 0, none⟩) (by simp)).trans (by go_simp)
  have g1 : w1.cell? ⟨w.heap.size, 1, none⟩ = some (.slice M m d) := (hb1.cell (p := ⟨w.heap.size, 1, none⟩) (by simp)).trans (by go_simp)
  clear cc hb hb1
  rcases Bool.eq_false_or_eq_true (mineOk J xs) with hok | hok
  · have HOK := Lib.hid hok
    have cl := hasLevels_any J M m d A1 n1 c1 ls w1 ((hr1.below B1).more B1.size) hn1
    rcases Bool.eq_false_or_eq_true (lstOk J (-3000) 3000 ls) with hl | hl
    · have HL := Lib.hid hl
      rw [hl] at cl
      clear hl
      go_wp2_with fail; ((with_reducible refine (cl).mono ?_); rintro e w2 ⟨rfl, hb2⟩)
      have B2 : Below w.heap.size w w2 := B1.trans (hb2.mono B1.size)
      have g2 : w2.cell? ⟨w.heap.size, 0, none⟩ = some (.int .i64 J) := (hb2.cell (p := ⟨w.heap.size, 0, none⟩) z1).trans g0
      have g3 : w2.cell? ⟨w.heap.size, 1, none⟩ = some (.slice M m d) := (hb2.cell (p := ⟨w.heap.size, 1, none⟩) z1).trans g1
      clear cl g0 g1 hb2
      have ct := hasList_any J M m d A2 n2 c2 (-300) 600 ts w2 ((hr2.below B2).more B2.size) hn2
      rcases Bool.eq_false_or_eq_true (lstOk m (-300) 600 ts) with ht | ht
      · have HV := Lib.hid (askR_0 HOK.out HL.out (by rw [HLm.out]; exact ht))
        rw [ht] at ct
        clear ht
        go_wp2_with fail; ((with_reducible refine (ct).mono ?_); rintro e w3 ⟨rfl, hb3⟩)
        go_wp2
        go_ret
        exact ⟨by rw [HV.out]; rfl, B2.trans (hb3.mono B2.size)⟩
      · have HV := Lib.hid (askR_7 HOK.out (ls := ls) (ts := ts) (by rw [HLm.out, ht, Bool.and_false]))
        rw [ht] at ct
        clear ht
        go_wp2_with fail; ((with_reducible refine (ct).mono ?_); rintro e w3 ⟨rfl, hb3⟩)
        go_wp2
        go_ret
        exact ⟨by rw [HV.out]; rfl, B2.trans (hb3.mono B2.size)⟩
    · have HV := Lib.hid (askR_7 HOK.out (ls := ls) (ts := ts) (by rw [hl]; rfl))
      rw [hl] at cl
      clear hl
      go_wp2_with fail; ((with_reducible refine (cl).mono ?_); rintro e w2 ⟨rfl, hb2⟩)
      go_wp2
      go_ret
      exact ⟨by rw [HV.out]; rfl, B1.trans (hb2.mono B1.size)⟩
  · have HV := Lib.hid (askR_1 (ls := ls) (ts := ts) hok)
    go_wp2
    go_ret
    exact ⟨by rw [HV.out]; rfl, B1⟩
set_option maxHeartbeats 1600000 in
set_option maxRecDepth 100000 in
theorem l09Draughts_any (J : Int) (M : Option Addr) (m d : Nat) (xs : List Awy) (A1 : Option Addr) (n1 c1 : Nat) (ls : List Int) (A2 : Option Addr) (n2 c2 : Nat) (ts : List Int) (p : Addr) (w : World) (hm : Reads w w.heap.size 7 M m (Awy.recs xs))
    (hr1 : Reads w w.heap.size 1 A1 n1 (ints ls)) (hr2 : Reads w w.heap.size 1 A2 n2 (ints ts)) (hp1 : w.cell? ⟨p.block, p.off + 1, none⟩ = some (.slice M m d)) (hok : mineOk J xs = true) (hl : lstOk J (-3000) 3000 ls = true) (ht : lstOk xs.length (-300) 600 ts = true) :
    Calls Try.prog 40 #[.pointer (some p), .slice A1 n1 c1, .slice A2 n2 c2] w fun e w' => ∃ A' c', e = .returned (.slice A' m c') ∧ w'.ownsRow w.heap.size 2 1 (.slice A' m c') m (ints (drTo xs ls ts m)) ∧ m ≤ 24 ∧ Below w.heap.size w w' := by
  obtain ⟨i0, hi0, hz0, hz1, hz2⟩ := info_parts info_Int64S
  have HLm := Lib.hid (recs_rlen Awy.clen (by omega) hm)
  have HO := Lib.hid (mineOk_t hok)
  have HL := Lib.hid hl
  have HT := Lib.hid ht
  have hm24 : m ≤ 24 := by have := HO.out.2.1; rw [HLm.out] at this; exact this
  have hpl : p.block < w.heap.size := block_lt_of_cell (a := ⟨p.block, p.off + 1, none⟩) hp1
  clear hok hl ht
  go_enter Try.func40, Try.ntmps40
  go_wp2
  go_loopw [7, 8] (fun o i wr => ∃ (k : Nat) (A' : Option Addr) (c' : Nat), k ≤ m ∧ o = .slice A' k c' ∧ i = .int .i64 k ∧ wr.ownsRow w.heap.size 2 1 (.slice A' k c') k (ints (drTo xs ls ts k)) ∧ Below w.heap.size w wr) (fun _ i _ => m - (intOf i).toNat)
  case atStart => exact ⟨0, _, 0, by omega, rfl, rfl, own_empty _ _ _, (Below.refl _ _).alloc (Nat.le_refl _) _⟩
  case round =>
    obtain ⟨k, A', c', hk, rfl, rfl, hown, hbr⟩ := hrel
    obtain ⟨wo, rfl⟩ : ∃ wo : World, wo = wr := ⟨_, rfl⟩
    have g1 : wo.cell? ⟨p.block, p.off + 1, none⟩ = some (.slice M m d) := (hbr.cell (p := ⟨p.block, p.off + 1, none⟩) hpl).trans hp1
    by_cases hlt : k < m
    · obtain ⟨ad, x, rfl, had, hx, hc⟩ := (hm.below hbr).rec_at Awy.clen (by omega) hlt
      obtain ⟨ho, ⟨xa1, xa2⟩, ⟨xb1, xb2⟩⟩ := HO.out.2.2 x (List.mem_of_getElem? hx)
      obtain ⟨ta, hta⟩ : ∃ t : Nat, x.a = t := ⟨x.a.toNat, by omega⟩
      obtain ⟨tb, htb⟩ : ∃ t : Nat, x.b = t := ⟨x.b.toNat, by omega⟩
      obtain ⟨la, hla, la1, la2⟩ := lst_at HL.out (k := ta) (by omega)
      obtain ⟨lb, hlb, lb1, lb2⟩ := lst_at HL.out (k := tb) (by omega)
      obtain ⟨t, htt, t1, t2⟩ := lst_at HT.out (k := k) (by rw [HLm.out]; omega)
      obtain ⟨af, rfl, haf, hna, hca⟩ := (hr1.below hbr).int_at hla
      obtain ⟨af', e1, _, hnb, hcb⟩ := (hr1.below hbr).int_at hlb
      injection e1 with e1
      subst e1
      obtain ⟨at_, rfl, hat0, hnt, hct⟩ := (hr2.below hbr).int_at htt
      have HS := Lib.hid (drTo_snoc hx htb hta hlb hla htt)
      obtain ⟨a0, a1, a2, a3, a4, a5, a6⟩ := Awy.open_ hc
      rw [hta] at a1
      rw [htb] at a2
      have hna' : (ta : Int) < (n1 : Int) := by omega
      have hnb' : (tb : Int) < (n1 : Int) := by omega
      have hnt' : (k : Int) < (n2 : Int) := by omega
      have hwd : IntKind.i64.wrap (lb - la) = lb - la := IntWalk.i64_in _ (by omega)
      have HC := Lib.hid (fun W : World => l09Column_any (lb - la) t W (by unfold inB; exact decide_eq_true (by omega)) (by unfold inB; exact decide_eq_true (by omega)))
      have hsz := hbr.size
      have bx2 : (⟨(ad.add (k * 7)).block, (ad.add (k * 7)).off + 2, none⟩ : Addr).block < w.heap.size := by show (ad.add (k * 7)).block < _; rw [block_of_add]; exact had
      have bx1 : (⟨(ad.add (k * 7)).block, (ad.add (k * 7)).off + 1, none⟩ : Addr).block < w.heap.size := by show (ad.add (k * 7)).block < _; rw [block_of_add]; exact had
      have bfb : (af.add tb).block < w.heap.size := by rw [block_of_add]; exact haf
      have bfa : (af.add ta).block < w.heap.size := by rw [block_of_add]; exact haf
      have bta : (at_.add k).block < w.heap.size := by rw [block_of_add]; exact hat0
      have HG : Hid (∀ {w6 : World} (p : Addr), ((wo.drew).alloc (.cells #[.int .i64 (columnT (lb - la) t)] 2)).grownBy w6 (Value.ownBlock (.slice A' k c')) → p.block < w.heap.size → w6.cell? p = wo.cell? p) := fun p hgrow hp => by
        have h1 := ((below_drew (Below.refl w.heap.size wo)).alloc hsz (.cells #[.int .i64 (columnT (lb - la) t)] 2)).grown hgrow (by simp; omega) fun q hq => (((hown.drew).alloc (.cells #[.int .i64 (columnT (lb - la) t)] 2)).lt q hq).1
        exact h1.cell hp
      clear hx hc hta htb hla hlb ho htt
      go_wp2
      go_region_held3 (fun w' => w'.cell? ⟨(ad.add (k * 7)).block, (ad.add (k * 7)).off + 2, none⟩ = some (.int .i64 tb) ∧ w'.cell? ⟨(ad.add (k * 7)).block, (ad.add (k * 7)).off + 1, none⟩ = some (.int .i64 ta) ∧ w'.cell? (af.add tb) = some (.int .i64 lb) ∧ w'.cell? (af.add ta) = some (.int .i64 la) ∧ w'.cell? (at_.add k) = some (.int .i64 t))
        (first | go_keep | (exact ⟨(HG.out (⟨(ad.add (k * 7)).block, (ad.add (k * 7)).off + 2, none⟩) hgrow bx2).trans a2, (HG.out (⟨(ad.add (k * 7)).block, (ad.add (k * 7)).off + 1, none⟩) hgrow bx1).trans a1, (HG.out _ hgrow bfb).trans hcb, (HG.out _ hgrow bfa).trans hca, (HG.out _ hgrow bta).trans hct⟩))
        ((first | (refine step_append_lies _ (by rfl) _ _ _ (by rfl) w.heap.size 2 i0 _ 1 8 Try.underlying25 hi0 hz0 hz1 hz2 rfl (by omega) (.slice A' k c') k (ints (drTo xs ls ts k)) (by rfl) ((hown.drew).alloc _) ⟨wo.heap.size, 0, none⟩ 1 1 [.int .i64 (columnT (lb - la) t)] (by rfl) (by rfl) (World.news_of_block (cs := #[.int .i64 (columnT (lb - la) t)]) (t := 2) (fr := (0, 0)) (heap_alloc_new wo.drew _)) (by simp [Value.oneCell']) (by omega) (by unfold maxLen; omega) (by omega) (by simp; omega) (wo.heap.size + 1) (by simp) ?_; intro gg cap w6 ho6 hgrow hat hlt6) | (go_simp; go_at_call 94; refine (HC.out _).mono ?_; rintro e w' ⟨rfl, rfl⟩)))
      have hdr := (below_drew hbr).alloc (by show _ ≤ wo.heap.size; omega) (.cells #[.int .i64 (columnT (lb - la) t)] 2)
      have hb6 : Below w.heap.size w w6 := hdr.grown hgrow (by simp; omega) fun q hq => (((hown.drew).alloc (.cells #[.int .i64 (columnT (lb - la) t)] 2)).lt q hq).1
      go_wp2
      go_roundw
      case rel => exact ⟨k + 1, _, _, by omega, by first | rfl | go_num, by go_num, by rw [HS.out]; simpa [ints] using ho6, hb6⟩
      case measure => simp [intOf]; omega
    · have e : k = m := by omega
      subst e
      go_wp2
      go_ret
      exact ⟨A', c', rfl, hown, hm24, hbr⟩
set_option maxHeartbeats 1600000 in
set_option maxRecDepth 100000 in
theorem draughts_any (J : Int) (M : Option Addr) (m d : Nat) (xs : List Awy) (A1 : Option Addr) (n1 c1 : Nat) (ls : List Int) (A2 : Option Addr) (n2 c2 : Nat) (ts : List Int) (w : World) (hm0 : Reads w w.heap.size 7 M m (Awy.recs xs))
    (hr10 : Reads w w.heap.size 1 A1 n1 (ints ls)) (hr20 : Reads w w.heap.size 1 A2 n2 (ints ts)) (hok : mineOk J xs = true) (hl : lstOk J (-3000) 3000 ls = true) (ht : lstOk xs.length (-300) 600 ts = true) :
    Calls Try.prog 45 #[.agg #[.int .i64 J, .slice M m d], .slice A1 n1 c1, .slice A2 n2 c2] w fun e w' => ∃ A' c', e = .returned (.slice A' m c') ∧ w'.ownsRow w.heap.size 2 1 (.slice A' m c') m (ints (drTo xs ls ts m)) ∧ m ≤ 24 ∧ Below w.heap.size w w' := by
  obtain ⟨i0, hi0, hz0, hz1, hz2⟩ := info_parts info_Int64S
  have HLm := Lib.hid (recs_rlen Awy.clen (by omega) hm0)
  have HO := Lib.hid (mineOk_t hok)
  have HL := Lib.hid hl
  have HT := Lib.hid ht
  have hm24 : m ≤ 24 := by have := HO.out.2.1; rw [HLm.out] at this; exact this
  have hb0 : Below w.heap.size w (w.alloc (.cells #[.int .i64 J, .slice M m d] 31)) := (Below.refl _ _).alloc (Nat.le_refl _) _
  have hm : Reads (w.alloc (.cells #[.int .i64 J, .slice M m d] 31)) (w.heap.size + 1) 7 M m (Awy.recs xs) := (hm0.below hb0).more (by omega)
  have hr1 : Reads (w.alloc (.cells #[.int .i64 J, .slice M m d] 31)) (w.heap.size + 1) 1 A1 n1 (ints ls) := (hr10.below hb0).more (by omega)
  have hr2 : Reads (w.alloc (.cells #[.int .i64 J, .slice M m d] 31)) (w.heap.size + 1) 1 A2 n2 (ints ts) := (hr20.below hb0).more (by omega)
  clear hok hl ht
  go_enter Try.func45, Try.ntmps45
  go_wp2
  go_loopw [7, 13] (fun o i wr => ∃ (k : Nat) (A' : Option Addr) (c' : Nat), k ≤ m ∧ o = .slice A' k c' ∧ i = .int .i64 k ∧ wr.ownsRow (w.heap.size + 1) 2 1 (.slice A' k c') k (ints (drTo xs ls ts k)) ∧ Below (w.heap.size + 1) (w.alloc (.cells #[.int .i64 J, .slice M m d] 31)) wr) (fun _ i _ => m - (intOf i).toNat)
  case atStart => exact ⟨0, none, 0, by omega, rfl, rfl, own_nil _ _ _ _, Below.refl _ _⟩
  case round =>
    obtain ⟨k, A', c', hk, rfl, rfl, hown, hbr⟩ := hrel
    obtain ⟨wo, rfl⟩ : ∃ wo : World, wo = wr := ⟨_, rfl⟩
    have zo : w.heap.size + 1 ≤ wo.heap.size := by have h := hbr.size; simp at h; omega
    by_cases hlt : k < m
    · obtain ⟨ad, x, rfl, had, hx, hc⟩ := (hm.below hbr).rec_at Awy.clen (by omega) hlt
      obtain ⟨ho, ⟨xa1, xa2⟩, ⟨xb1, xb2⟩⟩ := HO.out.2.2 x (List.mem_of_getElem? hx)
      obtain ⟨ta, hta⟩ : ∃ t : Nat, x.a = t := ⟨x.a.toNat, by omega⟩
      obtain ⟨tb, htb⟩ : ∃ t : Nat, x.b = t := ⟨x.b.toNat, by omega⟩
      obtain ⟨la, hla, la1, la2⟩ := lst_at HL.out (k := ta) (by omega)
      obtain ⟨lb, hlb, lb1, lb2⟩ := lst_at HL.out (k := tb) (by omega)
      obtain ⟨t, htt, t1, t2⟩ := lst_at HT.out (k := k) (by rw [HLm.out]; omega)
      obtain ⟨af, rfl, haf, hna, hca⟩ := (hr1.below hbr).int_at hla
      obtain ⟨af', e1, _, hnb, hcb⟩ := (hr1.below hbr).int_at hlb
      injection e1 with e1
      subst e1
      obtain ⟨at_, rfl, hat0, hnt, hct⟩ := (hr2.below hbr).int_at htt
      have HS := Lib.hid (drTo_snoc hx htb hta hlb hla htt)
      obtain ⟨a0, a1, a2, a3, a4, a5, a6⟩ := Awy.open_ hc
      rw [hta] at a1
      rw [htb] at a2
      have hna' : (ta : Int) < (n1 : Int) := by omega
      have hnb' : (tb : Int) < (n1 : Int) := by omega
      have hnt' : (k : Int) < (n2 : Int) := by omega
      have hwd : IntKind.i64.wrap (lb - la) = lb - la := IntWalk.i64_in _ (by omega)
      have F1 : (wo.alloc (.cells #[.string x.s, .int .i64 ta, .int .i64 tb, .int .i64 x.l, .int .i64 x.c, .int .i64 x.f, .int .i64 x.h] 99)).cell? ⟨wo.heap.size, 1, none⟩ = some (.int .i64 ta) := ((Blk.new wo _ _).cell 1).trans rfl
      have F2 : (wo.alloc (.cells #[.string x.s, .int .i64 ta, .int .i64 tb, .int .i64 x.l, .int .i64 x.c, .int .i64 x.f, .int .i64 x.h] 99)).cell? ⟨wo.heap.size, 2, none⟩ = some (.int .i64 tb) := ((Blk.new wo _ _).cell 2).trans rfl
      have F4 : (wo.alloc (.cells #[.string x.s, .int .i64 ta, .int .i64 tb, .int .i64 x.l, .int .i64 x.c, .int .i64 x.f, .int .i64 x.h] 99)).cell? (af.add ta) = some (.int .i64 la) := (World.cell?_alloc_lt _ _ _ (block_lt_of_cell hca)).trans hca
      have F5 : (wo.alloc (.cells #[.string x.s, .int .i64 ta, .int .i64 tb, .int .i64 x.l, .int .i64 x.c, .int .i64 x.f, .int .i64 x.h] 99)).cell? (af.add tb) = some (.int .i64 lb) := (World.cell?_alloc_lt _ _ _ (block_lt_of_cell hcb)).trans hcb
      have F6 : (wo.alloc (.cells #[.string x.s, .int .i64 ta, .int .i64 tb, .int .i64 x.l, .int .i64 x.c, .int .i64 x.f, .int .i64 x.h] 99)).cell? (at_.add k) = some (.int .i64 t) := (World.cell?_alloc_lt _ _ _ (block_lt_of_cell hct)).trans hct
      have HC := Lib.hid (fun W : World => columnDraught_any (lb - la) t W (by unfold inB; exact decide_eq_true (by omega)) (by unfold inB; exact decide_eq_true (by omega)))
      have hsz := hbr.size
      have hown1 : (wo.alloc (.cells #[.string x.s, .int .i64 ta, .int .i64 tb, .int .i64 x.l, .int .i64 x.c, .int .i64 x.f, .int .i64 x.h] 99)).ownsRow (w.heap.size + 1) 2 1 (.slice A' k c') k (ints (drTo xs ls ts k)) := hown.alloc _
      have hbr1 := hbr.alloc zo (.cells #[.string x.s, .int .i64 ta, .int .i64 tb, .int .i64 x.l, .int .i64 x.c, .int .i64 x.f, .int .i64 x.h] 99)
      have bfb : (af.add tb).block < w.heap.size + 1 := by rw [block_of_add]; exact haf
      have bfa : (af.add ta).block < w.heap.size + 1 := by rw [block_of_add]; exact haf
      have bta : (at_.add k).block < w.heap.size + 1 := by rw [block_of_add]; exact hat0
      have hwob : ∀ q, Value.ownBlock (.slice A' k c') = some q → w.heap.size + 1 ≤ q ∧ q < wo.heap.size := fun q hq => hown.lt q hq
      clear hx hc hta htb hla hlb ho htt hca hcb hct
      go_wp2
      have HSZ1 : Hid ((wo.alloc (.cells #[.string x.s, .int .i64 ta, .int .i64 tb, .int .i64 x.l, .int .i64 x.c, .int .i64 x.f, .int .i64 x.h] 99)).heap.size = wo.heap.size + 1) := show _ = _ by simp
      generalize hW1 : wo.alloc (.cells #[.string x.s, .int .i64 ta, .int .i64 tb, .int .i64 x.l, .int .i64 x.c, .int .i64 x.f, .int .i64 x.h] 99) = wb at *
      have HG : Hid (∀ {w6 : World} {p : Addr} {v : Value} (nn : Nat), ((wb.drewN (1 + nn)).alloc (.cells #[.int .i64 (columnT (lb - la) t)] 2)).grownBy w6 (Value.ownBlock (.slice A' k c')) → (∀ q, w.heap.size + 1 ≤ q ∧ q < wo.heap.size → q ≠ p.block) → wb.cell? p = some v → w6.cell? p = some v) := fun nn hgrow hq hc => by
        have hpl := block_lt_of_cell hc
        have hs1 := HSZ1.out
        have h1 := hgrow.cell_far _ (show _ < ((wb.drewN (1 + nn)).alloc (.cells #[.int .i64 (columnT (lb - la) t)] 2)).heap.size by simp; omega) (fun e => hq _ (hwob _ e.symm) rfl)
        rw [h1]
        exact (World.cell?_alloc_lt _ _ _ (show _ < (wb.drewN (1 + nn)).heap.size from hpl)).trans hc
      go_region_held3 (fun w' => w'.cell? ⟨wo.heap.size, 2, none⟩ = some (.int .i64 tb) ∧ w'.cell? ⟨wo.heap.size, 1, none⟩ = some (.int .i64 ta) ∧ w'.cell? (af.add tb) = some (.int .i64 lb) ∧ w'.cell? (af.add ta) = some (.int .i64 la) ∧ w'.cell? (at_.add k) = some (.int .i64 t))
        (first | go_keep | (exact ⟨HG.out nn hgrow (fun q hq => by show q ≠ wo.heap.size; omega) F2, HG.out nn hgrow (fun q hq => by show q ≠ wo.heap.size; omega) F1, HG.out nn hgrow (fun q hq => by omega) F5, HG.out nn hgrow (fun q hq => by omega) F4, HG.out nn hgrow (fun q hq => by omega) F6⟩))
        ((first | (refine step_append_lies _ (by rfl) _ _ _ (by rfl) (w.heap.size + 1) 2 i0 _ 1 8 Try.underlying25 hi0 hz0 hz1 hz2 rfl (by omega) (.slice A' k c') k (ints (drTo xs ls ts k)) (by rfl) ((own_drewN hown1 (1 + nn)).alloc _) ⟨wb.heap.size, 0, none⟩ 1 1 [.int .i64 (columnT (lb - la) t)] (by rfl) (by rfl) (World.news_of_block (cs := #[.int .i64 (columnT (lb - la) t)]) (t := 2) (fr := (0, 0)) (heap_alloc_new (wb.drewN (1 + nn)) _)) (by simp [Value.oneCell']) (by omega) (by unfold maxLen; omega) (by omega) (by have := HSZ1.out; simp; omega) (wb.heap.size + 1) (by simp) ?_; intro gg cap w6 ho6 hgrow hat hlt6) | (go_simp; go_at_call 100; refine (HC.out _).mono ?_; rintro e w' ⟨rfl, nn, rfl⟩)))
      have hdr := (below_drewN hbr1 (1 + nn)).alloc (by have := HSZ1.out; show _ ≤ wb.heap.size; omega) (.cells #[.int .i64 (columnT (lb - la) t)] 2)
      have hb6 := hdr.grown hgrow (by have := HSZ1.out; simp; omega) fun q hq => (((own_drewN hown1 (1 + nn)).alloc (.cells #[.int .i64 (columnT (lb - la) t)] 2)).lt q hq).1
      go_wp2
      go_roundw
      case rel => exact ⟨k + 1, _, _, by omega, by first | rfl | go_num, by go_num, by rw [HS.out]; simpa [ints] using ho6, hb6⟩
      case measure => simp [intOf]; omega
    · have e : k = m := by omega
      subst e
      go_wp2
      go_ret
      exact ⟨A', c', rfl, own_base hown (by omega), hm24, hb0.trans (hbr.mono (by omega))⟩
end Go.Proofs.Ytjmhhbjbmgpagaa
