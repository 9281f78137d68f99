/- What texts read as: plain laws. -/
import Derived.Test.YtdooajiobpjihaaDoorRdn
import Derived.Test.YtdooajiobpjihaaDoorSpx
import Derived.Test.YtdooajiobpjihaaDoorTxtC
namespace Go.Proofs.YtdooajiobpjihaaDoor
set_option linter.unusedVariables false
set_option linter.unusedSimpArgs false
/-- The number that a text would be the numeral of. -/
def candN : List UInt8 → Int
  | [] => 0
  | b :: r => if b = 45 then -((valD 0 r : Nat) : Int) else ((valD 0 (b :: r) : Nat) : Int)
/-- The number with a numeral of at most 18 digits. -/
def rdN (l : List UInt8) : Option Int := if Lib.itoa (candN l) = l ∧ (candN l).natAbs < 1000000000000000000 then some (candN l) else none
theorem dec_cons (u : Nat) : ∃ b r, Lib.decDigits u = b :: r ∧ isDg b = true := by
  have h := dec_ne u
  have hd := dec_digits u
  cases e : Lib.decDigits u with
  | nil => exact absurd e h
  | cons b r => exact ⟨b, r, rfl, hd b (by rw [e]; exact List.mem_cons_self ..)⟩
theorem candN_itoa (n : Int) : candN (Lib.itoa n) = n := by
  unfold Lib.itoa
  by_cases h : n < 0
  · rw [if_pos h]
    show (if (45 : UInt8) = 45 then -((valD 0 (Lib.decDigits n.natAbs) : Nat) : Int) else ((valD 0 (45 :: Lib.decDigits n.natAbs) : Nat) : Int)) = n
    rw [if_pos rfl, dec_val]; omega
  · rw [if_neg h]
    obtain ⟨b, r, e, hb⟩ := dec_cons n.toNat
    have hv := dec_val n.toNat
    rw [e] at hv ⊢
    have h45 : ¬ b = 45 := fun e => by rw [e] at hb; exact absurd hb (by decide)
    show (if b = 45 then -((valD 0 r : Nat) : Int) else ((valD 0 (b :: r) : Nat) : Int)) = n
    rw [if_neg h45, hv]; omega
theorem rdN_t {l : List UInt8} {n : Int} (h : rdN l = some n) : Lib.itoa n = l ∧ n.natAbs < 1000000000000000000 := by
  unfold rdN at h
  split at h
  · rename_i h1
    obtain rfl := Option.some.inj h
    exact h1
  · cases h
theorem rdN_y {l : List UInt8} {n : Int} (h : Lib.itoa n = l) (h2 : n.natAbs < 1000000000000000000) : rdN l = some n := by
  unfold rdN
  rw [← h, candN_itoa, if_pos ⟨rfl, h2⟩]
theorem rdN_no {l : List UInt8} (h : ∀ n, rdN l ≠ some n) : rdN l = none := by
  cases e : rdN l with
  | none => rfl
  | some n => exact absurd e (h n)
theorem dec_nought : ∀ (u : Nat) (b : UInt8), (Lib.decDigits u).head? = some b → b.toNat = 48 → u = 0 := by
  intro u
  induction u using Nat.strongRecOn with
  | _ u ih =>
    intro b hb h48
    by_cases h : u < 10
    · rw [Lib.decDigits, dif_pos h] at hb
      have e : UInt8.ofNat (48 + u) = b := Option.some.inj hb
      have := dg_nat h
      rw [e] at this; omega
    · exfalso
      rw [Lib.decDigits, dif_neg h] at hb
      have e : (Lib.decDigits (u / 10)).head? = some b := by
        obtain ⟨c, r, e1, _⟩ := dec_cons (u / 10)
        rw [e1] at hb ⊢
        exact hb
      have := ih (u / 10) (by omega) b e h48
      omega
/-- Where the digits begin. -/
def atN (l : List UInt8) : Nat := if l.head? = some 45 then 1 else 0
theorem body_of {l : List UInt8} {n : Int} (h : rdN l = some n) :
    atN l < l.length ∧ l.length - atN l ≤ 18 ∧ (∀ b ∈ l.drop (atN l), isDg b = true) ∧ (∀ b, l[atN l]? = some b → b.toNat = 48 → l.length = 1) := by
  obtain ⟨h1, h2⟩ := rdN_t h
  unfold Lib.itoa at h1
  by_cases hn : n < 0
  · rw [if_pos hn] at h1
    have ha : atN l = 1 := by unfold atN; rw [← h1]; rfl
    rw [ha, ← h1]
    have hl := Lib.decDigits_length n.natAbs
    have h18 := nD_18.2 h2
    have hne := List.length_pos_iff.2 (dec_ne n.natAbs)
    refine ⟨by simp; omega, by simp; omega, dec_digits _, fun b hb h48 => ?_⟩
    exfalso
    have := dec_nought n.natAbs b (by rw [List.head?_eq_getElem?]; simpa using hb) h48
    omega
  · rw [if_neg hn] at h1
    obtain ⟨b0, r, e, hb0⟩ := dec_cons n.toNat
    have ha : atN l = 0 := by
      unfold atN
      rw [← h1, e]
      have h45 : ¬ b0 = 45 := fun e => by rw [e] at hb0; exact absurd hb0 (by decide)
      simp [h45]
    rw [ha, ← h1]
    have hl := Lib.decDigits_length n.toNat
    have h18 := (nD_18 (u := n.toNat)).2 (by omega)
    have hne := List.length_pos_iff.2 (dec_ne n.toNat)
    refine ⟨by omega, by omega, dec_digits _, fun b hb h48 => ?_⟩
    have h0 := dec_nought n.toNat b (by rw [List.head?_eq_getElem?]; exact hb) h48
    rw [h0, Lib.decDigits, dif_pos (by omega)]; rfl
theorem num_mk {l : List UInt8} (h1 : atN l < l.length) (h2 : l.length - atN l ≤ 18) (h3 : ∀ b ∈ l.drop (atN l), isDg b = true) (h4 : ∀ b, l[atN l]? = some b → b.toNat = 48 → l.length = 1) :
    rdN l = some (if atN l = 1 then -((valD 0 (l.drop (atN l)) : Nat) : Int) else ((valD 0 (l.drop (atN l)) : Nat) : Int)) := by
  have hlt : ∀ d : List UInt8, d.length ≤ 18 → Lib.decDigits (valD 0 d) = d → valD 0 d < 1000000000000000000 := fun d hd e => nD_18.1 (by rw [← Lib.decDigits_length, e]; exact hd)
  by_cases h45 : l.head? = some 45
  · have ha : atN l = 1 := if_pos h45
    rw [ha] at h1 h2 h3 h4 ⊢
    cases l with
    | nil => cases h45
    | cons b d =>
      obtain rfl : b = 45 := by simpa using h45
      simp only [List.drop_succ_cons, List.drop_zero, List.length_cons, if_true] at *
      have hd : Lib.decDigits (valD 0 d) = d := val_dec _ d rfl h3 (fun e => by rw [e] at h1; simp at h1) fun b hb h48 => by
        have := h4 b (by rw [List.head?_eq_getElem?] at hb; simpa using hb) h48
        omega
      have hv : 1 ≤ valD 0 d := by
        rcases Nat.eq_zero_or_pos (valD 0 d) with hz | hz
        · exfalso
          rw [hz, Lib.decDigits, dif_pos (by omega)] at hd
          have := h4 (UInt8.ofNat (48 + 0)) (by rw [← hd]; rfl) rfl
          omega
        · exact hz
      refine rdN_y ?_ ?_
      · unfold Lib.itoa
        rw [if_pos (by omega), show (-((valD 0 d : Nat) : Int)).natAbs = valD 0 d by omega, hd]
      · have := hlt d (by omega) hd; omega
  · have ha : atN l = 0 := if_neg h45
    rw [ha] at h1 h2 h3 h4 ⊢
    simp only [List.drop_zero, Nat.sub_zero, Nat.zero_ne_one, if_false] at *
    have hd : Lib.decDigits (valD 0 l) = l := val_dec _ l rfl h3 (fun e => by rw [e] at h1; simp at h1) fun b hb h48 => h4 b (by rw [List.head?_eq_getElem?] at hb; exact hb) h48
    refine rdN_y ?_ ?_
    · unfold Lib.itoa
      rw [if_neg (by omega), Int.toNat_natCast, hd]
    · have := hlt l h2 hd; omega
theorem itoa_bytes {n : Int} {b : UInt8} (h : b ∈ Lib.itoa n) : b = 45 ∨ isDg b = true := by
  unfold Lib.itoa at h
  split at h
  · rcases List.mem_cons.1 h with h | h
    · exact .inl h
    · exact .inr (dec_digits _ b h)
  · exact .inr (dec_digits _ b h)
theorem itoa_no {n : Int} {c : UInt8} (hc : c ≠ 45 ∧ isDg c = false) : c ∉ Lib.itoa n := fun h => by
  rcases itoa_bytes h with h | h
  · exact hc.1 h
  · rw [hc.2] at h; cases h
def candL (l : List UInt8) : List Int := if l = [45] then [] else (splA 44 [] l).map candN
/-- The list with a text. -/
def rdL (l : List UInt8) : Option (List Int) := if fitL (candL l) = true ∧ lstL (candL l) = l then some (candL l) else none
theorem maps_no {xs : List Int} {c : UInt8} (hc : c ≠ 45 ∧ isDg c = false) : ∀ p ∈ xs.map Lib.itoa, c ∉ p := fun p hp => by
  obtain ⟨x, _, rfl⟩ := List.mem_map.1 hp
  exact itoa_no hc
theorem map_cand (xs : List Int) : (xs.map Lib.itoa).map candN = xs := by
  rw [List.map_map]
  conv => rhs; rw [← List.map_id xs]
  exact List.map_congr_left fun x _ => candN_itoa x
theorem spl_lst {xs : List Int} (h : xs ≠ []) : splA 44 [] (jn 44 (xs.map Lib.itoa)) = xs.map Lib.itoa := spl_jn _ (by simpa using h) (maps_no (by decide))
theorem lstL_n {xs : List Int} (h : xs ≠ []) : lstL xs = jn 44 (xs.map Lib.itoa) := if_neg h
theorem lstL_e : lstL [] = [45] := rfl
theorem lst_dash {xs : List Int} (h : xs ≠ []) : lstL xs ≠ [45] := fun e => by
  rw [lstL_n h] at e
  have h1 := spl_lst h
  rw [e] at h1
  have h2 := map_cand xs
  rw [← h1] at h2
  have h3 : xs = [0] := h2.symm
  rw [h3] at h1
  have h4 : [([45] : List UInt8)] = [Lib.itoa 0] := h1
  have h5 : Lib.itoa 0 = [48] := by unfold Lib.itoa; rw [if_neg (by omega), Lib.decDigits, dif_pos (by decide)]; rfl
  rw [h5] at h4
  exact absurd h4 (by decide)
theorem candL_lst (xs : List Int) : candL (lstL xs) = xs := by
  by_cases h : xs = []
  · subst h; rfl
  · unfold candL
    rw [if_neg (lst_dash h), lstL_n h, spl_lst h, map_cand]
theorem rdL_t {l : List UInt8} {xs : List Int} (h : rdL l = some xs) : fitL xs = true ∧ lstL xs = l := by
  unfold rdL at h
  split at h
  · rename_i h1
    obtain rfl := Option.some.inj h
    exact h1
  · cases h
theorem rdL_y {l : List UInt8} {xs : List Int} (h1 : fitL xs = true) (h2 : lstL xs = l) : rdL l = some xs := by
  unfold rdL
  rw [← h2, candL_lst, if_pos ⟨h1, rfl⟩]
theorem rdL_no {l : List UInt8} (h : ∀ xs, rdL l ≠ some xs) : rdL l = none := by
  cases e : rdL l with
  | none => rfl
  | some n => exact absurd e (h n)
theorem rdL_dash : rdL [45] = some [] := rdL_y rfl rfl
theorem rdL_ps {l : List UInt8} {xs : List Int} (h : rdL l = some xs) (hl : l ≠ [45]) : xs ≠ [] ∧ l = jn 44 (xs.map Lib.itoa) := by
  have h1 := (rdL_t h).2
  have h2 : xs ≠ [] := fun e => by rw [e] at h1; exact hl h1.symm
  exact ⟨h2, by rw [← h1, lstL_n h2]⟩
theorem rdL_len {l : List UInt8} {xs : List Int} (h : rdL l = some xs) : xs.length ≤ 64 := (fitL_t (rdL_t h).1).1
theorem rdL_num {l : List UInt8} {xs : List Int} (h : rdL l = some xs) {x : Int} (hx : x ∈ xs) : rdN (Lib.itoa x) = some x ∧ inB x (-1000000000000) 1000000000000 = true := by
  have hb := (fitL_t (rdL_t h).1).2 x hx
  exact ⟨rdN_y rfl (by omega), by unfold inB; simp; omega⟩
-- the reference's pieces
theorem rl_spl {l : List UInt8} {xs : List Int} (h : rdL l = some xs) (hl : l ≠ [45]) : splA 44 [] l = xs.map Lib.itoa := by
  obtain ⟨h1, h2⟩ := rdL_ps h hl
  rw [h2, spl_lst h1]
theorem rl_long {l : List UInt8} (hl : l ≠ [45]) (h : 64 < (splA 44 [] l).length) : rdL l = none := rdL_no fun xs e => by
  rw [rl_spl e hl, List.length_map] at h
  have := rdL_len e; omega
theorem rl_bad {l p : List UInt8} {k : Nat} (hl : l ≠ [45]) (hp : (splA 44 [] l)[k]? = some p) (h : ∀ n, rdN p = some n → inB n (-1000000000000) 1000000000000 = false) : rdL l = none := rdL_no fun xs e => by
  rw [rl_spl e hl, List.getElem?_map] at hp
  obtain ⟨x, hx, rfl⟩ := Option.map_eq_some_iff.1 hp
  obtain ⟨h1, h2⟩ := rdL_num e (List.mem_of_getElem? hx)
  rw [h x h1] at h2; cases h2
theorem cand_back {ps : List (List UInt8)} (h : ∀ p ∈ ps, ∃ n, rdN p = some n) : (ps.map candN).map Lib.itoa = ps := by
  rw [List.map_map]
  conv => rhs; rw [← List.map_id ps]
  refine List.map_congr_left fun p hp => ?_
  obtain ⟨n, hn⟩ := h p hp
  have h1 := (rdN_t hn).1
  show Lib.itoa (candN p) = p
  rw [← h1, candN_itoa]
theorem cand_of {p : List UInt8} {n : Int} (h : rdN p = some n) : candN p = n := by rw [← (rdN_t h).1, candN_itoa]
theorem rl_ok {l : List UInt8} (hl : l ≠ [45]) (h64 : (splA 44 [] l).length ≤ 64) (h : ∀ p ∈ splA 44 [] l, ∃ n, rdN p = some n ∧ inB n (-1000000000000) 1000000000000 = true) : rdL l = some ((splA 44 [] l).map candN) := by
  have hb := cand_back fun p hp => (h p hp).imp fun _ h => h.1
  have hne : (splA 44 [] l).map candN ≠ [] := by simpa using splA_ne 44 l []
  refine rdL_y ?_ ?_
  · unfold fitL
    rw [List.length_map, decide_eq_true h64, List.all_eq_true.2 (fun x hx => by
      obtain ⟨p, hp, rfl⟩ := List.mem_map.1 hx
      obtain ⟨n, h1, h2⟩ := h p hp
      rw [cand_of h1]; exact h2)]; rfl
  · rw [lstL_n hne, hb]
    have := splA_jn (c := 44) l []
    simpa using this
-- the program's pieces
theorem jn_long {c : UInt8} : ∀ ps : List (List UInt8), ps.length ≤ (jn c ps).length + 1
  | [] => by simp
  | [p] => by simp
  | p :: q :: ps => by
    have ih := jn_long (c := c) (q :: ps)
    rw [jn_cons, List.length_append, List.length_cons]
    simp only [List.length_cons] at ih ⊢
    omega
theorem pl_spl {l : List UInt8} {xs : List Int} (h : rdL l = some xs) (hl : l ≠ [45]) : Lib.splitK [44] 0 (min 65 (l.length + 1) - 1) l = xs.map Lib.itoa := by
  obtain ⟨h1, h2⟩ := rdL_ps h hl
  have h3 := rdL_len h
  have h4 := jn_long (c := 44) (xs.map Lib.itoa)
  rw [← h2] at h4
  rw [List.length_map] at h4
  conv => lhs; rw [h2]
  refine splitK_jn _ _ (by simpa using h1) (maps_no (by decide)) ?_
  rw [List.length_map, ← h2]; omega
theorem pl_bad {l p : List UInt8} {k : Nat} (hl : l ≠ [45]) (hp : (Lib.splitK [44] 0 (min 65 (l.length + 1) - 1) l)[k]? = some p) (h : rdN p = none) : rdL l = none := rdL_no fun xs e => by
  rw [pl_spl e hl, List.getElem?_map] at hp
  obtain ⟨x, hx, rfl⟩ := Option.map_eq_some_iff.1 hp
  obtain ⟨h1, h2⟩ := rdL_num e (List.mem_of_getElem? hx)
  rw [h] at h1; cases h1
theorem splitK_nil (k : Nat) : Lib.splitK [44] 0 k [] = [[]] := by
  cases k with
  | zero => rfl
  | succ k => unfold Lib.splitK; rw [Lib.index_one]; rfl
theorem pl_ok {l : List UInt8} (hl : l ≠ [45]) (h : ∀ p ∈ Lib.splitK [44] 0 (min 65 (l.length + 1) - 1) l, ∃ n, rdN p = some n) (he : (ltS ((Lib.splitK [44] 0 (min 65 (l.length + 1) - 1) l).map candN)).data.toList = l) : rdL l = some ((Lib.splitK [44] 0 (min 65 (l.length + 1) - 1) l).map candN) := by
  cases hf : fitL ((Lib.splitK [44] 0 (min 65 (l.length + 1) - 1) l).map candN) with
  | true =>
    rw [ltS_y hf] at he
    exact rdL_y hf he
  | false =>
    exfalso
    rw [ltS_n hf] at he
    have h0 : l = [] := he.symm
    subst h0
    rw [splitK_nil] at h
    obtain ⟨n, hn⟩ := h [] (List.mem_singleton_self _)
    have h1 := (rdN_t hn).1
    have h2 : Lib.itoa n ≠ [] := by
      unfold Lib.itoa
      split
      · simp
      · exact dec_ne _
    exact h2 h1
theorem pl_no {l : List UInt8} (hl : l ≠ [45]) (he : (ltS ((Lib.splitK [44] 0 (min 65 (l.length + 1) - 1) l).map candN)).data.toList ≠ l) : rdL l = none := rdL_no fun xs e => by
  refine he ?_
  rw [pl_spl e hl, map_cand, ltS_y (rdL_t e).1]
  exact (rdL_t e).2
/-- A name and a list of so many numbers, read. -/
def rdW (m : Nat) (ok : List UInt8 → List Int → Bool) (l : List UInt8) : Option (List UInt8 × List Int) :=
  match splA 32 [] l with
  | [p, t] => match rdL t with
    | some xs => if xs.length = m ∧ ok p xs = true then some (p, xs) else none
    | none => none
  | _ => none
theorem lst_no32 {xs : List Int} : (32 : UInt8) ∉ lstL xs := fun h => by
  by_cases h0 : xs = []
  · subst h0; exact absurd h (by decide)
  · rw [lstL_n h0] at h
    have key : ∀ ps : List (List UInt8), (∀ p ∈ ps, (32 : UInt8) ∉ p) → (32 : UInt8) ∉ jn 44 ps := by
      intro ps
      induction ps with
      | nil => intro _ h; cases h
      | cons p ps ih =>
        intro hp h
        cases ps with
        | nil => rw [jn_one] at h; exact hp p (List.mem_cons_self ..) h
        | cons q ps =>
          rw [jn_cons] at h
          rcases List.mem_append.1 h with h | h
          · exact hp p (List.mem_cons_self ..) h
          · rcases List.mem_cons.1 h with h | h
            · exact absurd h (by decide)
            · exact ih (fun x hx => hp x (List.mem_cons_of_mem _ hx)) h
    exact key _ (maps_no (by decide)) h
theorem rdW_t {m : Nat} {ok : List UInt8 → List Int → Bool} {l p : List UInt8} {xs : List Int} (h : rdW m ok l = some (p, xs)) : xs.length = m ∧ ok p xs = true ∧ fitL xs = true ∧ p ++ 32 :: lstL xs = l ∧ (32 : UInt8) ∉ p := by
  unfold rdW at h
  have hj := splA_jn (c := 32) l []
  have hn := splA_no (c := 32) l [] (by simp)
  split at h
  · rename_i p0 t0 hs
    rw [hs] at hj hn
    split at h
    · rename_i xs0 hr
      split at h
      · rename_i hm
        obtain ⟨rfl, rfl⟩ := Prod.mk.inj (Option.some.inj h)
        obtain ⟨h1, h2⟩ := rdL_t hr
        refine ⟨hm.1, hm.2, h1, ?_, hn _ (List.mem_cons_self ..)⟩
        rw [jn_cons, jn_one] at hj
        rw [h2]; simpa using hj
      · cases h
    · cases h
  · cases h
theorem rdW_y {m : Nat} {ok : List UInt8 → List Int → Bool} {l p : List UInt8} {xs : List Int} (h1 : xs.length = m) (h2 : ok p xs = true) (h3 : fitL xs = true) (h4 : p ++ 32 :: lstL xs = l) (h5 : (32 : UInt8) ∉ p) : rdW m ok l = some (p, xs) := by
  have hs : splA 32 [] l = [p, lstL xs] := by
    have h6 := spl_jn (c := 32) [p, lstL xs] (by simp) (fun q hq => by
      rcases List.mem_cons.1 hq with rfl | hq
      · exact h5
      · rw [List.mem_singleton.1 hq]; exact lst_no32)
    rw [jn_cons, jn_one, h4] at h6
    exact h6
  unfold rdW
  rw [hs]
  simp only []
  rw [rdL_y h3 rfl]
  simp only []
  rw [if_pos ⟨h1, h2⟩]
theorem rdW_no {m : Nat} {ok : List UInt8 → List Int → Bool} {l : List UInt8} (h : ∀ p xs, rdW m ok l ≠ some (p, xs)) : rdW m ok l = none := by
  cases e : rdW m ok l with
  | none => rfl
  | some q => exact absurd e (h q.1 q.2)
-- the reference's ways
theorem rw_len {m : Nat} {ok : List UInt8 → List Int → Bool} {l : List UInt8} (h : (splA 32 [] l).length ≠ 2) : rdW m ok l = none := by
  unfold rdW
  split
  · rename_i hs; rw [hs] at h; exact absurd rfl h
  · rfl
theorem rw_two {m : Nat} {ok : List UInt8 → List Int → Bool} {l p t : List UInt8} (h : splA 32 [] l = [p, t]) : rdW m ok l = match rdL t with | some xs => if xs.length = m ∧ ok p xs = true then some (p, xs) else none | none => none := by
  unfold rdW; rw [h]
-- the program's ways
theorem pw_no {m : Nat} {ok : List UInt8 → List Int → Bool} {l : List UInt8} (h : ∀ xs, rdL (Lib.cut l [32]).2.1 = some xs → xs.length ≠ m) : rdW m ok l = none := rdW_no fun p xs e => by
  obtain ⟨h1, h2, h3, h4, h5⟩ := rdW_t e
  refine h xs ?_ h1
  rw [← h4, cut_at h5]
  exact rdL_y h3 rfl
theorem pw_yes {m : Nat} {ok : List UInt8 → List Int → Bool} {l : List UInt8} {xs : List Int} (h : rdL (Lib.cut l [32]).2.1 = some xs) (hm : xs.length = m) (hk : ok (Lib.cut l [32]).1 xs = true) (h32 : (32 : UInt8) ∉ (Lib.cut l [32]).1) (he : (Lib.cut l [32]).1 ++ 32 :: lstL xs = l) : rdW m ok l = some ((Lib.cut l [32]).1, xs) :=
  rdW_y hm hk (rdL_t h).1 he h32
theorem pw_else {m : Nat} {ok : List UInt8 → List Int → Bool} {l : List UInt8} {xs : List Int} (h : rdL (Lib.cut l [32]).2.1 = some xs) (he : ¬ (ok (Lib.cut l [32]).1 xs = true ∧ (Lib.cut l [32]).1 ++ 32 :: lstL xs = l)) : rdW m ok l = none := rdW_no fun p ys e => by
  obtain ⟨h1, h2, h3, h4, h5⟩ := rdW_t e
  refine he ?_
  have hc : Lib.cut l [32] = (p, lstL ys, true) := by rw [← h4, cut_at h5]
  rw [hc] at h ⊢
  have : xs = ys := by
    have h6 := rdL_y h3 rfl
    rw [h6] at h; exact (Option.some.inj h).symm
  rw [this]
  exact ⟨h2, h4⟩
theorem pw_nonempty {l : List UInt8} {xs : List Int} (h : rdL (Lib.cut l [32]).2.1 = some xs) : l ≠ [] := fun e => by
  rw [e] at h
  have h1 : (Lib.cut [] [32]).2.1 = [] := by unfold Lib.cut; rw [Lib.index_one]; rfl
  rw [h1] at h
  have h2 := (rdL_t h).2
  by_cases h0 : xs = []
  · rw [h0] at h2; exact absurd h2 (by decide)
  · rw [lstL_n h0] at h2
    have h3 := spl_lst h0
    rw [h2] at h3
    have h4 := map_cand xs
    rw [← h3] at h4
    have h5 : xs = [0] := h4.symm
    rw [h5] at h3
    have h6 : Lib.itoa 0 = [48] := by unfold Lib.itoa; rw [if_neg (by omega), Lib.decDigits, dif_pos (by decide)]; rfl
    have h7 : [([] : List UInt8)] = [Lib.itoa 0] := h3
    rw [h6] at h7
    exact absurd h7 (by decide)
end Go.Proofs.YtdooajiobpjihaaDoor
