/- Numerals read: plain laws. -/
import Derived.Lib.ItoaMem
import Derived.Lib.ParseIntB
namespace Go.Proofs.YtdooajiobpjihaaDoor
set_option linter.unusedVariables false
set_option linter.unusedSimpArgs false
def isDg (b : UInt8) : Bool := decide (48 ≤ b.toNat ∧ b.toNat ≤ 57)
def valD (acc : Nat) : List UInt8 → Nat
  | [] => acc
  | b :: r => valD (acc * 10 + (b.toNat - 48)) r
theorem valD_app : ∀ (l r : List UInt8) (a : Nat), valD a (l ++ r) = valD (valD a l) r
  | [], _, _ => rfl
  | b :: l, r, a => by show valD _ (l ++ r) = _; rw [valD_app l r]; rfl
theorem valD_ge : ∀ (l : List UInt8) (a : Nat), a ≤ valD a l
  | [], _ => Nat.le_refl _
  | b :: l, a => by
    show a ≤ valD (a * 10 + (b.toNat - 48)) l
    have := valD_ge l (a * 10 + (b.toNat - 48))
    omega
theorem parseM_ok {M : Nat} (hM : M ≤ 18446744073709551615) : ∀ (l : List UInt8) (a : Nat), (∀ b ∈ l, isDg b = true) → valD a l ≤ M → Lib.parseUintM M a l = .ok (valD a l)
  | [], a, _, _ => rfl
  | b :: l, a, hd, hv => by
    have h1 := of_decide_eq_true (hd b (List.mem_cons_self ..))
    have h2 := valD_ge l (a * 10 + (b.toNat - 48))
    have h3 : valD (a * 10 + (b.toNat - 48)) l ≤ M := hv
    show (if 48 ≤ b.toNat ∧ b.toNat ≤ 57 then _ else _) = _
    rw [if_pos h1, if_neg (by omega), if_neg (by omega)]
    exact parseM_ok hM l _ (fun x hx => hd x (List.mem_cons_of_mem _ hx)) h3
theorem dg_nat {d : Nat} (h : d < 10) : (UInt8.ofNat (48 + d)).toNat = 48 + d := by
  simp; omega
theorem dec_digits : ∀ (u : Nat), ∀ b ∈ Lib.decDigits u, isDg b = true := by
  intro u
  induction u using Nat.strongRecOn with
  | _ u ih =>
    intro b hb
    by_cases h : u < 10
    · rw [Lib.decDigits, dif_pos h] at hb
      rw [List.mem_singleton.1 hb]
      refine decide_eq_true ?_
      rw [dg_nat h]; omega
    · rw [Lib.decDigits, dif_neg h] at hb
      rcases List.mem_append.1 hb with hb | hb
      · exact ih (u / 10) (by omega) b hb
      · rw [List.mem_singleton.1 hb]
        refine decide_eq_true ?_
        rw [dg_nat (by omega)]; omega
theorem dec_ne (u : Nat) : Lib.decDigits u ≠ [] := by
  intro h
  have := Lib.decDigits_length u
  rw [h] at this
  have := Lib.nDigits_pos u
  simp at *; omega
theorem dec_val : ∀ (u : Nat), valD 0 (Lib.decDigits u) = u := by
  intro u
  induction u using Nat.strongRecOn with
  | _ u ih =>
    by_cases h : u < 10
    · rw [Lib.decDigits, dif_pos h]
      show 0 * 10 + ((UInt8.ofNat (48 + u)).toNat - 48) = u
      rw [dg_nat h]; omega
    · rw [Lib.decDigits, dif_neg h, valD_app, ih (u / 10) (by omega)]
      show u / 10 * 10 + ((UInt8.ofNat (48 + u % 10)).toNat - 48) = u
      rw [dg_nat (by omega)]; omega
/-- Digits without a nought ahead are the numeral of their number. -/
theorem val_dec : ∀ (k : Nat) (l : List UInt8), l.length = k → (∀ b ∈ l, isDg b = true) → l ≠ [] → (∀ b, l.head? = some b → b.toNat = 48 → l.length = 1) → Lib.decDigits (valD 0 l) = l := by
  intro k
  induction k with
  | zero => intro l hl _ hne _; exact absurd (List.length_eq_zero_iff.1 hl) hne
  | succ k ih =>
    intro l hl hd hne h0
    have e : l = l.dropLast ++ [l.getLast hne] := (List.dropLast_concat_getLast hne).symm
    generalize l.getLast hne = b at e
    generalize l.dropLast = t at e
    subst e
    have hb := of_decide_eq_true (hd b (List.mem_append_right _ (List.mem_singleton_self _)))
    by_cases ht : t = []
    · subst ht
      show Lib.decDigits (0 * 10 + (b.toNat - 48)) = [b]
      rw [Lib.decDigits, dif_pos (by omega)]
      congr 1
      have : 48 + (0 * 10 + (b.toNat - 48)) = b.toNat := by omega
      rw [this]; simp
    · have hk : t.length = k := by simp at hl; exact hl
      have hih := ih t hk (fun x hx => hd x (List.mem_append_left _ hx)) ht (fun x hx h48 => by
        have h1 := h0 x (by cases t with | nil => exact absurd rfl ht | cons y t => simpa using hx) h48
        rw [List.length_append, List.length_singleton] at h1
        have := List.length_pos_iff.2 ht
        omega)
      rw [valD_app]
      show Lib.decDigits (valD 0 t * 10 + (b.toNat - 48)) = t ++ [b]
      have hv1 : 1 ≤ valD 0 t := by
        rcases Nat.eq_zero_or_pos (valD 0 t) with hz | hz
        · rw [hz, Lib.decDigits, dif_pos (by omega)] at hih
          have h1 := h0 (UInt8.ofNat (48 + 0)) (by rw [← hih]; rfl) rfl
          rw [List.length_append, List.length_singleton] at h1
          have := List.length_pos_iff.2 ht
          omega
        · exact hz
      rw [Lib.decDigits, dif_neg (by omega), show (valD 0 t * 10 + (b.toNat - 48)) / 10 = valD 0 t by omega, hih, show (valD 0 t * 10 + (b.toNat - 48)) % 10 = b.toNat - 48 by omega, show 48 + (b.toNat - 48) = b.toNat by omega]
      simp
theorem nD_18 {u : Nat} : Lib.nDigits u ≤ 18 ↔ u < 1000000000000000000 := by
  constructor
  · intro h
    have h1 := Lib.lt_pow_nDigits u
    have h2 : 10 ^ Lib.nDigits u ≤ 10 ^ 18 := Nat.pow_le_pow_right (by omega) h
    omega
  · intro h
    rcases Nat.lt_or_ge 18 (Lib.nDigits u) with h1 | h1
    · exfalso
      have h3 : ∀ (k u : Nat), u < 10 ^ (k + 1) → Lib.nDigits u ≤ k + 1 := by
        intro k
        induction k with
        | zero => intro u h; rw [Lib.nDigits_small (by simpa using h)]; exact Nat.le_refl _
        | succ k ih =>
          intro u h
          by_cases hu : u < 10
          · rw [Lib.nDigits_small hu]; omega
          · rw [Lib.nDigits_big hu]
            have := ih (u / 10) (by rw [Nat.pow_succ] at h; omega)
            omega
      have := h3 17 u (by simpa using h)
      omega
    · exact h1
theorem itoa_inj {n m : Int} (h : Lib.itoa n = Lib.itoa m) : n = m := by
  have key : ∀ a b : Nat, Lib.decDigits a = Lib.decDigits b → a = b := fun a b hab => by rw [← dec_val a, ← dec_val b, hab]
  have h45 : ∀ (a : Nat) (r : List UInt8), (45 : UInt8) :: r ≠ Lib.decDigits a := fun a r e => by
    have := dec_digits a 45 (by rw [← e]; exact List.mem_cons_self ..)
    exact absurd this (by decide)
  unfold Lib.itoa at h
  split at h <;> split at h
  · have := key _ _ (List.cons.inj h).2; omega
  · exact absurd h (h45 _ _)
  · exact absurd h.symm (h45 _ _)
  · have := key _ _ h; omega
/-- What ParseInt makes of a numeral. -/
theorem parse_itoa {n : Int} (h1 : -9223372036854775808 ≤ n) (h2 : n ≤ 9223372036854775807) : Lib.parseIntB 64 (Lib.itoa n) = .ok n := by
  have hu : ∀ u : Nat, u ≤ 9223372036854775808 → Lib.parseUintB 64 (Lib.decDigits u) = .ok u := fun u hu => by
    unfold Lib.parseUintB
    rw [if_neg (dec_ne u), parseM_ok (by decide) _ _ (dec_digits u) (by rw [dec_val]; omega), dec_val]
  unfold Lib.itoa
  by_cases hn : n < 0
  · rw [if_pos hn]
    unfold Lib.parseIntB
    simp only []
    rw [if_pos (Or.inr (by decide)), hu _ (by omega)]
    simp only []
    rw [if_neg (by simp), if_neg (by simp; omega), if_pos (by decide)]
    congr 1; omega
  · rw [if_neg hn]
    have hne := dec_ne n.toNat
    have hdd := dec_digits n.toNat
    have hv := hu n.toNat (by omega)
    generalize Lib.decDigits n.toNat = l at *
    cases l with
    | nil => exact absurd rfl hne
    | cons c r =>
      have hc := of_decide_eq_true (hdd c (List.mem_cons_self ..))
      unfold Lib.parseIntB
      simp only []
      rw [if_neg (by omega), hv]
      simp only []
      rw [if_neg (by omega), if_neg (by omega), if_neg (by omega)]
      congr 1; omega
end Go.Proofs.YtdooajiobpjihaaDoor
