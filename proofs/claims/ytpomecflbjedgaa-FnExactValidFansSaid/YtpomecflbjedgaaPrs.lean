/- Contracts of the pressure of a fan. -/
import Derived.Test.YtpomecflbjedgaaFanQ
import Derived.Test.YtpomecflbjedgaaFanH
namespace Go.Proofs.Ytpomecflbjedgaa
set_option linter.unusedVariables false
set_option linter.unusedSimpArgs false
open Go.RowKit
/-- A point of a curve, opened. -/
theorem pt_at {w : World} {B n k : Nat} {A : Option Addr} {rs : List Row} (hr : RSS w B A n rs) (hok : crvOk (dat rs) = true) (hk : k < n) :
    ∃ ad ra cc, A = some ad ∧ w.cell? (ad.add k) = some (.slice (some ra) 2 cc) ∧ w.cell? ra = some (.int .i64 (lockA (dat rs) k)) ∧ w.cell? (ra.add 0) = some (.int .i64 (lockA (dat rs) k)) ∧ w.cell? ⟨ra.block, ra.off + 1, none⟩ = some (.int .i64 (lockB (dat rs) k)) := by
  obtain ⟨ad, r, e, hx, hc, hrr⟩ := hr.at_ hk
  obtain ⟨x1, x2, x3⟩ := lock_row (dat_at hx)
  have hl : (dat rs).length = n := by rw [dat_len]; exact hr.len
  have h2 := crv_two ((crvOk_t hok).2.2 k (by omega))
  obtain ⟨ra, hA, hn2, c0, c0', c1⟩ := open_two hrr (by omega)
  rw [← x2] at c0 c0'
  rw [← x3] at c1
  rw [hA, hn2] at hc
  exact ⟨ad, ra, _, e, hc, c0, c0', c1⟩
theorem line_in {x0 y0 x1 y1 x : Int} (hx0 : 0 ≤ x0 ∧ x0 ≤ 100000) (hy0 : 0 ≤ y0 ∧ y0 ≤ 10000) (hx1 : 0 ≤ x1 ∧ x1 ≤ 100000) (hy1 : 0 ≤ y1 ∧ y1 ≤ 10000) (hx : -100000 ≤ x ∧ x ≤ 100000) :
    -2000000000 ≤ (y1 - y0) * (x - x0) ∧ (y1 - y0) * (x - x0) ≤ 2000000000 := mul_bnd (X := 10000) (Y := 200000) (by omega) (by omega) (by omega) (by omega) (by omega)
end Go.Proofs.Ytpomecflbjedgaa
