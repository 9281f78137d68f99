/- What a statement leaves that puts a made fan into a variable, whatever the order of its calls and of the variable's birth. -/
import Derived.Test.YtapophggndlhaaaMade
namespace Go.Proofs.Ytapophggndlhaaa
set_option linter.unusedVariables false
set_option linter.unusedSimpArgs false
open Go.RowKit
theorem RSS.to {w W : World} {A : Option Addr} {n : Nat} {rs : List Row} (h : RSS w w.heap.size A n rs) (hb : Below w.heap.size w W) : RSS W W.heap.size A n rs := (h.below hb).more hb.size
def FanCut (w4 : World) (s : ByteArray) (a : Int) (cs : List (List Int)) (code : Int) (s6 s7 : Value) (wx : World) : Prop :=
  ∃ g A n c rs, s6 = .pointer (some ⟨g, 0, none⟩) ∧ s7 = .int .i64 code ∧ g < wx.heap.size ∧ wx.cell? ⟨g, 0, none⟩ = some (.string s) ∧ wx.cell? ⟨g, 1, none⟩ = some (.int .i64 a) ∧ wx.cell? ⟨g, 2, none⟩ = some (.slice A n c) ∧
    OSS wx w4.heap.size A n c rs ∧ dat rs = cs ∧ n ≤ 1048576 ∧ (∀ r ∈ rs, r.n ≤ 1048576) ∧ tot rs ≤ 1048576 ∧ Below w4.heap.size w4 wx
theorem fanCut_new {w4 w7 : World} {s : ByteArray} {a code : Int} {cs : List (List Int)} {lo n c : Nat} {A : Option Addr} {rs : List Row} (ho : OSS w7 lo A n c rs) (hlo : w4.heap.size ≤ lo) (hD : dat rs = cs) (hn : n ≤ 1048576) (hM : ∀ r ∈ rs, r.n ≤ 1048576) (hT : tot rs ≤ 1048576) (hb : Below w4.heap.size w4 w7) :
    FanCut w4 s a cs code (.pointer (some ⟨w7.heap.size, 0, none⟩)) (.int .i64 code) (w7.alloc (.cells #[.string s, .int .i64 a, .slice A n c] 26)) := by
  have hk := Blk.new w7 26 #[.string s, .int .i64 a, .slice A n c]
  exact ⟨w7.heap.size, A, n, c, rs, rfl, rfl, hk.lt, (hk.cell 0).trans rfl, (hk.cell 1).trans rfl, (hk.cell 2).trans rfl, (ho.base hlo).below ((Below.refl _ _).alloc (Nat.le_refl _) _), hD, hn, hM, hT, hb.alloc hb.size _⟩
theorem fanCut_set {w4 w7 : World} {s : ByteArray} {a code : Int} {cs : List (List Int)} {lo g n c : Nat} {A : Option Addr} {rs : List Row} {z0 z1 z2 : Value} (hk : Blk w7 g 26 #[z0, z1, z2]) (hg : w4.heap.size ≤ g) (hgl : g < lo) (ho : OSS w7 lo A n c rs) (hD : dat rs = cs) (hn : n ≤ 1048576) (hM : ∀ r ∈ rs, r.n ≤ 1048576) (hT : tot rs ≤ 1048576) (hb : Below w4.heap.size w4 w7) :
    FanCut w4 s a cs code (.pointer (some ⟨g, 0, none⟩)) (.int .i64 code) (((w7.setCell ⟨g, 0, none⟩ (.string s)).setCell ⟨g, 1, none⟩ (.int .i64 a)).setCell ⟨g, 2, none⟩ (.slice A n c)) := by
  have h3 := ((hk.set_ 0 (.string s)).set_ 1 (.int .i64 a)).set_ 2 (.slice A n c)
  exact ⟨g, A, n, c, rs, rfl, rfl, h3.lt, (h3.cell 0).trans rfl, (h3.cell 1).trans rfl, (h3.cell 2).trans rfl, (((ho.setLow (p := ⟨g, 0, none⟩) hgl _).setLow (p := ⟨g, 1, none⟩) hgl _).setLow (p := ⟨g, 2, none⟩) hgl _).base (by omega), hD, hn, hM, hT,
    ((hb.setCell (p := ⟨g, 0, none⟩) hg _).setCell (p := ⟨g, 1, none⟩) hg _).setCell (p := ⟨g, 2, none⟩) hg _⟩
end Go.Proofs.Ytapophggndlhaaa
