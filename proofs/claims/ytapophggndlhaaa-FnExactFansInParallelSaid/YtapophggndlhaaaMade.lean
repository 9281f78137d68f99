/- Points made so far; what a call returns that makes a fan. -/
import Derived.Test.YtapophggndlhaaaMkR
namespace Go.Proofs.Ytapophggndlhaaa
set_option linter.unusedVariables false
set_option linter.unusedSimpArgs false
open Go.RowKit
theorem OSS.nil (w : World) (lo : Nat) : OSS w lo none 0 0 [] := ⟨own_nil w lo _ _, fun r h => by simp at h, List.Pairwise.nil⟩
/-- A row of two numbers behind rows of the call's own. -/
theorem oss_app {w w6 : World} {lo k c c' : Nat} {A A' : Option Addr} {rs : List Row} (x y : Int) (h : OSS w lo A k c rs) (hlo : lo ≤ w.heap.size)
    (ho : w6.ownsRow lo 53 1 (.slice A' (k + 1) c') (k + 1) (rowsV rs ++ [.slice (some ⟨w.heap.size, 0, none⟩) 2 2]))
    (hg : ((w.alloc (.cells #[.int .i64 x, .int .i64 y] 2)).alloc (.cells #[.slice (some ⟨w.heap.size, 0, none⟩) 2 2] 53)).grownBy w6 (Value.ownBlock (.slice A k c))) :
    OSS w6 lo A' (k + 1) c' (rs ++ [⟨some ⟨w.heap.size, 0, none⟩, 2, 2, [x, y]⟩]) := by
  have hb : Below w.heap.size w ((w.alloc (.cells #[.int .i64 x, .int .i64 y] 2)).alloc (.cells #[.slice (some ⟨w.heap.size, 0, none⟩) 2 2] 53)) :=
    ((Below.refl _ _).alloc (Nat.le_refl _) _).alloc (by simp) _
  have hblk : Blk ((w.alloc (.cells #[.int .i64 x, .int .i64 y] 2)).alloc (.cells #[.slice (some ⟨w.heap.size, 0, none⟩) 2 2] 53)) w.heap.size 2 #[.int .i64 x, .int .i64 y] := (Blk.new w _ _).alloc _
  refine ⟨by unfold rowsV at *; rw [List.map_append]; exact ho, fun r hr => ?_, ?_⟩
  · rcases List.mem_append.1 hr with hr | hr
    · exact own_keep (own_below (h.row r hr) hb) hg fun b g1 g2 => own_ne (h.row r hr) h.out (by decide) b g1 g2
    · rw [List.mem_singleton] at hr
      subst hr
      have h1 : ((w.alloc (.cells #[.int .i64 x, .int .i64 y] 2)).alloc (.cells #[.slice (some ⟨w.heap.size, 0, none⟩) 2 2] 53)).ownsRow w.heap.size 2 1 (.slice (some ⟨w.heap.size, 0, none⟩) 2 2) 2 (ints [x, y]) :=
        own_of_blk hblk rfl rfl (by unfold maxLen; omega) (fun j _ => by rw [← Array.getElem?_toList]; rfl)
      refine own_base (own_keep h1 hg fun b g1 g2 => ?_) hlo
      have h2 := (h.out.lt b g2).2
      injection g1 with g1
      subst g1
      exact absurd h2 (Nat.lt_irrefl _)
  · rw [List.pairwise_append]
    refine ⟨h.apart, List.pairwise_singleton _ _, fun q hq s hs j h1 h2 => ?_⟩
    rw [List.mem_singleton] at hs
    subst hs
    have h3 := ((h.row q hq).lt j h1).2
    injection h2 with h2
    subst h2
    exact absurd h3 (Nat.lt_irrefl _)
/-- What a call returns that makes a fan. -/
def fanRet (w : World) (s : ByteArray) (a : Int) (cs : List (List Int)) (code : Int) (e : Ending) (w' : World) : Prop :=
  ∃ A n c rs, e = .returned (.tuple #[.agg #[.string s, .int .i64 a, .slice A n c], .int .i64 code]) ∧ OSS w' w.heap.size A n c rs ∧ dat rs = cs ∧ n ≤ 1048576 ∧ (∀ r ∈ rs, r.n ≤ 1048576) ∧ tot rs ≤ 1048576 ∧ Below w.heap.size w w'
theorem fanRet_no {w w' : World} {code : Int} (h : Below w.heap.size w w') : fanRet w ByteArray.empty 0 [] code (.returned (.tuple #[.agg #[.string ByteArray.empty, .int .i64 0, .slice none 0 0], .int .i64 code])) w' :=
  ⟨none, 0, 0, [], rfl, OSS.nil _ _, rfl, by omega, fun r h => by simp at h, by simp [tot], h⟩
def okS (code : Int) (s : ByteArray) : ByteArray := if code = 0 then s else ByteArray.empty
def okA (code a : Int) : Int := if code = 0 then a else 0
def okC (code : Int) (cs : List (List Int)) : List (List Int) := if code = 0 then cs else []
theorem tot_two : ∀ {rs : List Row}, (∀ r ∈ rs, r.n = 2) → tot rs = 2 * rs.length
  | [], _ => rfl
  | r :: t, h => by
    have h1 := tot_two (rs := t) fun q hq => h q (List.mem_cons_of_mem _ hq)
    have h2 := h r (List.mem_cons_self ..)
    simp only [tot, List.length_cons]
    rw [h1, h2]; omega
/-- Points made so far: their rows, in the call's own memory. -/
structure Made (w : World) (lo : Nat) (A : Option Addr) (k c : Nat) (cs : List (List Int)) (rs : List Row) : Prop where
  oss : OSS w lo A k c rs
  dat : dat rs = cs
  two : ∀ r ∈ rs, r.n = 2
theorem Made.len {w : World} {lo k c : Nat} {A : Option Addr} {cs : List (List Int)} {rs : List Row} (h : Made w lo A k c cs rs) : cs.length = k := by rw [← h.dat, dat_len]; exact h.oss.reads.len
theorem Made.below {w w' : World} {lo k c : Nat} {A : Option Addr} {cs : List (List Int)} {rs : List Row} (h : Made w lo A k c cs rs) (hb : Below w.heap.size w w') : Made w' lo A k c cs rs := ⟨h.oss.below hb, h.dat, h.two⟩
theorem Made.app {w w6 : World} {lo k c c' : Nat} {A A' : Option Addr} {cs : List (List Int)} {rs : List Row} (x y : Int) (h : Made w lo A k c cs rs) (hlo : lo ≤ w.heap.size)
    (ho : w6.ownsRow lo 53 1 (.slice A' (k + 1) c') (k + 1) (rowsV rs ++ [.slice (some ⟨w.heap.size, 0, none⟩) 2 2]))
    (hg : ((w.alloc (.cells #[.int .i64 x, .int .i64 y] 2)).alloc (.cells #[.slice (some ⟨w.heap.size, 0, none⟩) 2 2] 53)).grownBy w6 (Value.ownBlock (.slice A k c))) :
    Made w6 lo A' (k + 1) c' (cs ++ [[x, y]]) (rs ++ [⟨some ⟨w.heap.size, 0, none⟩, 2, 2, [x, y]⟩]) := by
  refine ⟨oss_app x y h.oss hlo ho hg, by rw [← h.dat]; simp [Go.Proofs.Ytapophggndlhaaa.dat], fun r hr => ?_⟩
  rcases List.mem_append.1 hr with hr | hr
  · exact h.two r hr
  · rw [List.mem_singleton] at hr; subst hr; rfl
theorem Made.ret {w w' : World} {A : Option Addr} {k c : Nat} {cs : List (List Int)} {rs : List Row} {s : ByteArray} {a : Int} (h : Made w' w.heap.size A k c cs rs) (hk : k ≤ 1000) (hb : Below w.heap.size w w') :
    fanRet w s a cs 0 (.returned (.tuple #[.agg #[.string s, .int .i64 a, .slice A k c], .int .i64 0])) w' := by
  have hl := h.oss.reads.len
  exact ⟨A, k, c, rs, rfl, h.oss, h.dat, by omega, fun r hr => by rw [h.two r hr]; omega, by rw [tot_two h.two]; omega, hb⟩
theorem news_row (w : World) (x y : Value) : ∀ j u, [Value.slice (some ⟨w.heap.size, 0, none⟩) 2 2][j]? = some u →
    ((w.drew.alloc (.cells #[x, y] 2)).alloc (.cells #[.slice (some ⟨w.heap.size, 0, none⟩) 2 2] 53)).cell? ((⟨w.heap.size + 1, 0, none⟩ : Addr).add j) = some u := by
  have h := World.news_of_block (cs := #[Value.slice (some ⟨w.heap.size, 0, none⟩) 2 2]) (t := 53) (fr := (0, 0)) (heap_alloc_new (w.drew.alloc (.cells #[x, y] 2)) (.cells #[Value.slice (some ⟨w.heap.size, 0, none⟩) 2 2] 53))
  rw [show (w.drew.alloc (.cells #[x, y] 2)).heap.size = w.heap.size + 1 by simp] at h
  exact h
theorem Made.setLow {w : World} {lo k c : Nat} {A : Option Addr} {cs : List (List Int)} {rs : List Row} (h : Made w lo A k c cs rs) {p : Addr} (hp : p.block < lo) (u : Value) : Made (w.setCell p u) lo A k c cs rs := ⟨h.oss.setLow hp u, h.dat, h.two⟩
theorem Made.base {w : World} {lo lo' k c : Nat} {A : Option Addr} {cs : List (List Int)} {rs : List Row} (h : Made w lo A k c cs rs) (hl : lo' ≤ lo) : Made w lo' A k c cs rs := ⟨h.oss.base hl, h.dat, h.two⟩
theorem Made.cast {w : World} {lo k c : Nat} {A : Option Addr} {cs ds : List (List Int)} {rs : List Row} (h : Made w lo A k c cs rs) (e : cs = ds) : Made w lo A k c ds rs := e ▸ h
/-- A fan that was made is put into the result. -/
theorem fanRet_put {w w1 w7 : World} {A : Option Addr} {k c g : Nat} {cs : List (List Int)} {rs : List Row} {s : ByteArray} {a : Int} (u0 u1 u2 : Value) (h : Made w7 w1.heap.size A k c cs rs) (hk : k ≤ 1000) (hb : Below w.heap.size w w7) (hg : w.heap.size ≤ g) (hg1 : g < w1.heap.size) (h1 : w.heap.size ≤ w1.heap.size) :
    fanRet w s a cs 0 (.returned (.tuple #[.agg #[.string s, .int .i64 a, .slice A k c], .int .i64 0])) (((w7.setCell ⟨g, 0, none⟩ u0).setCell ⟨g, 1, none⟩ u1).setCell ⟨g, 2, none⟩ u2) :=
  Made.ret ((((h.setLow (p := ⟨g, 0, none⟩) hg1 u0).setLow (p := ⟨g, 1, none⟩) hg1 u1).setLow (p := ⟨g, 2, none⟩) hg1 u2).base h1) hk (((hb.setCell (p := ⟨g, 0, none⟩) hg u0).setCell (p := ⟨g, 1, none⟩) hg u1).setCell (p := ⟨g, 2, none⟩) hg u2)
end Go.Proofs.Ytapophggndlhaaa
