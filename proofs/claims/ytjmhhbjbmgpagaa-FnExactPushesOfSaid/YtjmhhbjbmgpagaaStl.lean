/- Contracts of StillAirways and of DepthsOf. -/
import Derived.Test.YtjmhhbjbmgpagaaLev
namespace Go.Proofs.Ytjmhhbjbmgpagaa
set_option linter.unusedVariables false
set_option linter.unusedSimpArgs false
open Go.RowKit
def stlTo (fs : List Int) (q : Int) : Nat → List Int
  | 0 => []
  | k + 1 => if absI (fs.getD k 0) < q then stlTo fs q k ++ [(k : Int)] else stlTo fs q k
theorem stlTo_y {fs : List Int} {q f : Int} {k : Nat} (h : fs[k]? = some f) (hp : absI f < q) : stlTo fs q (k + 1) = stlTo fs q k ++ [(k : Int)] := by
  have e : fs.getD k 0 = f := by rw [List.getD_eq_getElem?_getD, h]; rfl
  simp only [stlTo]; rw [e, if_pos hp]
theorem stlTo_n {fs : List Int} {q f : Int} {k : Nat} (h : fs[k]? = some f) (hp : ¬ absI f < q) : stlTo fs q (k + 1) = stlTo fs q k := by
  have e : fs.getD k 0 = f := by rw [List.getD_eq_getElem?_getD, h]; rfl
  simp only [stlTo]; rw [e, if_neg hp]
def stlR (J : Int) (xs : List Awy) (fs : List Int) (q : Int) : List Int × Int :=
  if mineOk J xs = true then (if inB q 0 100000 = true then (if lstOk xs.length (-100000) 100000 fs = true then (stlTo fs q fs.length, 0) else ([], 7)) else ([], 2)) else ([], 1)
theorem stlR_1 {J : Int} {xs : List Awy} {fs : List Int} {q : Int} (h : mineOk J xs = false) : stlR J xs fs q = ([], 1) := by unfold stlR; rw [h]; rfl
theorem stlR_2 {J : Int} {xs : List Awy} {fs : List Int} {q : Int} (h : mineOk J xs = true) (h1 : inB q 0 100000 = false) : stlR J xs fs q = ([], 2) := by unfold stlR; rw [h, h1]; rfl
theorem stlR_3 {J : Int} {xs : List Awy} {fs : List Int} {q : Int} (h : mineOk J xs = true) (h1 : inB q 0 100000 = true) (h2 : lstOk xs.length (-100000) 100000 fs = false) : stlR J xs fs q = ([], 7) := by unfold stlR; rw [h, h1, h2]; rfl
theorem stlR_4 {J : Int} {xs : List Awy} {fs : List Int} {q : Int} (h : mineOk J xs = true) (h1 : inB q 0 100000 = true) (h2 : lstOk xs.length (-100000) 100000 fs = true) : stlR J xs fs q = (stlTo fs q fs.length, 0) := by unfold stlR; rw [h, h1, h2]; rfl
def dpR (J : Int) (xs : List Awy) (ls : List Int) : List Int × Int :=
  if mineOk J xs = true then (if lstOk J (-3000) 3000 ls = true then (ls.map (fun l => maxL ls - l), 0) else ([], 7)) else ([], 1)
theorem dpR_1 {J : Int} {xs : List Awy} {ls : List Int} (h : mineOk J xs = false) : dpR J xs ls = ([], 1) := by unfold dpR; rw [h]; rfl
theorem dpR_2 {J : Int} {xs : List Awy} {ls : List Int} (h : mineOk J xs = true) (h1 : lstOk J (-3000) 3000 ls = false) : dpR J xs ls = ([], 7) := by unfold dpR; rw [h, h1]; rfl
theorem dpR_3 {J : Int} {xs : List Awy} {ls : List Int} (h : mineOk J xs = true) (h1 : lstOk J (-3000) 3000 ls = true) : dpR J xs ls = (ls.map (fun l => maxL ls - l), 0) := by unfold dpR; rw [h, h1]; rfl
theorem dp_snoc {ls : List Int} {t l : Int} {k : Nat} (h : ls[k]? = some l) : (ls.take (k + 1)).map (fun l => t - l) = (ls.take k).map (fun l => t - l) ++ [t - l] := by rw [take_snoc h]; simp
end Go.Proofs.Ytjmhhbjbmgpagaa
