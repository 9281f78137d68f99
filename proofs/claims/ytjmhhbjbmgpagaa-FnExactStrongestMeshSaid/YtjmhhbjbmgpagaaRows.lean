/-
  No cell of these rows narrows 'for every input' (looked for: loops, veiled, ifaces, maps, wideKeys, modest, calm, conditions, laid).
  DERIVED. THE GIVEN ROWS OF THIS SEAT. 7 by the template 'for every input the law returns true; each argument reads behind the call as it read before'; 0 by the template 'total and deterministic' (their statements: YtjmhhbjbmgpagaaTotals.lean).
  GIVEN WITH THE SEED: the statements are not yours to turn. If you find one false, say at which input.
  Laid BY PROGRAM, IN A SANDBOX (cutbox-rows.mjs): the forced cells as the released guide's own fill.sh prints them over the translation 6719dde6d49f4dda… (all of the seat's roots in one cut). By AI agents, Wed Nov 11 2026. No macro, syntax, notation, axiom, sorry.
-/
import Derived.Test.YtjmhhbjbmgpagaaChecked
import GoSem.Claim
import GoSem.ClaimJoined
import GoSem.ClaimMapViews
import Derived.JoinedTies
import Derived.KernelRfl
namespace Go.Proofs.Ytjmhhbjbmgpagaa
/- THE CELL 'sum', in the pinned program and in every row, IS THE sha256 OF THE DUMP (.gsa) THAT YtjmhhbjbmgpagaaProg.lean LOADS. Nothing in Lean hashes anything: it is a label: what it is worth is what the hold of that sum in a sandbox is worth. -/
noncomputable def Try.pinned : Pinned := { name := "ytjmhhbjbmgpagaa", sum := "6719dde6d49f4dda95f1817c0829dd3bd826629ad02b81c96987b7c2f719ad5b", checked := Try.checked }
namespace Rows
def none {H : Type} : Left H := { results := [], args := [] }

/-- 'laws.FnExactWalkDraught': WHATEVER THE INPUT: true; the input reads as it did. -/
def fnExactWalkDraughtSpec : ChangeSpec := { name := "fnExactWalkDraught", fn := fun _ => fun
  | [d1, d2, d3, d4] => { results := [.lit (.bool true)], args := [d1, d2, d3, d4] }
  | _ => none }
def fnExactWalkDraughtRow : OpenClaim := { program := "ytjmhhbjbmgpagaa", sum := "6719dde6d49f4dda95f1817c0829dd3bd826629ad02b81c96987b7c2f719ad5b", func := "loop.example/g01021/laws.FnExactWalkDraught", spec := "fnExactWalkDraught", unfollowed := true, recurses := true, apart := false }
def FnExactWalkDraughtSaid : Prop := fnExactWalkDraughtRow.holds Try.pinned (OpenSpec.ofChange fnExactWalkDraughtSpec)

/-- ITS FALSE NEIGHBOUR: 'it returns false'. Refute it at one input. -/
def fnExactWalkDraughtWrong : ChangeSpec := { name := "fnExactWalkDraught", fn := fun _ => fun
  | [d1, d2, d3, d4] => { results := [.lit (.bool false)], args := [d1, d2, d3, d4] }
  | _ => none }
def FnExactWalkDraughtWrongFalsely : Prop := fnExactWalkDraughtRow.holds Try.pinned (OpenSpec.ofChange fnExactWalkDraughtWrong)

/-- 'laws.FnExactFlowsOfMeshes': WHATEVER THE INPUT: true; the input reads as it did. -/
def fnExactFlowsOfMeshesSpec : ChangeSpec := { name := "fnExactFlowsOfMeshes", fn := fun _ => fun
  | [d1, d2] => { results := [.lit (.bool true)], args := [d1, d2] }
  | _ => none }
def fnExactFlowsOfMeshesRow : OpenClaim := { program := "ytjmhhbjbmgpagaa", sum := "6719dde6d49f4dda95f1817c0829dd3bd826629ad02b81c96987b7c2f719ad5b", func := "loop.example/g01021/laws.FnExactFlowsOfMeshes", spec := "fnExactFlowsOfMeshes", unfollowed := true, recurses := true, apart := false }
def FnExactFlowsOfMeshesSaid : Prop := fnExactFlowsOfMeshesRow.holds Try.pinned (OpenSpec.ofChange fnExactFlowsOfMeshesSpec)

/-- ITS FALSE NEIGHBOUR: 'it returns false'. Refute it at one input. -/
def fnExactFlowsOfMeshesWrong : ChangeSpec := { name := "fnExactFlowsOfMeshes", fn := fun _ => fun
  | [d1, d2] => { results := [.lit (.bool false)], args := [d1, d2] }
  | _ => none }
def FnExactFlowsOfMeshesWrongFalsely : Prop := fnExactFlowsOfMeshesRow.holds Try.pinned (OpenSpec.ofChange fnExactFlowsOfMeshesWrong)

/-- 'laws.FnExactStrongestMesh': WHATEVER THE INPUT: true; the input reads as it did. -/
def fnExactStrongestMeshSpec : ChangeSpec := { name := "fnExactStrongestMesh", fn := fun _ => fun
  | [d1, d2, d3] => { results := [.lit (.bool true)], args := [d1, d2, d3] }
  | _ => none }
def fnExactStrongestMeshRow : OpenClaim := { program := "ytjmhhbjbmgpagaa", sum := "6719dde6d49f4dda95f1817c0829dd3bd826629ad02b81c96987b7c2f719ad5b", func := "loop.example/g01021/laws.FnExactStrongestMesh", spec := "fnExactStrongestMesh", unfollowed := true, recurses := true, apart := false }
def FnExactStrongestMeshSaid : Prop := fnExactStrongestMeshRow.holds Try.pinned (OpenSpec.ofChange fnExactStrongestMeshSpec)

/-- ITS FALSE NEIGHBOUR: 'it returns false'. Refute it at one input. -/
def fnExactStrongestMeshWrong : ChangeSpec := { name := "fnExactStrongestMesh", fn := fun _ => fun
  | [d1, d2, d3] => { results := [.lit (.bool false)], args := [d1, d2, d3] }
  | _ => none }
def FnExactStrongestMeshWrongFalsely : Prop := fnExactStrongestMeshRow.holds Try.pinned (OpenSpec.ofChange fnExactStrongestMeshWrong)

/-- 'laws.FnExactPushesOf': WHATEVER THE INPUT: true; the input reads as it did. -/
def fnExactPushesOfSpec : ChangeSpec := { name := "fnExactPushesOf", fn := fun _ => fun
  | [d1, d2, d3, d4] => { results := [.lit (.bool true)], args := [d1, d2, d3, d4] }
  | _ => none }
def fnExactPushesOfRow : OpenClaim := { program := "ytjmhhbjbmgpagaa", sum := "6719dde6d49f4dda95f1817c0829dd3bd826629ad02b81c96987b7c2f719ad5b", func := "loop.example/g01021/laws.FnExactPushesOf", spec := "fnExactPushesOf", unfollowed := true, recurses := true, apart := false }
def FnExactPushesOfSaid : Prop := fnExactPushesOfRow.holds Try.pinned (OpenSpec.ofChange fnExactPushesOfSpec)

/-- ITS FALSE NEIGHBOUR: 'it returns false'. Refute it at one input. -/
def fnExactPushesOfWrong : ChangeSpec := { name := "fnExactPushesOf", fn := fun _ => fun
  | [d1, d2, d3, d4] => { results := [.lit (.bool false)], args := [d1, d2, d3, d4] }
  | _ => none }
def FnExactPushesOfWrongFalsely : Prop := fnExactPushesOfRow.holds Try.pinned (OpenSpec.ofChange fnExactPushesOfWrong)

/-- 'laws.FnExactMeshErrors': WHATEVER THE INPUT: true; the input reads as it did. -/
def fnExactMeshErrorsSpec : ChangeSpec := { name := "fnExactMeshErrors", fn := fun _ => fun
  | [d1, d2, d3, d4] => { results := [.lit (.bool true)], args := [d1, d2, d3, d4] }
  | _ => none }
def fnExactMeshErrorsRow : OpenClaim := { program := "ytjmhhbjbmgpagaa", sum := "6719dde6d49f4dda95f1817c0829dd3bd826629ad02b81c96987b7c2f719ad5b", func := "loop.example/g01021/laws.FnExactMeshErrors", spec := "fnExactMeshErrors", unfollowed := true, recurses := true, apart := false }
def FnExactMeshErrorsSaid : Prop := fnExactMeshErrorsRow.holds Try.pinned (OpenSpec.ofChange fnExactMeshErrorsSpec)

/-- ITS FALSE NEIGHBOUR: 'it returns false'. Refute it at one input. -/
def fnExactMeshErrorsWrong : ChangeSpec := { name := "fnExactMeshErrors", fn := fun _ => fun
  | [d1, d2, d3, d4] => { results := [.lit (.bool false)], args := [d1, d2, d3, d4] }
  | _ => none }
def FnExactMeshErrorsWrongFalsely : Prop := fnExactMeshErrorsRow.holds Try.pinned (OpenSpec.ofChange fnExactMeshErrorsWrong)

/-- 'laws.FnExactCorrectMesh': WHATEVER THE INPUT: true; the input reads as it did. -/
def fnExactCorrectMeshSpec : ChangeSpec := { name := "fnExactCorrectMesh", fn := fun _ => fun
  | [d1, d2, d3, d4, d5] => { results := [.lit (.bool true)], args := [d1, d2, d3, d4, d5] }
  | _ => none }
def fnExactCorrectMeshRow : OpenClaim := { program := "ytjmhhbjbmgpagaa", sum := "6719dde6d49f4dda95f1817c0829dd3bd826629ad02b81c96987b7c2f719ad5b", func := "loop.example/g01021/laws.FnExactCorrectMesh", spec := "fnExactCorrectMesh", unfollowed := true, recurses := true, apart := false }
def FnExactCorrectMeshSaid : Prop := fnExactCorrectMeshRow.holds Try.pinned (OpenSpec.ofChange fnExactCorrectMeshSpec)

/-- ITS FALSE NEIGHBOUR: 'it returns false'. Refute it at one input. -/
def fnExactCorrectMeshWrong : ChangeSpec := { name := "fnExactCorrectMesh", fn := fun _ => fun
  | [d1, d2, d3, d4, d5] => { results := [.lit (.bool false)], args := [d1, d2, d3, d4, d5] }
  | _ => none }
def FnExactCorrectMeshWrongFalsely : Prop := fnExactCorrectMeshRow.holds Try.pinned (OpenSpec.ofChange fnExactCorrectMeshWrong)

/-- 'laws.FnExactReduceMine': WHATEVER THE INPUT: true; the input reads as it did. -/
def fnExactReduceMineSpec : ChangeSpec := { name := "fnExactReduceMine", fn := fun _ => fun
  | [d1, d2, d3, d4] => { results := [.lit (.bool true)], args := [d1, d2, d3, d4] }
  | _ => none }
def fnExactReduceMineRow : OpenClaim := { program := "ytjmhhbjbmgpagaa", sum := "6719dde6d49f4dda95f1817c0829dd3bd826629ad02b81c96987b7c2f719ad5b", func := "loop.example/g01021/laws.FnExactReduceMine", spec := "fnExactReduceMine", unfollowed := true, recurses := true, apart := false }
def FnExactReduceMineSaid : Prop := fnExactReduceMineRow.holds Try.pinned (OpenSpec.ofChange fnExactReduceMineSpec)

/-- ITS FALSE NEIGHBOUR: 'it returns false'. Refute it at one input. -/
def fnExactReduceMineWrong : ChangeSpec := { name := "fnExactReduceMine", fn := fun _ => fun
  | [d1, d2, d3, d4] => { results := [.lit (.bool false)], args := [d1, d2, d3, d4] }
  | _ => none }
def FnExactReduceMineWrongFalsely : Prop := fnExactReduceMineRow.holds Try.pinned (OpenSpec.ofChange fnExactReduceMineWrong)

/- THE SECOND FORM. 'bulk': how many values and letters a reading holds, each counted each time it is reached (what is shared counts as often as it is met; a slice's spare places count too). A statement '..UptoSaid' is the law's where the arguments, and the package variables that the reading takes, are together of bulk at most 1048576: NARROWER than '..Said'. Prove '..Said' where nothing that the law and all that it calls make is longer than what came in: it says more and counts as full. Else prove '..UptoSaid'. A law counts once. -/
mutual
def uptoBulk {H : Type} : DataW H → Nat
  | .lit (.string bytes) => bytes.length + 1
  | .lit _ => 1
  | .nil => 1
  | .ptr d => uptoBulk d + 1
  | .slice elems spare => uptoBulkAll elems + uptoBulkAll spare + 1
  | .agg parts => uptoBulkAll parts + 1
  | .iface _ d => uptoBulk d + 1
  | .map entries => uptoBulkEntries entries + 1
  | .held _ => 1
def uptoBulkAll {H : Type} : List (DataW H) → Nat
  | [] => 0
  | d :: r => uptoBulk d + uptoBulkAll r
def uptoBulkEntries {H : Type} : List (Lit × DataW H) → Nat
  | [] => 0
  | x :: r => uptoBulkEntry x + uptoBulkEntries r
def uptoBulkEntry {H : Type} : Lit × DataW H → Nat
  | (.string bytes, d) => bytes.length + uptoBulk d + 1
  | (_, d) => uptoBulk d + 1
 end
def uptoSmall : (H : Type) → List (DataW H) → Bool := fun _ ds => decide (uptoBulkAll ds ≤ 1048576)
def OpenSpec.upto (s : _root_.Go.ChangeSpec) : _root_.Go.OpenSpec := { _root_.Go.OpenSpec.ofChange s with cond := some uptoSmall }

/-- 'laws.FnExactWalkDraught', WHERE WHAT IT READS IS OF BULK AT MOST 1048576: true; the input reads as it did. -/
def fnExactWalkDraughtUptoRow : OpenClaim := { program := "ytjmhhbjbmgpagaa", sum := "6719dde6d49f4dda95f1817c0829dd3bd826629ad02b81c96987b7c2f719ad5b", func := "loop.example/g01021/laws.FnExactWalkDraught", spec := "fnExactWalkDraught", unfollowed := true, recurses := true, apart := false, narrowed := true }
def FnExactWalkDraughtUptoSaid : Prop := fnExactWalkDraughtUptoRow.holds Try.pinned (OpenSpec.upto fnExactWalkDraughtSpec)

/-- 'laws.FnExactFlowsOfMeshes', WHERE WHAT IT READS IS OF BULK AT MOST 1048576: true; the input reads as it did. -/
def fnExactFlowsOfMeshesUptoRow : OpenClaim := { program := "ytjmhhbjbmgpagaa", sum := "6719dde6d49f4dda95f1817c0829dd3bd826629ad02b81c96987b7c2f719ad5b", func := "loop.example/g01021/laws.FnExactFlowsOfMeshes", spec := "fnExactFlowsOfMeshes", unfollowed := true, recurses := true, apart := false, narrowed := true }
def FnExactFlowsOfMeshesUptoSaid : Prop := fnExactFlowsOfMeshesUptoRow.holds Try.pinned (OpenSpec.upto fnExactFlowsOfMeshesSpec)

/-- 'laws.FnExactStrongestMesh', WHERE WHAT IT READS IS OF BULK AT MOST 1048576: true; the input reads as it did. -/
def fnExactStrongestMeshUptoRow : OpenClaim := { program := "ytjmhhbjbmgpagaa", sum := "6719dde6d49f4dda95f1817c0829dd3bd826629ad02b81c96987b7c2f719ad5b", func := "loop.example/g01021/laws.FnExactStrongestMesh", spec := "fnExactStrongestMesh", unfollowed := true, recurses := true, apart := false, narrowed := true }
def FnExactStrongestMeshUptoSaid : Prop := fnExactStrongestMeshUptoRow.holds Try.pinned (OpenSpec.upto fnExactStrongestMeshSpec)

/-- 'laws.FnExactPushesOf', WHERE WHAT IT READS IS OF BULK AT MOST 1048576: true; the input reads as it did. -/
def fnExactPushesOfUptoRow : OpenClaim := { program := "ytjmhhbjbmgpagaa", sum := "6719dde6d49f4dda95f1817c0829dd3bd826629ad02b81c96987b7c2f719ad5b", func := "loop.example/g01021/laws.FnExactPushesOf", spec := "fnExactPushesOf", unfollowed := true, recurses := true, apart := false, narrowed := true }
def FnExactPushesOfUptoSaid : Prop := fnExactPushesOfUptoRow.holds Try.pinned (OpenSpec.upto fnExactPushesOfSpec)

/-- 'laws.FnExactMeshErrors', WHERE WHAT IT READS IS OF BULK AT MOST 1048576: true; the input reads as it did. -/
def fnExactMeshErrorsUptoRow : OpenClaim := { program := "ytjmhhbjbmgpagaa", sum := "6719dde6d49f4dda95f1817c0829dd3bd826629ad02b81c96987b7c2f719ad5b", func := "loop.example/g01021/laws.FnExactMeshErrors", spec := "fnExactMeshErrors", unfollowed := true, recurses := true, apart := false, narrowed := true }
def FnExactMeshErrorsUptoSaid : Prop := fnExactMeshErrorsUptoRow.holds Try.pinned (OpenSpec.upto fnExactMeshErrorsSpec)

/-- 'laws.FnExactCorrectMesh', WHERE WHAT IT READS IS OF BULK AT MOST 1048576: true; the input reads as it did. -/
def fnExactCorrectMeshUptoRow : OpenClaim := { program := "ytjmhhbjbmgpagaa", sum := "6719dde6d49f4dda95f1817c0829dd3bd826629ad02b81c96987b7c2f719ad5b", func := "loop.example/g01021/laws.FnExactCorrectMesh", spec := "fnExactCorrectMesh", unfollowed := true, recurses := true, apart := false, narrowed := true }
def FnExactCorrectMeshUptoSaid : Prop := fnExactCorrectMeshUptoRow.holds Try.pinned (OpenSpec.upto fnExactCorrectMeshSpec)

/-- 'laws.FnExactReduceMine', WHERE WHAT IT READS IS OF BULK AT MOST 1048576: true; the input reads as it did. -/
def fnExactReduceMineUptoRow : OpenClaim := { program := "ytjmhhbjbmgpagaa", sum := "6719dde6d49f4dda95f1817c0829dd3bd826629ad02b81c96987b7c2f719ad5b", func := "loop.example/g01021/laws.FnExactReduceMine", spec := "fnExactReduceMine", unfollowed := true, recurses := true, apart := false, narrowed := true }
def FnExactReduceMineUptoSaid : Prop := fnExactReduceMineUptoRow.holds Try.pinned (OpenSpec.upto fnExactReduceMineSpec)

end Rows
end Go.Proofs.Ytjmhhbjbmgpagaa
