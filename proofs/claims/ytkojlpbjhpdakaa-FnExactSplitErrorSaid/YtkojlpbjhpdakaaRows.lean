/-
  No cell of these rows narrows 'for every input' (looked for: loops, veiled, ifaces, maps, wideKeys, modest, calm, conditions, laid).
  DERIVED. THE GIVEN ROWS OF THIS SEAT. 10 by the template 'for every input the law returns true; each argument reads behind the call as it read before'; 0 by the template 'total and deterministic' (their statements: YtkojlpbjhpdakaaTotals.lean).
  GIVEN WITH THE SEED: the statements are not yours to turn. If you find one false, say at which input.
  Laid BY PROGRAM, IN A SANDBOX (cutbox-rows.mjs): the forced cells as the released guide's own fill.sh prints them over the translation 418102be76cfd210… (all of the seat's roots in one cut). By AI agents, Wed Nov 11 2026. No macro, syntax, notation, axiom, sorry.
-/
import Derived.Test.YtkojlpbjhpdakaaChecked
import GoSem.Claim
import GoSem.ClaimJoined
import GoSem.ClaimMapViews
import Derived.JoinedTies
import Derived.KernelRfl
namespace Go.Proofs.Ytkojlpbjhpdakaa
/- THE CELL 'sum', in the pinned program and in every row, IS THE sha256 OF THE DUMP (.gsa) THAT YtkojlpbjhpdakaaProg.lean LOADS. Nothing in Lean hashes anything: it is a label: what it is worth is what the hold of that sum in a sandbox is worth. -/
noncomputable def Try.pinned : Pinned := { name := "ytkojlpbjhpdakaa", sum := "418102be76cfd2107aa65fd78e8bca5b931f25aabd7f67f7a95390bc0b702335", checked := Try.checked }
namespace Rows
def none {H : Type} : Left H := { results := [], args := [] }

/-- 'laws.FnExactReadStates': WHATEVER THE INPUT: true; the input reads as it did. -/
def fnExactReadStatesSpec : ChangeSpec := { name := "fnExactReadStates", fn := fun _ => fun
  | [d] => { results := [.lit (.bool true)], args := [d] }
  | _ => none }
def fnExactReadStatesRow : OpenClaim := { program := "ytkojlpbjhpdakaa", sum := "418102be76cfd2107aa65fd78e8bca5b931f25aabd7f67f7a95390bc0b702335", func := "loop.example/g01021/laws.FnExactReadStates", spec := "fnExactReadStates", apart := false }
def FnExactReadStatesSaid : Prop := fnExactReadStatesRow.holds Try.pinned (OpenSpec.ofChange fnExactReadStatesSpec)

/-- ITS FALSE NEIGHBOUR: 'it returns false'. Refute it at one input. -/
def fnExactReadStatesWrong : ChangeSpec := { name := "fnExactReadStates", fn := fun _ => fun
  | [d] => { results := [.lit (.bool false)], args := [d] }
  | _ => none }
def FnExactReadStatesWrongFalsely : Prop := fnExactReadStatesRow.holds Try.pinned (OpenSpec.ofChange fnExactReadStatesWrong)

/-- 'laws.FnExactSeriesResistance': WHATEVER THE INPUT: true; the input reads as it did. -/
def fnExactSeriesResistanceSpec : ChangeSpec := { name := "fnExactSeriesResistance", fn := fun _ => fun
  | [d] => { results := [.lit (.bool true)], args := [d] }
  | _ => none }
def fnExactSeriesResistanceRow : OpenClaim := { program := "ytkojlpbjhpdakaa", sum := "418102be76cfd2107aa65fd78e8bca5b931f25aabd7f67f7a95390bc0b702335", func := "loop.example/g01021/laws.FnExactSeriesResistance", spec := "fnExactSeriesResistance", unfollowed := true, recurses := true, apart := false }
def FnExactSeriesResistanceSaid : Prop := fnExactSeriesResistanceRow.holds Try.pinned (OpenSpec.ofChange fnExactSeriesResistanceSpec)

/-- ITS FALSE NEIGHBOUR: 'it returns false'. Refute it at one input. -/
def fnExactSeriesResistanceWrong : ChangeSpec := { name := "fnExactSeriesResistance", fn := fun _ => fun
  | [d] => { results := [.lit (.bool false)], args := [d] }
  | _ => none }
def FnExactSeriesResistanceWrongFalsely : Prop := fnExactSeriesResistanceRow.holds Try.pinned (OpenSpec.ofChange fnExactSeriesResistanceWrong)

/-- 'laws.FnExactShareBeside': WHATEVER THE INPUT: true; the input reads as it did. -/
def fnExactShareBesideSpec : ChangeSpec := { name := "fnExactShareBeside", fn := fun _ => fun
  | [d1, d2] => { results := [.lit (.bool true)], args := [d1, d2] }
  | _ => none }
def fnExactShareBesideRow : OpenClaim := { program := "ytkojlpbjhpdakaa", sum := "418102be76cfd2107aa65fd78e8bca5b931f25aabd7f67f7a95390bc0b702335", func := "loop.example/g01021/laws.FnExactShareBeside", spec := "fnExactShareBeside", unfollowed := true, recurses := true, apart := false }
def FnExactShareBesideSaid : Prop := fnExactShareBesideRow.holds Try.pinned (OpenSpec.ofChange fnExactShareBesideSpec)

/-- ITS FALSE NEIGHBOUR: 'it returns false'. Refute it at one input. -/
def fnExactShareBesideWrong : ChangeSpec := { name := "fnExactShareBeside", fn := fun _ => fun
  | [d1, d2] => { results := [.lit (.bool false)], args := [d1, d2] }
  | _ => none }
def FnExactShareBesideWrongFalsely : Prop := fnExactShareBesideRow.holds Try.pinned (OpenSpec.ofChange fnExactShareBesideWrong)

/-- 'laws.FnExactRegulatorFor': WHATEVER THE INPUT: true; the input reads as it did. -/
def fnExactRegulatorForSpec : ChangeSpec := { name := "fnExactRegulatorFor", fn := fun _ => fun
  | [d1, d2, d3] => { results := [.lit (.bool true)], args := [d1, d2, d3] }
  | _ => none }
def fnExactRegulatorForRow : OpenClaim := { program := "ytkojlpbjhpdakaa", sum := "418102be76cfd2107aa65fd78e8bca5b931f25aabd7f67f7a95390bc0b702335", func := "loop.example/g01021/laws.FnExactRegulatorFor", spec := "fnExactRegulatorFor", unfollowed := true, recurses := true, apart := false }
def FnExactRegulatorForSaid : Prop := fnExactRegulatorForRow.holds Try.pinned (OpenSpec.ofChange fnExactRegulatorForSpec)

/-- ITS FALSE NEIGHBOUR: 'it returns false'. Refute it at one input. -/
def fnExactRegulatorForWrong : ChangeSpec := { name := "fnExactRegulatorFor", fn := fun _ => fun
  | [d1, d2, d3] => { results := [.lit (.bool false)], args := [d1, d2, d3] }
  | _ => none }
def FnExactRegulatorForWrongFalsely : Prop := fnExactRegulatorForRow.holds Try.pinned (OpenSpec.ofChange fnExactRegulatorForWrong)

/-- 'laws.FnExactCloseLoop': WHATEVER THE INPUT: true; the input reads as it did. -/
def fnExactCloseLoopSpec : ChangeSpec := { name := "fnExactCloseLoop", fn := fun _ => fun
  | [d] => { results := [.lit (.bool true)], args := [d] }
  | _ => none }
def fnExactCloseLoopRow : OpenClaim := { program := "ytkojlpbjhpdakaa", sum := "418102be76cfd2107aa65fd78e8bca5b931f25aabd7f67f7a95390bc0b702335", func := "loop.example/g01021/laws.FnExactCloseLoop", spec := "fnExactCloseLoop", unfollowed := true, recurses := true, apart := false }
def FnExactCloseLoopSaid : Prop := fnExactCloseLoopRow.holds Try.pinned (OpenSpec.ofChange fnExactCloseLoopSpec)

/-- ITS FALSE NEIGHBOUR: 'it returns false'. Refute it at one input. -/
def fnExactCloseLoopWrong : ChangeSpec := { name := "fnExactCloseLoop", fn := fun _ => fun
  | [d] => { results := [.lit (.bool false)], args := [d] }
  | _ => none }
def FnExactCloseLoopWrongFalsely : Prop := fnExactCloseLoopRow.holds Try.pinned (OpenSpec.ofChange fnExactCloseLoopWrong)

/-- 'laws.FnExactRegulatorForShare': WHATEVER THE INPUT: true; the input reads as it did. -/
def fnExactRegulatorForShareSpec : ChangeSpec := { name := "fnExactRegulatorForShare", fn := fun _ => fun
  | [d1, d2, d3] => { results := [.lit (.bool true)], args := [d1, d2, d3] }
  | _ => none }
def fnExactRegulatorForShareRow : OpenClaim := { program := "ytkojlpbjhpdakaa", sum := "418102be76cfd2107aa65fd78e8bca5b931f25aabd7f67f7a95390bc0b702335", func := "loop.example/g01021/laws.FnExactRegulatorForShare", spec := "fnExactRegulatorForShare", unfollowed := true, recurses := true, apart := false }
def FnExactRegulatorForShareSaid : Prop := fnExactRegulatorForShareRow.holds Try.pinned (OpenSpec.ofChange fnExactRegulatorForShareSpec)

/-- ITS FALSE NEIGHBOUR: 'it returns false'. Refute it at one input. -/
def fnExactRegulatorForShareWrong : ChangeSpec := { name := "fnExactRegulatorForShare", fn := fun _ => fun
  | [d1, d2, d3] => { results := [.lit (.bool false)], args := [d1, d2, d3] }
  | _ => none }
def FnExactRegulatorForShareWrongFalsely : Prop := fnExactRegulatorForShareRow.holds Try.pinned (OpenSpec.ofChange fnExactRegulatorForShareWrong)

/-- 'laws.FnExactOtherResistance': WHATEVER THE INPUT: true; the input reads as it did. -/
def fnExactOtherResistanceSpec : ChangeSpec := { name := "fnExactOtherResistance", fn := fun _ => fun
  | [d1, d2] => { results := [.lit (.bool true)], args := [d1, d2] }
  | _ => none }
def fnExactOtherResistanceRow : OpenClaim := { program := "ytkojlpbjhpdakaa", sum := "418102be76cfd2107aa65fd78e8bca5b931f25aabd7f67f7a95390bc0b702335", func := "loop.example/g01021/laws.FnExactOtherResistance", spec := "fnExactOtherResistance", unfollowed := true, recurses := true, apart := false }
def FnExactOtherResistanceSaid : Prop := fnExactOtherResistanceRow.holds Try.pinned (OpenSpec.ofChange fnExactOtherResistanceSpec)

/-- ITS FALSE NEIGHBOUR: 'it returns false'. Refute it at one input. -/
def fnExactOtherResistanceWrong : ChangeSpec := { name := "fnExactOtherResistance", fn := fun _ => fun
  | [d1, d2] => { results := [.lit (.bool false)], args := [d1, d2] }
  | _ => none }
def FnExactOtherResistanceWrongFalsely : Prop := fnExactOtherResistanceRow.holds Try.pinned (OpenSpec.ofChange fnExactOtherResistanceWrong)

/-- 'laws.FnExactParallelResistance': WHATEVER THE INPUT: true; the input reads as it did. -/
def fnExactParallelResistanceSpec : ChangeSpec := { name := "fnExactParallelResistance", fn := fun _ => fun
  | [d] => { results := [.lit (.bool true)], args := [d] }
  | _ => none }
def fnExactParallelResistanceRow : OpenClaim := { program := "ytkojlpbjhpdakaa", sum := "418102be76cfd2107aa65fd78e8bca5b931f25aabd7f67f7a95390bc0b702335", func := "loop.example/g01021/laws.FnExactParallelResistance", spec := "fnExactParallelResistance", unfollowed := true, recurses := true, apart := false }
def FnExactParallelResistanceSaid : Prop := fnExactParallelResistanceRow.holds Try.pinned (OpenSpec.ofChange fnExactParallelResistanceSpec)

/-- ITS FALSE NEIGHBOUR: 'it returns false'. Refute it at one input. -/
def fnExactParallelResistanceWrong : ChangeSpec := { name := "fnExactParallelResistance", fn := fun _ => fun
  | [d] => { results := [.lit (.bool false)], args := [d] }
  | _ => none }
def FnExactParallelResistanceWrongFalsely : Prop := fnExactParallelResistanceRow.holds Try.pinned (OpenSpec.ofChange fnExactParallelResistanceWrong)

/-- 'laws.FnExactSplitFlow': WHATEVER THE INPUT: true; the input reads as it did. -/
def fnExactSplitFlowSpec : ChangeSpec := { name := "fnExactSplitFlow", fn := fun _ => fun
  | [d1, d2] => { results := [.lit (.bool true)], args := [d1, d2] }
  | _ => none }
def fnExactSplitFlowRow : OpenClaim := { program := "ytkojlpbjhpdakaa", sum := "418102be76cfd2107aa65fd78e8bca5b931f25aabd7f67f7a95390bc0b702335", func := "loop.example/g01021/laws.FnExactSplitFlow", spec := "fnExactSplitFlow", unfollowed := true, recurses := true, apart := false }
def FnExactSplitFlowSaid : Prop := fnExactSplitFlowRow.holds Try.pinned (OpenSpec.ofChange fnExactSplitFlowSpec)

/-- ITS FALSE NEIGHBOUR: 'it returns false'. Refute it at one input. -/
def fnExactSplitFlowWrong : ChangeSpec := { name := "fnExactSplitFlow", fn := fun _ => fun
  | [d1, d2] => { results := [.lit (.bool false)], args := [d1, d2] }
  | _ => none }
def FnExactSplitFlowWrongFalsely : Prop := fnExactSplitFlowRow.holds Try.pinned (OpenSpec.ofChange fnExactSplitFlowWrong)

/-- 'laws.FnExactSplitError': WHATEVER THE INPUT: true; the input reads as it did. -/
def fnExactSplitErrorSpec : ChangeSpec := { name := "fnExactSplitError", fn := fun _ => fun
  | [d1, d2] => { results := [.lit (.bool true)], args := [d1, d2] }
  | _ => none }
def fnExactSplitErrorRow : OpenClaim := { program := "ytkojlpbjhpdakaa", sum := "418102be76cfd2107aa65fd78e8bca5b931f25aabd7f67f7a95390bc0b702335", func := "loop.example/g01021/laws.FnExactSplitError", spec := "fnExactSplitError", unfollowed := true, recurses := true, apart := false }
def FnExactSplitErrorSaid : Prop := fnExactSplitErrorRow.holds Try.pinned (OpenSpec.ofChange fnExactSplitErrorSpec)

/-- ITS FALSE NEIGHBOUR: 'it returns false'. Refute it at one input. -/
def fnExactSplitErrorWrong : ChangeSpec := { name := "fnExactSplitError", fn := fun _ => fun
  | [d1, d2] => { results := [.lit (.bool false)], args := [d1, d2] }
  | _ => none }
def FnExactSplitErrorWrongFalsely : Prop := fnExactSplitErrorRow.holds Try.pinned (OpenSpec.ofChange fnExactSplitErrorWrong)

/- THE SECOND FORM. 'bulk': how many values and letters a reading holds, each counted each time it is reached (what is shared counts as often as it is met; a slice's spare places count too). A statement '..UptoSaid' is the law's where the arguments, and the package variables that the reading takes, are together of bulk at most 1048576: NARROWER than '..Said'. Prove '..Said' where nothing that the law and all that it calls make is longer than what came in: it says more and counts as full. Else prove '..UptoSaid'. A law counts once. -/
mutual
def uptoBulk {H : Type} : DataW H → Nat
  | .lit (.string bytes) => bytes.length + 1
  | .lit _ => 1
  | .nil => 1
  | .ptr d => uptoBulk d + 1
  | .slice elems spare => uptoBulkAll elems + uptoBulkAll spare + 1
  | .agg parts => uptoBulkAll parts + 1
  | .iface _ d => uptoBulk d + 1
  | .map entries => uptoBulkEntries entries + 1
  | .held _ => 1
def uptoBulkAll {H : Type} : List (DataW H) → Nat
  | [] => 0
  | d :: r => uptoBulk d + uptoBulkAll r
def uptoBulkEntries {H : Type} : List (Lit × DataW H) → Nat
  | [] => 0
  | x :: r => uptoBulkEntry x + uptoBulkEntries r
def uptoBulkEntry {H : Type} : Lit × DataW H → Nat
  | (.string bytes, d) => bytes.length + uptoBulk d + 1
  | (_, d) => uptoBulk d + 1
 end
def uptoSmall : (H : Type) → List (DataW H) → Bool := fun _ ds => decide (uptoBulkAll ds ≤ 1048576)
def OpenSpec.upto (s : _root_.Go.ChangeSpec) : _root_.Go.OpenSpec := { _root_.Go.OpenSpec.ofChange s with cond := some uptoSmall }

/-- 'laws.FnExactReadStates', WHERE WHAT IT READS IS OF BULK AT MOST 1048576: true; the input reads as it did. -/
def fnExactReadStatesUptoRow : OpenClaim := { program := "ytkojlpbjhpdakaa", sum := "418102be76cfd2107aa65fd78e8bca5b931f25aabd7f67f7a95390bc0b702335", func := "loop.example/g01021/laws.FnExactReadStates", spec := "fnExactReadStates", apart := false, narrowed := true }
def FnExactReadStatesUptoSaid : Prop := fnExactReadStatesUptoRow.holds Try.pinned (OpenSpec.upto fnExactReadStatesSpec)

/-- 'laws.FnExactSeriesResistance', WHERE WHAT IT READS IS OF BULK AT MOST 1048576: true; the input reads as it did. -/
def fnExactSeriesResistanceUptoRow : OpenClaim := { program := "ytkojlpbjhpdakaa", sum := "418102be76cfd2107aa65fd78e8bca5b931f25aabd7f67f7a95390bc0b702335", func := "loop.example/g01021/laws.FnExactSeriesResistance", spec := "fnExactSeriesResistance", unfollowed := true, recurses := true, apart := false, narrowed := true }
def FnExactSeriesResistanceUptoSaid : Prop := fnExactSeriesResistanceUptoRow.holds Try.pinned (OpenSpec.upto fnExactSeriesResistanceSpec)

/-- 'laws.FnExactShareBeside', WHERE WHAT IT READS IS OF BULK AT MOST 1048576: true; the input reads as it did. -/
def fnExactShareBesideUptoRow : OpenClaim := { program := "ytkojlpbjhpdakaa", sum := "418102be76cfd2107aa65fd78e8bca5b931f25aabd7f67f7a95390bc0b702335", func := "loop.example/g01021/laws.FnExactShareBeside", spec := "fnExactShareBeside", unfollowed := true, recurses := true, apart := false, narrowed := true }
def FnExactShareBesideUptoSaid : Prop := fnExactShareBesideUptoRow.holds Try.pinned (OpenSpec.upto fnExactShareBesideSpec)

/-- 'laws.FnExactRegulatorFor', WHERE WHAT IT READS IS OF BULK AT MOST 1048576: true; the input reads as it did. -/
def fnExactRegulatorForUptoRow : OpenClaim := { program := "ytkojlpbjhpdakaa", sum := "418102be76cfd2107aa65fd78e8bca5b931f25aabd7f67f7a95390bc0b702335", func := "loop.example/g01021/laws.FnExactRegulatorFor", spec := "fnExactRegulatorFor", unfollowed := true, recurses := true, apart := false, narrowed := true }
def FnExactRegulatorForUptoSaid : Prop := fnExactRegulatorForUptoRow.holds Try.pinned (OpenSpec.upto fnExactRegulatorForSpec)

/-- 'laws.FnExactCloseLoop', WHERE WHAT IT READS IS OF BULK AT MOST 1048576: true; the input reads as it did. -/
def fnExactCloseLoopUptoRow : OpenClaim := { program := "ytkojlpbjhpdakaa", sum := "418102be76cfd2107aa65fd78e8bca5b931f25aabd7f67f7a95390bc0b702335", func := "loop.example/g01021/laws.FnExactCloseLoop", spec := "fnExactCloseLoop", unfollowed := true, recurses := true, apart := false, narrowed := true }
def FnExactCloseLoopUptoSaid : Prop := fnExactCloseLoopUptoRow.holds Try.pinned (OpenSpec.upto fnExactCloseLoopSpec)

/-- 'laws.FnExactRegulatorForShare', WHERE WHAT IT READS IS OF BULK AT MOST 1048576: true; the input reads as it did. -/
def fnExactRegulatorForShareUptoRow : OpenClaim := { program := "ytkojlpbjhpdakaa", sum := "418102be76cfd2107aa65fd78e8bca5b931f25aabd7f67f7a95390bc0b702335", func := "loop.example/g01021/laws.FnExactRegulatorForShare", spec := "fnExactRegulatorForShare", unfollowed := true, recurses := true, apart := false, narrowed := true }
def FnExactRegulatorForShareUptoSaid : Prop := fnExactRegulatorForShareUptoRow.holds Try.pinned (OpenSpec.upto fnExactRegulatorForShareSpec)

/-- 'laws.FnExactOtherResistance', WHERE WHAT IT READS IS OF BULK AT MOST 1048576: true; the input reads as it did. -/
def fnExactOtherResistanceUptoRow : OpenClaim := { program := "ytkojlpbjhpdakaa", sum := "418102be76cfd2107aa65fd78e8bca5b931f25aabd7f67f7a95390bc0b702335", func := "loop.example/g01021/laws.FnExactOtherResistance", spec := "fnExactOtherResistance", unfollowed := true, recurses := true, apart := false, narrowed := true }
def FnExactOtherResistanceUptoSaid : Prop := fnExactOtherResistanceUptoRow.holds Try.pinned (OpenSpec.upto fnExactOtherResistanceSpec)

/-- 'laws.FnExactParallelResistance', WHERE WHAT IT READS IS OF BULK AT MOST 1048576: true; the input reads as it did. -/
def fnExactParallelResistanceUptoRow : OpenClaim := { program := "ytkojlpbjhpdakaa", sum := "418102be76cfd2107aa65fd78e8bca5b931f25aabd7f67f7a95390bc0b702335", func := "loop.example/g01021/laws.FnExactParallelResistance", spec := "fnExactParallelResistance", unfollowed := true, recurses := true, apart := false, narrowed := true }
def FnExactParallelResistanceUptoSaid : Prop := fnExactParallelResistanceUptoRow.holds Try.pinned (OpenSpec.upto fnExactParallelResistanceSpec)

/-- 'laws.FnExactSplitFlow', WHERE WHAT IT READS IS OF BULK AT MOST 1048576: true; the input reads as it did. -/
def fnExactSplitFlowUptoRow : OpenClaim := { program := "ytkojlpbjhpdakaa", sum := "418102be76cfd2107aa65fd78e8bca5b931f25aabd7f67f7a95390bc0b702335", func := "loop.example/g01021/laws.FnExactSplitFlow", spec := "fnExactSplitFlow", unfollowed := true, recurses := true, apart := false, narrowed := true }
def FnExactSplitFlowUptoSaid : Prop := fnExactSplitFlowUptoRow.holds Try.pinned (OpenSpec.upto fnExactSplitFlowSpec)

/-- 'laws.FnExactSplitError', WHERE WHAT IT READS IS OF BULK AT MOST 1048576: true; the input reads as it did. -/
def fnExactSplitErrorUptoRow : OpenClaim := { program := "ytkojlpbjhpdakaa", sum := "418102be76cfd2107aa65fd78e8bca5b931f25aabd7f67f7a95390bc0b702335", func := "loop.example/g01021/laws.FnExactSplitError", spec := "fnExactSplitError", unfollowed := true, recurses := true, apart := false, narrowed := true }
def FnExactSplitErrorUptoSaid : Prop := fnExactSplitErrorUptoRow.holds Try.pinned (OpenSpec.upto fnExactSplitErrorSpec)

end Rows
end Go.Proofs.Ytkojlpbjhpdakaa
