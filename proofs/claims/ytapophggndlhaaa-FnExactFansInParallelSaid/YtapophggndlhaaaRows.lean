/-
  No cell of these rows narrows 'for every input' (looked for: loops, veiled, ifaces, maps, wideKeys, modest, calm, conditions, laid).
  DERIVED. THE GIVEN ROWS OF THIS SEAT. 8 by the template 'for every input the law returns true; each argument reads behind the call as it read before'; 0 by the template 'total and deterministic' (their statements: YtapophggndlhaaaTotals.lean).
  GIVEN WITH THE SEED: the statements are not yours to turn. If you find one false, say at which input.
  Laid BY PROGRAM, IN A SANDBOX (cutbox-rows.mjs): the forced cells as the released guide's own fill.sh prints them over the translation 940d7a5ea352bd81… (all of the seat's roots in one cut). By AI agents, Wed Nov 11 2026. No macro, syntax, notation, axiom, sorry.
-/
import Derived.Test.YtapophggndlhaaaChecked
import GoSem.Claim
import GoSem.ClaimJoined
import GoSem.ClaimMapViews
import Derived.JoinedTies
import Derived.KernelRfl
namespace Go.Proofs.Ytapophggndlhaaa
/- THE CELL 'sum', in the pinned program and in every row, IS THE sha256 OF THE DUMP (.gsa) THAT YtapophggndlhaaaProg.lean LOADS. Nothing in Lean hashes anything: it is a label: what it is worth is what the hold of that sum in a sandbox is worth. -/
noncomputable def Try.pinned : Pinned := { name := "ytapophggndlhaaa", sum := "940d7a5ea352bd81f6f6d3ab190abdc5f326438ce9ead37173b79026ce56761e", checked := Try.checked }
namespace Rows
def none {H : Type} : Left H := { results := [], args := [] }

/-- 'laws.FnExactSpeedFan': WHATEVER THE INPUT: true; the input reads as it did. -/
def fnExactSpeedFanSpec : ChangeSpec := { name := "fnExactSpeedFan", fn := fun _ => fun
  | [d1, d2, d3] => { results := [.lit (.bool true)], args := [d1, d2, d3] }
  | _ => none }
def fnExactSpeedFanRow : OpenClaim := { program := "ytapophggndlhaaa", sum := "940d7a5ea352bd81f6f6d3ab190abdc5f326438ce9ead37173b79026ce56761e", func := "loop.example/g01021/laws.FnExactSpeedFan", spec := "fnExactSpeedFan", apart := false }
def FnExactSpeedFanSaid : Prop := fnExactSpeedFanRow.holds Try.pinned (OpenSpec.ofChange fnExactSpeedFanSpec)

/-- ITS FALSE NEIGHBOUR: 'it returns false'. Refute it at one input. -/
def fnExactSpeedFanWrong : ChangeSpec := { name := "fnExactSpeedFan", fn := fun _ => fun
  | [d1, d2, d3] => { results := [.lit (.bool false)], args := [d1, d2, d3] }
  | _ => none }
def FnExactSpeedFanWrongFalsely : Prop := fnExactSpeedFanRow.holds Try.pinned (OpenSpec.ofChange fnExactSpeedFanWrong)

/-- 'laws.FnExactPressureAt': WHATEVER THE INPUT: true; the input reads as it did. -/
def fnExactPressureAtSpec : ChangeSpec := { name := "fnExactPressureAt", fn := fun _ => fun
  | [d1, d2] => { results := [.lit (.bool true)], args := [d1, d2] }
  | _ => none }
def fnExactPressureAtRow : OpenClaim := { program := "ytapophggndlhaaa", sum := "940d7a5ea352bd81f6f6d3ab190abdc5f326438ce9ead37173b79026ce56761e", func := "loop.example/g01021/laws.FnExactPressureAt", spec := "fnExactPressureAt", apart := false }
def FnExactPressureAtSaid : Prop := fnExactPressureAtRow.holds Try.pinned (OpenSpec.ofChange fnExactPressureAtSpec)

/-- ITS FALSE NEIGHBOUR: 'it returns false'. Refute it at one input. -/
def fnExactPressureAtWrong : ChangeSpec := { name := "fnExactPressureAt", fn := fun _ => fun
  | [d1, d2] => { results := [.lit (.bool false)], args := [d1, d2] }
  | _ => none }
def FnExactPressureAtWrongFalsely : Prop := fnExactPressureAtRow.holds Try.pinned (OpenSpec.ofChange fnExactPressureAtWrong)

/-- 'laws.FnExactFanPower': WHATEVER THE INPUT: true; the input reads as it did. -/
def fnExactFanPowerSpec : ChangeSpec := { name := "fnExactFanPower", fn := fun _ => fun
  | [d1, d2] => { results := [.lit (.bool true)], args := [d1, d2] }
  | _ => none }
def fnExactFanPowerRow : OpenClaim := { program := "ytapophggndlhaaa", sum := "940d7a5ea352bd81f6f6d3ab190abdc5f326438ce9ead37173b79026ce56761e", func := "loop.example/g01021/laws.FnExactFanPower", spec := "fnExactFanPower", apart := false }
def FnExactFanPowerSaid : Prop := fnExactFanPowerRow.holds Try.pinned (OpenSpec.ofChange fnExactFanPowerSpec)

/-- ITS FALSE NEIGHBOUR: 'it returns false'. Refute it at one input. -/
def fnExactFanPowerWrong : ChangeSpec := { name := "fnExactFanPower", fn := fun _ => fun
  | [d1, d2] => { results := [.lit (.bool false)], args := [d1, d2] }
  | _ => none }
def FnExactFanPowerWrongFalsely : Prop := fnExactFanPowerRow.holds Try.pinned (OpenSpec.ofChange fnExactFanPowerWrong)

/-- 'laws.FnExactSurgeFlow': WHATEVER THE INPUT: true; the input reads as it did. -/
def fnExactSurgeFlowSpec : ChangeSpec := { name := "fnExactSurgeFlow", fn := fun _ => fun
  | [d] => { results := [.lit (.bool true)], args := [d] }
  | _ => none }
def fnExactSurgeFlowRow : OpenClaim := { program := "ytapophggndlhaaa", sum := "940d7a5ea352bd81f6f6d3ab190abdc5f326438ce9ead37173b79026ce56761e", func := "loop.example/g01021/laws.FnExactSurgeFlow", spec := "fnExactSurgeFlow", unfollowed := true, recurses := true, apart := false }
def FnExactSurgeFlowSaid : Prop := fnExactSurgeFlowRow.holds Try.pinned (OpenSpec.ofChange fnExactSurgeFlowSpec)

/-- ITS FALSE NEIGHBOUR: 'it returns false'. Refute it at one input. -/
def fnExactSurgeFlowWrong : ChangeSpec := { name := "fnExactSurgeFlow", fn := fun _ => fun
  | [d] => { results := [.lit (.bool false)], args := [d] }
  | _ => none }
def FnExactSurgeFlowWrongFalsely : Prop := fnExactSurgeFlowRow.holds Try.pinned (OpenSpec.ofChange fnExactSurgeFlowWrong)

/-- 'laws.FnExactWorkingPoint': WHATEVER THE INPUT: true; the input reads as it did. -/
def fnExactWorkingPointSpec : ChangeSpec := { name := "fnExactWorkingPoint", fn := fun _ => fun
  | [d1, d2] => { results := [.lit (.bool true)], args := [d1, d2] }
  | _ => none }
def fnExactWorkingPointRow : OpenClaim := { program := "ytapophggndlhaaa", sum := "940d7a5ea352bd81f6f6d3ab190abdc5f326438ce9ead37173b79026ce56761e", func := "loop.example/g01021/laws.FnExactWorkingPoint", spec := "fnExactWorkingPoint", unfollowed := true, recurses := true, apart := false }
def FnExactWorkingPointSaid : Prop := fnExactWorkingPointRow.holds Try.pinned (OpenSpec.ofChange fnExactWorkingPointSpec)

/-- ITS FALSE NEIGHBOUR: 'it returns false'. Refute it at one input. -/
def fnExactWorkingPointWrong : ChangeSpec := { name := "fnExactWorkingPoint", fn := fun _ => fun
  | [d1, d2] => { results := [.lit (.bool false)], args := [d1, d2] }
  | _ => none }
def FnExactWorkingPointWrongFalsely : Prop := fnExactWorkingPointRow.holds Try.pinned (OpenSpec.ofChange fnExactWorkingPointWrong)

/-- 'laws.FnExactBestFan': WHATEVER THE INPUT: true; the input reads as it did. -/
def fnExactBestFanSpec : ChangeSpec := { name := "fnExactBestFan", fn := fun _ => fun
  | [d1, d2, d3] => { results := [.lit (.bool true)], args := [d1, d2, d3] }
  | _ => none }
def fnExactBestFanRow : OpenClaim := { program := "ytapophggndlhaaa", sum := "940d7a5ea352bd81f6f6d3ab190abdc5f326438ce9ead37173b79026ce56761e", func := "loop.example/g01021/laws.FnExactBestFan", spec := "fnExactBestFan", unfollowed := true, recurses := true, apart := false }
def FnExactBestFanSaid : Prop := fnExactBestFanRow.holds Try.pinned (OpenSpec.ofChange fnExactBestFanSpec)

/-- ITS FALSE NEIGHBOUR: 'it returns false'. Refute it at one input. -/
def fnExactBestFanWrong : ChangeSpec := { name := "fnExactBestFan", fn := fun _ => fun
  | [d1, d2, d3] => { results := [.lit (.bool false)], args := [d1, d2, d3] }
  | _ => none }
def FnExactBestFanWrongFalsely : Prop := fnExactBestFanRow.holds Try.pinned (OpenSpec.ofChange fnExactBestFanWrong)

/-- 'laws.FnExactFansInSeries': WHATEVER THE INPUT: true; the input reads as it did. -/
def fnExactFansInSeriesSpec : ChangeSpec := { name := "fnExactFansInSeries", fn := fun _ => fun
  | [d1, d2] => { results := [.lit (.bool true)], args := [d1, d2] }
  | _ => none }
def fnExactFansInSeriesRow : OpenClaim := { program := "ytapophggndlhaaa", sum := "940d7a5ea352bd81f6f6d3ab190abdc5f326438ce9ead37173b79026ce56761e", func := "loop.example/g01021/laws.FnExactFansInSeries", spec := "fnExactFansInSeries", recurses := true, apart := false }
def FnExactFansInSeriesSaid : Prop := fnExactFansInSeriesRow.holds Try.pinned (OpenSpec.ofChange fnExactFansInSeriesSpec)

/-- ITS FALSE NEIGHBOUR: 'it returns false'. Refute it at one input. -/
def fnExactFansInSeriesWrong : ChangeSpec := { name := "fnExactFansInSeries", fn := fun _ => fun
  | [d1, d2] => { results := [.lit (.bool false)], args := [d1, d2] }
  | _ => none }
def FnExactFansInSeriesWrongFalsely : Prop := fnExactFansInSeriesRow.holds Try.pinned (OpenSpec.ofChange fnExactFansInSeriesWrong)

/-- 'laws.FnExactFansInParallel': WHATEVER THE INPUT: true; the input reads as it did. -/
def fnExactFansInParallelSpec : ChangeSpec := { name := "fnExactFansInParallel", fn := fun _ => fun
  | [d1, d2] => { results := [.lit (.bool true)], args := [d1, d2] }
  | _ => none }
def fnExactFansInParallelRow : OpenClaim := { program := "ytapophggndlhaaa", sum := "940d7a5ea352bd81f6f6d3ab190abdc5f326438ce9ead37173b79026ce56761e", func := "loop.example/g01021/laws.FnExactFansInParallel", spec := "fnExactFansInParallel", unfollowed := true, recurses := true, apart := false }
def FnExactFansInParallelSaid : Prop := fnExactFansInParallelRow.holds Try.pinned (OpenSpec.ofChange fnExactFansInParallelSpec)

/-- ITS FALSE NEIGHBOUR: 'it returns false'. Refute it at one input. -/
def fnExactFansInParallelWrong : ChangeSpec := { name := "fnExactFansInParallel", fn := fun _ => fun
  | [d1, d2] => { results := [.lit (.bool false)], args := [d1, d2] }
  | _ => none }
def FnExactFansInParallelWrongFalsely : Prop := fnExactFansInParallelRow.holds Try.pinned (OpenSpec.ofChange fnExactFansInParallelWrong)

/- THE SECOND FORM. 'bulk': how many values and letters a reading holds, each counted each time it is reached (what is shared counts as often as it is met; a slice's spare places count too). A statement '..UptoSaid' is the law's where the arguments, and the package variables that the reading takes, are together of bulk at most 1048576: NARROWER than '..Said'. Prove '..Said' where nothing that the law and all that it calls make is longer than what came in: it says more and counts as full. Else prove '..UptoSaid'. A law counts once. -/
mutual
def uptoBulk {H : Type} : DataW H → Nat
  | .lit (.string bytes) => bytes.length + 1
  | .lit _ => 1
  | .nil => 1
  | .ptr d => uptoBulk d + 1
  | .slice elems spare => uptoBulkAll elems + uptoBulkAll spare + 1
  | .agg parts => uptoBulkAll parts + 1
  | .iface _ d => uptoBulk d + 1
  | .map entries => uptoBulkEntries entries + 1
  | .held _ => 1
def uptoBulkAll {H : Type} : List (DataW H) → Nat
  | [] => 0
  | d :: r => uptoBulk d + uptoBulkAll r
def uptoBulkEntries {H : Type} : List (Lit × DataW H) → Nat
  | [] => 0
  | x :: r => uptoBulkEntry x + uptoBulkEntries r
def uptoBulkEntry {H : Type} : Lit × DataW H → Nat
  | (.string bytes, d) => bytes.length + uptoBulk d + 1
  | (_, d) => uptoBulk d + 1
 end
def uptoSmall : (H : Type) → List (DataW H) → Bool := fun _ ds => decide (uptoBulkAll ds ≤ 1048576)
def OpenSpec.upto (s : _root_.Go.ChangeSpec) : _root_.Go.OpenSpec := { _root_.Go.OpenSpec.ofChange s with cond := some uptoSmall }

/-- 'laws.FnExactSpeedFan', WHERE WHAT IT READS IS OF BULK AT MOST 1048576: true; the input reads as it did. -/
def fnExactSpeedFanUptoRow : OpenClaim := { program := "ytapophggndlhaaa", sum := "940d7a5ea352bd81f6f6d3ab190abdc5f326438ce9ead37173b79026ce56761e", func := "loop.example/g01021/laws.FnExactSpeedFan", spec := "fnExactSpeedFan", apart := false, narrowed := true }
def FnExactSpeedFanUptoSaid : Prop := fnExactSpeedFanUptoRow.holds Try.pinned (OpenSpec.upto fnExactSpeedFanSpec)

/-- 'laws.FnExactPressureAt', WHERE WHAT IT READS IS OF BULK AT MOST 1048576: true; the input reads as it did. -/
def fnExactPressureAtUptoRow : OpenClaim := { program := "ytapophggndlhaaa", sum := "940d7a5ea352bd81f6f6d3ab190abdc5f326438ce9ead37173b79026ce56761e", func := "loop.example/g01021/laws.FnExactPressureAt", spec := "fnExactPressureAt", apart := false, narrowed := true }
def FnExactPressureAtUptoSaid : Prop := fnExactPressureAtUptoRow.holds Try.pinned (OpenSpec.upto fnExactPressureAtSpec)

/-- 'laws.FnExactFanPower', WHERE WHAT IT READS IS OF BULK AT MOST 1048576: true; the input reads as it did. -/
def fnExactFanPowerUptoRow : OpenClaim := { program := "ytapophggndlhaaa", sum := "940d7a5ea352bd81f6f6d3ab190abdc5f326438ce9ead37173b79026ce56761e", func := "loop.example/g01021/laws.FnExactFanPower", spec := "fnExactFanPower", apart := false, narrowed := true }
def FnExactFanPowerUptoSaid : Prop := fnExactFanPowerUptoRow.holds Try.pinned (OpenSpec.upto fnExactFanPowerSpec)

/-- 'laws.FnExactSurgeFlow', WHERE WHAT IT READS IS OF BULK AT MOST 1048576: true; the input reads as it did. -/
def fnExactSurgeFlowUptoRow : OpenClaim := { program := "ytapophggndlhaaa", sum := "940d7a5ea352bd81f6f6d3ab190abdc5f326438ce9ead37173b79026ce56761e", func := "loop.example/g01021/laws.FnExactSurgeFlow", spec := "fnExactSurgeFlow", unfollowed := true, recurses := true, apart := false, narrowed := true }
def FnExactSurgeFlowUptoSaid : Prop := fnExactSurgeFlowUptoRow.holds Try.pinned (OpenSpec.upto fnExactSurgeFlowSpec)

/-- 'laws.FnExactWorkingPoint', WHERE WHAT IT READS IS OF BULK AT MOST 1048576: true; the input reads as it did. -/
def fnExactWorkingPointUptoRow : OpenClaim := { program := "ytapophggndlhaaa", sum := "940d7a5ea352bd81f6f6d3ab190abdc5f326438ce9ead37173b79026ce56761e", func := "loop.example/g01021/laws.FnExactWorkingPoint", spec := "fnExactWorkingPoint", unfollowed := true, recurses := true, apart := false, narrowed := true }
def FnExactWorkingPointUptoSaid : Prop := fnExactWorkingPointUptoRow.holds Try.pinned (OpenSpec.upto fnExactWorkingPointSpec)

/-- 'laws.FnExactBestFan', WHERE WHAT IT READS IS OF BULK AT MOST 1048576: true; the input reads as it did. -/
def fnExactBestFanUptoRow : OpenClaim := { program := "ytapophggndlhaaa", sum := "940d7a5ea352bd81f6f6d3ab190abdc5f326438ce9ead37173b79026ce56761e", func := "loop.example/g01021/laws.FnExactBestFan", spec := "fnExactBestFan", unfollowed := true, recurses := true, apart := false, narrowed := true }
def FnExactBestFanUptoSaid : Prop := fnExactBestFanUptoRow.holds Try.pinned (OpenSpec.upto fnExactBestFanSpec)

/-- 'laws.FnExactFansInSeries', WHERE WHAT IT READS IS OF BULK AT MOST 1048576: true; the input reads as it did. -/
def fnExactFansInSeriesUptoRow : OpenClaim := { program := "ytapophggndlhaaa", sum := "940d7a5ea352bd81f6f6d3ab190abdc5f326438ce9ead37173b79026ce56761e", func := "loop.example/g01021/laws.FnExactFansInSeries", spec := "fnExactFansInSeries", recurses := true, apart := false, narrowed := true }
def FnExactFansInSeriesUptoSaid : Prop := fnExactFansInSeriesUptoRow.holds Try.pinned (OpenSpec.upto fnExactFansInSeriesSpec)

/-- 'laws.FnExactFansInParallel', WHERE WHAT IT READS IS OF BULK AT MOST 1048576: true; the input reads as it did. -/
def fnExactFansInParallelUptoRow : OpenClaim := { program := "ytapophggndlhaaa", sum := "940d7a5ea352bd81f6f6d3ab190abdc5f326438ce9ead37173b79026ce56761e", func := "loop.example/g01021/laws.FnExactFansInParallel", spec := "fnExactFansInParallel", unfollowed := true, recurses := true, apart := false, narrowed := true }
def FnExactFansInParallelUptoSaid : Prop := fnExactFansInParallelUptoRow.holds Try.pinned (OpenSpec.upto fnExactFansInParallelSpec)

end Rows
end Go.Proofs.Ytapophggndlhaaa
