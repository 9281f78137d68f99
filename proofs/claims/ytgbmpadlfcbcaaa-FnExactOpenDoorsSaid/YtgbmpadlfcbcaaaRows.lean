/-
  No cell of these rows narrows 'for every input' (looked for: loops, veiled, ifaces, maps, wideKeys, modest, calm, conditions, laid).
  DERIVED. THE GIVEN ROWS OF THIS SEAT. 11 by the template 'for every input the law returns true; each argument reads behind the call as it read before'; 0 by the template 'total and deterministic' (their statements: YtgbmpadlfcbcaaaTotals.lean).
  GIVEN WITH THE SEED: the statements are not yours to turn. If you find one false, say at which input.
  Laid BY PROGRAM, IN A SANDBOX (cutbox-rows.mjs): the forced cells as the released guide's own fill.sh prints them over the translation 9e9a1062e9b15a5d… (all of the seat's roots in one cut). By AI agents, Wed Nov 11 2026. No macro, syntax, notation, axiom, sorry.
-/
import Derived.Test.YtgbmpadlfcbcaaaChecked
import GoSem.Claim
import GoSem.ClaimJoined
import GoSem.ClaimMapViews
import Derived.JoinedTies
import Derived.KernelRfl
namespace Go.Proofs.Ytgbmpadlfcbcaaa
/- THE CELL 'sum', in the pinned program and in every row, IS THE sha256 OF THE DUMP (.gsa) THAT YtgbmpadlfcbcaaaProg.lean LOADS. Nothing in Lean hashes anything: it is a label: what it is worth is what the hold of that sum in a sandbox is worth. -/
noncomputable def Try.pinned : Pinned := { name := "ytgbmpadlfcbcaaa", sum := "9e9a1062e9b15a5d319431928120515a1a25ecb35fee34e8f3b104edc7b3bc43", checked := Try.checked }
namespace Rows
def none {H : Type} : Left H := { results := [], args := [] }

/-- 'laws.FnExactSteepestOf': WHATEVER THE INPUT: true; the input reads as it did. -/
def fnExactSteepestOfSpec : ChangeSpec := { name := "fnExactSteepestOf", fn := fun _ => fun
  | [d1, d2] => { results := [.lit (.bool true)], args := [d1, d2] }
  | _ => none }
def fnExactSteepestOfRow : OpenClaim := { program := "ytgbmpadlfcbcaaa", sum := "9e9a1062e9b15a5d319431928120515a1a25ecb35fee34e8f3b104edc7b3bc43", func := "loop.example/g01021/laws.FnExactSteepestOf", spec := "fnExactSteepestOf", unfollowed := true, recurses := true, apart := false }
def FnExactSteepestOfSaid : Prop := fnExactSteepestOfRow.holds Try.pinned (OpenSpec.ofChange fnExactSteepestOfSpec)

/-- ITS FALSE NEIGHBOUR: 'it returns false'. Refute it at one input. -/
def fnExactSteepestOfWrong : ChangeSpec := { name := "fnExactSteepestOf", fn := fun _ => fun
  | [d1, d2] => { results := [.lit (.bool false)], args := [d1, d2] }
  | _ => none }
def FnExactSteepestOfWrongFalsely : Prop := fnExactSteepestOfRow.holds Try.pinned (OpenSpec.ofChange fnExactSteepestOfWrong)

/-- 'laws.FnExactIsBalanced': WHATEVER THE INPUT: true; the input reads as it did. -/
def fnExactIsBalancedSpec : ChangeSpec := { name := "fnExactIsBalanced", fn := fun _ => fun
  | [d1, d2] => { results := [.lit (.bool true)], args := [d1, d2] }
  | _ => none }
def fnExactIsBalancedRow : OpenClaim := { program := "ytgbmpadlfcbcaaa", sum := "9e9a1062e9b15a5d319431928120515a1a25ecb35fee34e8f3b104edc7b3bc43", func := "loop.example/g01021/laws.FnExactIsBalanced", spec := "fnExactIsBalanced", unfollowed := true, recurses := true, apart := false }
def FnExactIsBalancedSaid : Prop := fnExactIsBalancedRow.holds Try.pinned (OpenSpec.ofChange fnExactIsBalancedSpec)

/-- ITS FALSE NEIGHBOUR: 'it returns false'. Refute it at one input. -/
def fnExactIsBalancedWrong : ChangeSpec := { name := "fnExactIsBalanced", fn := fun _ => fun
  | [d1, d2] => { results := [.lit (.bool false)], args := [d1, d2] }
  | _ => none }
def FnExactIsBalancedWrongFalsely : Prop := fnExactIsBalancedRow.holds Try.pinned (OpenSpec.ofChange fnExactIsBalancedWrong)

/-- 'laws.FnExactImbalanceAt': WHATEVER THE INPUT: true; the input reads as it did. -/
def fnExactImbalanceAtSpec : ChangeSpec := { name := "fnExactImbalanceAt", fn := fun _ => fun
  | [d1, d2, d3] => { results := [.lit (.bool true)], args := [d1, d2, d3] }
  | _ => none }
def fnExactImbalanceAtRow : OpenClaim := { program := "ytgbmpadlfcbcaaa", sum := "9e9a1062e9b15a5d319431928120515a1a25ecb35fee34e8f3b104edc7b3bc43", func := "loop.example/g01021/laws.FnExactImbalanceAt", spec := "fnExactImbalanceAt", unfollowed := true, recurses := true, apart := false }
def FnExactImbalanceAtSaid : Prop := fnExactImbalanceAtRow.holds Try.pinned (OpenSpec.ofChange fnExactImbalanceAtSpec)

/-- ITS FALSE NEIGHBOUR: 'it returns false'. Refute it at one input. -/
def fnExactImbalanceAtWrong : ChangeSpec := { name := "fnExactImbalanceAt", fn := fun _ => fun
  | [d1, d2, d3] => { results := [.lit (.bool false)], args := [d1, d2, d3] }
  | _ => none }
def FnExactImbalanceAtWrongFalsely : Prop := fnExactImbalanceAtRow.holds Try.pinned (OpenSpec.ofChange fnExactImbalanceAtWrong)

/-- 'laws.FnExactValidDoors': WHATEVER THE INPUT: true; the input reads as it did. -/
def fnExactValidDoorsSpec : ChangeSpec := { name := "fnExactValidDoors", fn := fun _ => fun
  | [d1, d2] => { results := [.lit (.bool true)], args := [d1, d2] }
  | _ => none }
def fnExactValidDoorsRow : OpenClaim := { program := "ytgbmpadlfcbcaaa", sum := "9e9a1062e9b15a5d319431928120515a1a25ecb35fee34e8f3b104edc7b3bc43", func := "loop.example/g01021/laws.FnExactValidDoors", spec := "fnExactValidDoors", unfollowed := true, recurses := true, apart := false }
def FnExactValidDoorsSaid : Prop := fnExactValidDoorsRow.holds Try.pinned (OpenSpec.ofChange fnExactValidDoorsSpec)

/-- ITS FALSE NEIGHBOUR: 'it returns false'. Refute it at one input. -/
def fnExactValidDoorsWrong : ChangeSpec := { name := "fnExactValidDoors", fn := fun _ => fun
  | [d1, d2] => { results := [.lit (.bool false)], args := [d1, d2] }
  | _ => none }
def FnExactValidDoorsWrongFalsely : Prop := fnExactValidDoorsRow.holds Try.pinned (OpenSpec.ofChange fnExactValidDoorsWrong)

/-- 'laws.FnExactLossPower': WHATEVER THE INPUT: true; the input reads as it did. -/
def fnExactLossPowerSpec : ChangeSpec := { name := "fnExactLossPower", fn := fun _ => fun
  | [d1, d2, d3] => { results := [.lit (.bool true)], args := [d1, d2, d3] }
  | _ => none }
def fnExactLossPowerRow : OpenClaim := { program := "ytgbmpadlfcbcaaa", sum := "9e9a1062e9b15a5d319431928120515a1a25ecb35fee34e8f3b104edc7b3bc43", func := "loop.example/g01021/laws.FnExactLossPower", spec := "fnExactLossPower", unfollowed := true, recurses := true, apart := false }
def FnExactLossPowerSaid : Prop := fnExactLossPowerRow.holds Try.pinned (OpenSpec.ofChange fnExactLossPowerSpec)

/-- ITS FALSE NEIGHBOUR: 'it returns false'. Refute it at one input. -/
def fnExactLossPowerWrong : ChangeSpec := { name := "fnExactLossPower", fn := fun _ => fun
  | [d1, d2, d3] => { results := [.lit (.bool false)], args := [d1, d2, d3] }
  | _ => none }
def FnExactLossPowerWrongFalsely : Prop := fnExactLossPowerRow.holds Try.pinned (OpenSpec.ofChange fnExactLossPowerWrong)

/-- 'laws.FnExactDepthsOf': WHATEVER THE INPUT: true; the input reads as it did. -/
def fnExactDepthsOfSpec : ChangeSpec := { name := "fnExactDepthsOf", fn := fun _ => fun
  | [d1, d2] => { results := [.lit (.bool true)], args := [d1, d2] }
  | _ => none }
def fnExactDepthsOfRow : OpenClaim := { program := "ytgbmpadlfcbcaaa", sum := "9e9a1062e9b15a5d319431928120515a1a25ecb35fee34e8f3b104edc7b3bc43", func := "loop.example/g01021/laws.FnExactDepthsOf", spec := "fnExactDepthsOf", unfollowed := true, recurses := true, apart := false }
def FnExactDepthsOfSaid : Prop := fnExactDepthsOfRow.holds Try.pinned (OpenSpec.ofChange fnExactDepthsOfSpec)

/-- ITS FALSE NEIGHBOUR: 'it returns false'. Refute it at one input. -/
def fnExactDepthsOfWrong : ChangeSpec := { name := "fnExactDepthsOf", fn := fun _ => fun
  | [d1, d2] => { results := [.lit (.bool false)], args := [d1, d2] }
  | _ => none }
def FnExactDepthsOfWrongFalsely : Prop := fnExactDepthsOfRow.holds Try.pinned (OpenSpec.ofChange fnExactDepthsOfWrong)

/-- 'laws.FnExactStillAirways': WHATEVER THE INPUT: true; the input reads as it did. -/
def fnExactStillAirwaysSpec : ChangeSpec := { name := "fnExactStillAirways", fn := fun _ => fun
  | [d1, d2, d3] => { results := [.lit (.bool true)], args := [d1, d2, d3] }
  | _ => none }
def fnExactStillAirwaysRow : OpenClaim := { program := "ytgbmpadlfcbcaaa", sum := "9e9a1062e9b15a5d319431928120515a1a25ecb35fee34e8f3b104edc7b3bc43", func := "loop.example/g01021/laws.FnExactStillAirways", spec := "fnExactStillAirways", unfollowed := true, recurses := true, apart := false }
def FnExactStillAirwaysSaid : Prop := fnExactStillAirwaysRow.holds Try.pinned (OpenSpec.ofChange fnExactStillAirwaysSpec)

/-- ITS FALSE NEIGHBOUR: 'it returns false'. Refute it at one input. -/
def fnExactStillAirwaysWrong : ChangeSpec := { name := "fnExactStillAirways", fn := fun _ => fun
  | [d1, d2, d3] => { results := [.lit (.bool false)], args := [d1, d2, d3] }
  | _ => none }
def FnExactStillAirwaysWrongFalsely : Prop := fnExactStillAirwaysRow.holds Try.pinned (OpenSpec.ofChange fnExactStillAirwaysWrong)

/-- 'laws.FnExactWarmAirways': WHATEVER THE INPUT: true; the input reads as it did. -/
def fnExactWarmAirwaysSpec : ChangeSpec := { name := "fnExactWarmAirways", fn := fun _ => fun
  | [d1, d2, d3, d4] => { results := [.lit (.bool true)], args := [d1, d2, d3, d4] }
  | _ => none }
def fnExactWarmAirwaysRow : OpenClaim := { program := "ytgbmpadlfcbcaaa", sum := "9e9a1062e9b15a5d319431928120515a1a25ecb35fee34e8f3b104edc7b3bc43", func := "loop.example/g01021/laws.FnExactWarmAirways", spec := "fnExactWarmAirways", unfollowed := true, recurses := true, apart := false }
def FnExactWarmAirwaysSaid : Prop := fnExactWarmAirwaysRow.holds Try.pinned (OpenSpec.ofChange fnExactWarmAirwaysSpec)

/-- ITS FALSE NEIGHBOUR: 'it returns false'. Refute it at one input. -/
def fnExactWarmAirwaysWrong : ChangeSpec := { name := "fnExactWarmAirways", fn := fun _ => fun
  | [d1, d2, d3, d4] => { results := [.lit (.bool false)], args := [d1, d2, d3, d4] }
  | _ => none }
def FnExactWarmAirwaysWrongFalsely : Prop := fnExactWarmAirwaysRow.holds Try.pinned (OpenSpec.ofChange fnExactWarmAirwaysWrong)

/-- 'laws.FnExactResistancesOf': WHATEVER THE INPUT: true; the input reads as it did. -/
def fnExactResistancesOfSpec : ChangeSpec := { name := "fnExactResistancesOf", fn := fun _ => fun
  | [d] => { results := [.lit (.bool true)], args := [d] }
  | _ => none }
def fnExactResistancesOfRow : OpenClaim := { program := "ytgbmpadlfcbcaaa", sum := "9e9a1062e9b15a5d319431928120515a1a25ecb35fee34e8f3b104edc7b3bc43", func := "loop.example/g01021/laws.FnExactResistancesOf", spec := "fnExactResistancesOf", unfollowed := true, recurses := true, apart := false }
def FnExactResistancesOfSaid : Prop := fnExactResistancesOfRow.holds Try.pinned (OpenSpec.ofChange fnExactResistancesOfSpec)

/-- ITS FALSE NEIGHBOUR: 'it returns false'. Refute it at one input. -/
def fnExactResistancesOfWrong : ChangeSpec := { name := "fnExactResistancesOf", fn := fun _ => fun
  | [d] => { results := [.lit (.bool false)], args := [d] }
  | _ => none }
def FnExactResistancesOfWrongFalsely : Prop := fnExactResistancesOfRow.holds Try.pinned (OpenSpec.ofChange fnExactResistancesOfWrong)

/-- 'laws.FnExactDraughtsOf': WHATEVER THE INPUT: true; the input reads as it did. -/
def fnExactDraughtsOfSpec : ChangeSpec := { name := "fnExactDraughtsOf", fn := fun _ => fun
  | [d1, d2, d3] => { results := [.lit (.bool true)], args := [d1, d2, d3] }
  | _ => none }
def fnExactDraughtsOfRow : OpenClaim := { program := "ytgbmpadlfcbcaaa", sum := "9e9a1062e9b15a5d319431928120515a1a25ecb35fee34e8f3b104edc7b3bc43", func := "loop.example/g01021/laws.FnExactDraughtsOf", spec := "fnExactDraughtsOf", unfollowed := true, recurses := true, apart := false }
def FnExactDraughtsOfSaid : Prop := fnExactDraughtsOfRow.holds Try.pinned (OpenSpec.ofChange fnExactDraughtsOfSpec)

/-- ITS FALSE NEIGHBOUR: 'it returns false'. Refute it at one input. -/
def fnExactDraughtsOfWrong : ChangeSpec := { name := "fnExactDraughtsOf", fn := fun _ => fun
  | [d1, d2, d3] => { results := [.lit (.bool false)], args := [d1, d2, d3] }
  | _ => none }
def FnExactDraughtsOfWrongFalsely : Prop := fnExactDraughtsOfRow.holds Try.pinned (OpenSpec.ofChange fnExactDraughtsOfWrong)

/-- 'laws.FnExactOpenDoors': WHATEVER THE INPUT: true; the input reads as it did. -/
def fnExactOpenDoorsSpec : ChangeSpec := { name := "fnExactOpenDoors", fn := fun _ => fun
  | [d1, d2, d3] => { results := [.lit (.bool true)], args := [d1, d2, d3] }
  | _ => none }
def fnExactOpenDoorsRow : OpenClaim := { program := "ytgbmpadlfcbcaaa", sum := "9e9a1062e9b15a5d319431928120515a1a25ecb35fee34e8f3b104edc7b3bc43", func := "loop.example/g01021/laws.FnExactOpenDoors", spec := "fnExactOpenDoors", unfollowed := true, recurses := true, apart := false }
def FnExactOpenDoorsSaid : Prop := fnExactOpenDoorsRow.holds Try.pinned (OpenSpec.ofChange fnExactOpenDoorsSpec)

/-- ITS FALSE NEIGHBOUR: 'it returns false'. Refute it at one input. -/
def fnExactOpenDoorsWrong : ChangeSpec := { name := "fnExactOpenDoors", fn := fun _ => fun
  | [d1, d2, d3] => { results := [.lit (.bool false)], args := [d1, d2, d3] }
  | _ => none }
def FnExactOpenDoorsWrongFalsely : Prop := fnExactOpenDoorsRow.holds Try.pinned (OpenSpec.ofChange fnExactOpenDoorsWrong)

/- THE SECOND FORM. 'bulk': how many values and letters a reading holds, each counted each time it is reached (what is shared counts as often as it is met; a slice's spare places count too). A statement '..UptoSaid' is the law's where the arguments, and the package variables that the reading takes, are together of bulk at most 1048576: NARROWER than '..Said'. Prove '..Said' where nothing that the law and all that it calls make is longer than what came in: it says more and counts as full. Else prove '..UptoSaid'. A law counts once. -/
mutual
def uptoBulk {H : Type} : DataW H → Nat
  | .lit (.string bytes) => bytes.length + 1
  | .lit _ => 1
  | .nil => 1
  | .ptr d => uptoBulk d + 1
  | .slice elems spare => uptoBulkAll elems + uptoBulkAll spare + 1
  | .agg parts => uptoBulkAll parts + 1
  | .iface _ d => uptoBulk d + 1
  | .map entries => uptoBulkEntries entries + 1
  | .held _ => 1
def uptoBulkAll {H : Type} : List (DataW H) → Nat
  | [] => 0
  | d :: r => uptoBulk d + uptoBulkAll r
def uptoBulkEntries {H : Type} : List (Lit × DataW H) → Nat
  | [] => 0
  | x :: r => uptoBulkEntry x + uptoBulkEntries r
def uptoBulkEntry {H : Type} : Lit × DataW H → Nat
  | (.string bytes, d) => bytes.length + uptoBulk d + 1
  | (_, d) => uptoBulk d + 1
 end
def uptoSmall : (H : Type) → List (DataW H) → Bool := fun _ ds => decide (uptoBulkAll ds ≤ 1048576)
def OpenSpec.upto (s : _root_.Go.ChangeSpec) : _root_.Go.OpenSpec := { _root_.Go.OpenSpec.ofChange s with cond := some uptoSmall }

/-- 'laws.FnExactSteepestOf', WHERE WHAT IT READS IS OF BULK AT MOST 1048576: true; the input reads as it did. -/
def fnExactSteepestOfUptoRow : OpenClaim := { program := "ytgbmpadlfcbcaaa", sum := "9e9a1062e9b15a5d319431928120515a1a25ecb35fee34e8f3b104edc7b3bc43", func := "loop.example/g01021/laws.FnExactSteepestOf", spec := "fnExactSteepestOf", unfollowed := true, recurses := true, apart := false, narrowed := true }
def FnExactSteepestOfUptoSaid : Prop := fnExactSteepestOfUptoRow.holds Try.pinned (OpenSpec.upto fnExactSteepestOfSpec)

/-- 'laws.FnExactIsBalanced', WHERE WHAT IT READS IS OF BULK AT MOST 1048576: true; the input reads as it did. -/
def fnExactIsBalancedUptoRow : OpenClaim := { program := "ytgbmpadlfcbcaaa", sum := "9e9a1062e9b15a5d319431928120515a1a25ecb35fee34e8f3b104edc7b3bc43", func := "loop.example/g01021/laws.FnExactIsBalanced", spec := "fnExactIsBalanced", unfollowed := true, recurses := true, apart := false, narrowed := true }
def FnExactIsBalancedUptoSaid : Prop := fnExactIsBalancedUptoRow.holds Try.pinned (OpenSpec.upto fnExactIsBalancedSpec)

/-- 'laws.FnExactImbalanceAt', WHERE WHAT IT READS IS OF BULK AT MOST 1048576: true; the input reads as it did. -/
def fnExactImbalanceAtUptoRow : OpenClaim := { program := "ytgbmpadlfcbcaaa", sum := "9e9a1062e9b15a5d319431928120515a1a25ecb35fee34e8f3b104edc7b3bc43", func := "loop.example/g01021/laws.FnExactImbalanceAt", spec := "fnExactImbalanceAt", unfollowed := true, recurses := true, apart := false, narrowed := true }
def FnExactImbalanceAtUptoSaid : Prop := fnExactImbalanceAtUptoRow.holds Try.pinned (OpenSpec.upto fnExactImbalanceAtSpec)

/-- 'laws.FnExactValidDoors', WHERE WHAT IT READS IS OF BULK AT MOST 1048576: true; the input reads as it did. -/
def fnExactValidDoorsUptoRow : OpenClaim := { program := "ytgbmpadlfcbcaaa", sum := "9e9a1062e9b15a5d319431928120515a1a25ecb35fee34e8f3b104edc7b3bc43", func := "loop.example/g01021/laws.FnExactValidDoors", spec := "fnExactValidDoors", unfollowed := true, recurses := true, apart := false, narrowed := true }
def FnExactValidDoorsUptoSaid : Prop := fnExactValidDoorsUptoRow.holds Try.pinned (OpenSpec.upto fnExactValidDoorsSpec)

/-- 'laws.FnExactLossPower', WHERE WHAT IT READS IS OF BULK AT MOST 1048576: true; the input reads as it did. -/
def fnExactLossPowerUptoRow : OpenClaim := { program := "ytgbmpadlfcbcaaa", sum := "9e9a1062e9b15a5d319431928120515a1a25ecb35fee34e8f3b104edc7b3bc43", func := "loop.example/g01021/laws.FnExactLossPower", spec := "fnExactLossPower", unfollowed := true, recurses := true, apart := false, narrowed := true }
def FnExactLossPowerUptoSaid : Prop := fnExactLossPowerUptoRow.holds Try.pinned (OpenSpec.upto fnExactLossPowerSpec)

/-- 'laws.FnExactDepthsOf', WHERE WHAT IT READS IS OF BULK AT MOST 1048576: true; the input reads as it did. -/
def fnExactDepthsOfUptoRow : OpenClaim := { program := "ytgbmpadlfcbcaaa", sum := "9e9a1062e9b15a5d319431928120515a1a25ecb35fee34e8f3b104edc7b3bc43", func := "loop.example/g01021/laws.FnExactDepthsOf", spec := "fnExactDepthsOf", unfollowed := true, recurses := true, apart := false, narrowed := true }
def FnExactDepthsOfUptoSaid : Prop := fnExactDepthsOfUptoRow.holds Try.pinned (OpenSpec.upto fnExactDepthsOfSpec)

/-- 'laws.FnExactStillAirways', WHERE WHAT IT READS IS OF BULK AT MOST 1048576: true; the input reads as it did. -/
def fnExactStillAirwaysUptoRow : OpenClaim := { program := "ytgbmpadlfcbcaaa", sum := "9e9a1062e9b15a5d319431928120515a1a25ecb35fee34e8f3b104edc7b3bc43", func := "loop.example/g01021/laws.FnExactStillAirways", spec := "fnExactStillAirways", unfollowed := true, recurses := true, apart := false, narrowed := true }
def FnExactStillAirwaysUptoSaid : Prop := fnExactStillAirwaysUptoRow.holds Try.pinned (OpenSpec.upto fnExactStillAirwaysSpec)

/-- 'laws.FnExactWarmAirways', WHERE WHAT IT READS IS OF BULK AT MOST 1048576: true; the input reads as it did. -/
def fnExactWarmAirwaysUptoRow : OpenClaim := { program := "ytgbmpadlfcbcaaa", sum := "9e9a1062e9b15a5d319431928120515a1a25ecb35fee34e8f3b104edc7b3bc43", func := "loop.example/g01021/laws.FnExactWarmAirways", spec := "fnExactWarmAirways", unfollowed := true, recurses := true, apart := false, narrowed := true }
def FnExactWarmAirwaysUptoSaid : Prop := fnExactWarmAirwaysUptoRow.holds Try.pinned (OpenSpec.upto fnExactWarmAirwaysSpec)

/-- 'laws.FnExactResistancesOf', WHERE WHAT IT READS IS OF BULK AT MOST 1048576: true; the input reads as it did. -/
def fnExactResistancesOfUptoRow : OpenClaim := { program := "ytgbmpadlfcbcaaa", sum := "9e9a1062e9b15a5d319431928120515a1a25ecb35fee34e8f3b104edc7b3bc43", func := "loop.example/g01021/laws.FnExactResistancesOf", spec := "fnExactResistancesOf", unfollowed := true, recurses := true, apart := false, narrowed := true }
def FnExactResistancesOfUptoSaid : Prop := fnExactResistancesOfUptoRow.holds Try.pinned (OpenSpec.upto fnExactResistancesOfSpec)

/-- 'laws.FnExactDraughtsOf', WHERE WHAT IT READS IS OF BULK AT MOST 1048576: true; the input reads as it did. -/
def fnExactDraughtsOfUptoRow : OpenClaim := { program := "ytgbmpadlfcbcaaa", sum := "9e9a1062e9b15a5d319431928120515a1a25ecb35fee34e8f3b104edc7b3bc43", func := "loop.example/g01021/laws.FnExactDraughtsOf", spec := "fnExactDraughtsOf", unfollowed := true, recurses := true, apart := false, narrowed := true }
def FnExactDraughtsOfUptoSaid : Prop := fnExactDraughtsOfUptoRow.holds Try.pinned (OpenSpec.upto fnExactDraughtsOfSpec)

/-- 'laws.FnExactOpenDoors', WHERE WHAT IT READS IS OF BULK AT MOST 1048576: true; the input reads as it did. -/
def fnExactOpenDoorsUptoRow : OpenClaim := { program := "ytgbmpadlfcbcaaa", sum := "9e9a1062e9b15a5d319431928120515a1a25ecb35fee34e8f3b104edc7b3bc43", func := "loop.example/g01021/laws.FnExactOpenDoors", spec := "fnExactOpenDoors", unfollowed := true, recurses := true, apart := false, narrowed := true }
def FnExactOpenDoorsUptoSaid : Prop := fnExactOpenDoorsUptoRow.holds Try.pinned (OpenSpec.upto fnExactOpenDoorsSpec)

end Rows
end Go.Proofs.Ytgbmpadlfcbcaaa
