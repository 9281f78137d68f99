/-
  No cell of these rows narrows 'for every input' (looked for: loops, veiled, ifaces, maps, wideKeys, modest, calm, conditions, laid).
  DERIVED. THE GIVEN ROWS OF THIS SEAT. 9 by the template 'for every input the law returns true; each argument reads behind the call as it read before'; 0 by the template 'total and deterministic' (their statements: YtnaggimfialbfaaTotals.lean).
  GIVEN WITH THE SEED: the statements are not yours to turn. If you find one false, say at which input.
  Laid BY PROGRAM, IN A SANDBOX (cutbox-rows.mjs): the forced cells as the released guide's own fill.sh prints them over the translation 4099d09b4ed4fe7c… (all of the seat's roots in one cut). By AI agents, Wed Nov 11 2026. No macro, syntax, notation, axiom, sorry.
-/
import Derived.Test.YtnaggimfialbfaaChecked
import GoSem.Claim
import GoSem.ClaimJoined
import GoSem.ClaimMapViews
import Derived.JoinedTies
import Derived.KernelRfl
namespace Go.Proofs.Ytnaggimfialbfaa
/- THE CELL 'sum', in the pinned program and in every row, IS THE sha256 OF THE DUMP (.gsa) THAT YtnaggimfialbfaaProg.lean LOADS. Nothing in Lean hashes anything: it is a label: what it is worth is what the hold of that sum in a sandbox is worth. -/
noncomputable def Try.pinned : Pinned := { name := "ytnaggimfialbfaa", sum := "4099d09b4ed4fe7c495e8c05c58e06ceb127bdc8e2cf33a82981b5c6dc49ab6b", checked := Try.checked }
namespace Rows
def none {H : Type} : Left H := { results := [], args := [] }

/-- 'laws.FnExactValidLocks': WHATEVER THE INPUT: true; the input reads as it did. -/
def fnExactValidLocksSpec : ChangeSpec := { name := "fnExactValidLocks", fn := fun _ => fun
  | [d1, d2] => { results := [.lit (.bool true)], args := [d1, d2] }
  | _ => none }
def fnExactValidLocksRow : OpenClaim := { program := "ytnaggimfialbfaa", sum := "4099d09b4ed4fe7c495e8c05c58e06ceb127bdc8e2cf33a82981b5c6dc49ab6b", func := "loop.example/g01021/laws.FnExactValidLocks", spec := "fnExactValidLocks", apart := false }
def FnExactValidLocksSaid : Prop := fnExactValidLocksRow.holds Try.pinned (OpenSpec.ofChange fnExactValidLocksSpec)

/-- ITS FALSE NEIGHBOUR: 'it returns false'. Refute it at one input. -/
def fnExactValidLocksWrong : ChangeSpec := { name := "fnExactValidLocks", fn := fun _ => fun
  | [d1, d2] => { results := [.lit (.bool false)], args := [d1, d2] }
  | _ => none }
def FnExactValidLocksWrongFalsely : Prop := fnExactValidLocksRow.holds Try.pinned (OpenSpec.ofChange fnExactValidLocksWrong)

/-- 'laws.FnExactAreLocked': WHATEVER THE INPUT: true; the input reads as it did. -/
def fnExactAreLockedSpec : ChangeSpec := { name := "fnExactAreLocked", fn := fun _ => fun
  | [d1, d2] => { results := [.lit (.bool true)], args := [d1, d2] }
  | _ => none }
def fnExactAreLockedRow : OpenClaim := { program := "ytnaggimfialbfaa", sum := "4099d09b4ed4fe7c495e8c05c58e06ceb127bdc8e2cf33a82981b5c6dc49ab6b", func := "loop.example/g01021/laws.FnExactAreLocked", spec := "fnExactAreLocked", unfollowed := true, recurses := true, apart := false }
def FnExactAreLockedSaid : Prop := fnExactAreLockedRow.holds Try.pinned (OpenSpec.ofChange fnExactAreLockedSpec)

/-- ITS FALSE NEIGHBOUR: 'it returns false'. Refute it at one input. -/
def fnExactAreLockedWrong : ChangeSpec := { name := "fnExactAreLocked", fn := fun _ => fun
  | [d1, d2] => { results := [.lit (.bool false)], args := [d1, d2] }
  | _ => none }
def FnExactAreLockedWrongFalsely : Prop := fnExactAreLockedRow.holds Try.pinned (OpenSpec.ofChange fnExactAreLockedWrong)

/-- 'laws.FnExactCountStates': WHATEVER THE INPUT: true; the input reads as it did. -/
def fnExactCountStatesSpec : ChangeSpec := { name := "fnExactCountStates", fn := fun _ => fun
  | [d1, d2] => { results := [.lit (.bool true)], args := [d1, d2] }
  | _ => none }
def fnExactCountStatesRow : OpenClaim := { program := "ytnaggimfialbfaa", sum := "4099d09b4ed4fe7c495e8c05c58e06ceb127bdc8e2cf33a82981b5c6dc49ab6b", func := "loop.example/g01021/laws.FnExactCountStates", spec := "fnExactCountStates", unfollowed := true, recurses := true, apart := false }
def FnExactCountStatesSaid : Prop := fnExactCountStatesRow.holds Try.pinned (OpenSpec.ofChange fnExactCountStatesSpec)

/-- ITS FALSE NEIGHBOUR: 'it returns false'. Refute it at one input. -/
def fnExactCountStatesWrong : ChangeSpec := { name := "fnExactCountStates", fn := fun _ => fun
  | [d1, d2] => { results := [.lit (.bool false)], args := [d1, d2] }
  | _ => none }
def FnExactCountStatesWrongFalsely : Prop := fnExactCountStatesRow.holds Try.pinned (OpenSpec.ofChange fnExactCountStatesWrong)

/-- 'laws.FnExactCommonBounds': WHATEVER THE INPUT: true; the input reads as it did. -/
def fnExactCommonBoundsSpec : ChangeSpec := { name := "fnExactCommonBounds", fn := fun _ => fun
  | [d1, d2] => { results := [.lit (.bool true)], args := [d1, d2] }
  | _ => none }
def fnExactCommonBoundsRow : OpenClaim := { program := "ytnaggimfialbfaa", sum := "4099d09b4ed4fe7c495e8c05c58e06ceb127bdc8e2cf33a82981b5c6dc49ab6b", func := "loop.example/g01021/laws.FnExactCommonBounds", spec := "fnExactCommonBounds", unfollowed := true, recurses := true, apart := false }
def FnExactCommonBoundsSaid : Prop := fnExactCommonBoundsRow.holds Try.pinned (OpenSpec.ofChange fnExactCommonBoundsSpec)

/-- ITS FALSE NEIGHBOUR: 'it returns false'. Refute it at one input. -/
def fnExactCommonBoundsWrong : ChangeSpec := { name := "fnExactCommonBounds", fn := fun _ => fun
  | [d1, d2] => { results := [.lit (.bool false)], args := [d1, d2] }
  | _ => none }
def FnExactCommonBoundsWrongFalsely : Prop := fnExactCommonBoundsRow.holds Try.pinned (OpenSpec.ofChange fnExactCommonBoundsWrong)

/-- 'laws.FnExactLargestAgreement': WHATEVER THE INPUT: true; the input reads as it did. -/
def fnExactLargestAgreementSpec : ChangeSpec := { name := "fnExactLargestAgreement", fn := fun _ => fun
  | [d1, d2] => { results := [.lit (.bool true)], args := [d1, d2] }
  | _ => none }
def fnExactLargestAgreementRow : OpenClaim := { program := "ytnaggimfialbfaa", sum := "4099d09b4ed4fe7c495e8c05c58e06ceb127bdc8e2cf33a82981b5c6dc49ab6b", func := "loop.example/g01021/laws.FnExactLargestAgreement", spec := "fnExactLargestAgreement", unfollowed := true, recurses := true, apart := false }
def FnExactLargestAgreementSaid : Prop := fnExactLargestAgreementRow.holds Try.pinned (OpenSpec.ofChange fnExactLargestAgreementSpec)

/-- ITS FALSE NEIGHBOUR: 'it returns false'. Refute it at one input. -/
def fnExactLargestAgreementWrong : ChangeSpec := { name := "fnExactLargestAgreement", fn := fun _ => fun
  | [d1, d2] => { results := [.lit (.bool false)], args := [d1, d2] }
  | _ => none }
def FnExactLargestAgreementWrongFalsely : Prop := fnExactLargestAgreementRow.holds Try.pinned (OpenSpec.ofChange fnExactLargestAgreementWrong)

/-- 'laws.FnExactOddSurveys': WHATEVER THE INPUT: true; the input reads as it did. -/
def fnExactOddSurveysSpec : ChangeSpec := { name := "fnExactOddSurveys", fn := fun _ => fun
  | [d] => { results := [.lit (.bool true)], args := [d] }
  | _ => none }
def fnExactOddSurveysRow : OpenClaim := { program := "ytnaggimfialbfaa", sum := "4099d09b4ed4fe7c495e8c05c58e06ceb127bdc8e2cf33a82981b5c6dc49ab6b", func := "loop.example/g01021/laws.FnExactOddSurveys", spec := "fnExactOddSurveys", unfollowed := true, recurses := true, apart := false }
def FnExactOddSurveysSaid : Prop := fnExactOddSurveysRow.holds Try.pinned (OpenSpec.ofChange fnExactOddSurveysSpec)

/-- ITS FALSE NEIGHBOUR: 'it returns false'. Refute it at one input. -/
def fnExactOddSurveysWrong : ChangeSpec := { name := "fnExactOddSurveys", fn := fun _ => fun
  | [d] => { results := [.lit (.bool false)], args := [d] }
  | _ => none }
def FnExactOddSurveysWrongFalsely : Prop := fnExactOddSurveysRow.holds Try.pinned (OpenSpec.ofChange fnExactOddSurveysWrong)

/-- 'laws.FnExactSameFan': WHATEVER THE INPUT: true; the input reads as it did. -/
def fnExactSameFanSpec : ChangeSpec := { name := "fnExactSameFan", fn := fun _ => fun
  | [d1, d2] => { results := [.lit (.bool true)], args := [d1, d2] }
  | _ => none }
def fnExactSameFanRow : OpenClaim := { program := "ytnaggimfialbfaa", sum := "4099d09b4ed4fe7c495e8c05c58e06ceb127bdc8e2cf33a82981b5c6dc49ab6b", func := "loop.example/g01021/laws.FnExactSameFan", spec := "fnExactSameFan", unfollowed := true, recurses := true, apart := false }
def FnExactSameFanSaid : Prop := fnExactSameFanRow.holds Try.pinned (OpenSpec.ofChange fnExactSameFanSpec)

/-- ITS FALSE NEIGHBOUR: 'it returns false'. Refute it at one input. -/
def fnExactSameFanWrong : ChangeSpec := { name := "fnExactSameFan", fn := fun _ => fun
  | [d1, d2] => { results := [.lit (.bool false)], args := [d1, d2] }
  | _ => none }
def FnExactSameFanWrongFalsely : Prop := fnExactSameFanRow.holds Try.pinned (OpenSpec.ofChange fnExactSameFanWrong)

/-- 'laws.FnExactValidFan': WHATEVER THE INPUT: true; the input reads as it did. -/
def fnExactValidFanSpec : ChangeSpec := { name := "fnExactValidFan", fn := fun _ => fun
  | [d] => { results := [.lit (.bool true)], args := [d] }
  | _ => none }
def fnExactValidFanRow : OpenClaim := { program := "ytnaggimfialbfaa", sum := "4099d09b4ed4fe7c495e8c05c58e06ceb127bdc8e2cf33a82981b5c6dc49ab6b", func := "loop.example/g01021/laws.FnExactValidFan", spec := "fnExactValidFan", apart := false }
def FnExactValidFanSaid : Prop := fnExactValidFanRow.holds Try.pinned (OpenSpec.ofChange fnExactValidFanSpec)

/-- ITS FALSE NEIGHBOUR: 'it returns false'. Refute it at one input. -/
def fnExactValidFanWrong : ChangeSpec := { name := "fnExactValidFan", fn := fun _ => fun
  | [d] => { results := [.lit (.bool false)], args := [d] }
  | _ => none }
def FnExactValidFanWrongFalsely : Prop := fnExactValidFanRow.holds Try.pinned (OpenSpec.ofChange fnExactValidFanWrong)

/-- 'laws.FnExactValidFans': WHATEVER THE INPUT: true; the input reads as it did. -/
def fnExactValidFansSpec : ChangeSpec := { name := "fnExactValidFans", fn := fun _ => fun
  | [d] => { results := [.lit (.bool true)], args := [d] }
  | _ => none }
def fnExactValidFansRow : OpenClaim := { program := "ytnaggimfialbfaa", sum := "4099d09b4ed4fe7c495e8c05c58e06ceb127bdc8e2cf33a82981b5c6dc49ab6b", func := "loop.example/g01021/laws.FnExactValidFans", spec := "fnExactValidFans", apart := false }
def FnExactValidFansSaid : Prop := fnExactValidFansRow.holds Try.pinned (OpenSpec.ofChange fnExactValidFansSpec)

/-- ITS FALSE NEIGHBOUR: 'it returns false'. Refute it at one input. -/
def fnExactValidFansWrong : ChangeSpec := { name := "fnExactValidFans", fn := fun _ => fun
  | [d] => { results := [.lit (.bool false)], args := [d] }
  | _ => none }
def FnExactValidFansWrongFalsely : Prop := fnExactValidFansRow.holds Try.pinned (OpenSpec.ofChange fnExactValidFansWrong)

/- THE SECOND FORM. 'bulk': how many values and letters a reading holds, each counted each time it is reached (what is shared counts as often as it is met; a slice's spare places count too). A statement '..UptoSaid' is the law's where the arguments, and the package variables that the reading takes, are together of bulk at most 1048576: NARROWER than '..Said'. Prove '..Said' where nothing that the law and all that it calls make is longer than what came in: it says more and counts as full. Else prove '..UptoSaid'. A law counts once. -/
mutual
def uptoBulk {H : Type} : DataW H → Nat
  | .lit (.string bytes) => bytes.length + 1
  | .lit _ => 1
  | .nil => 1
  | .ptr d => uptoBulk d + 1
  | .slice elems spare => uptoBulkAll elems + uptoBulkAll spare + 1
  | .agg parts => uptoBulkAll parts + 1
  | .iface _ d => uptoBulk d + 1
  | .map entries => uptoBulkEntries entries + 1
  | .held _ => 1
def uptoBulkAll {H : Type} : List (DataW H) → Nat
  | [] => 0
  | d :: r => uptoBulk d + uptoBulkAll r
def uptoBulkEntries {H : Type} : List (Lit × DataW H) → Nat
  | [] => 0
  | x :: r => uptoBulkEntry x + uptoBulkEntries r
def uptoBulkEntry {H : Type} : Lit × DataW H → Nat
  | (.string bytes, d) => bytes.length + uptoBulk d + 1
  | (_, d) => uptoBulk d + 1
 end
def uptoSmall : (H : Type) → List (DataW H) → Bool := fun _ ds => decide (uptoBulkAll ds ≤ 1048576)
def OpenSpec.upto (s : _root_.Go.ChangeSpec) : _root_.Go.OpenSpec := { _root_.Go.OpenSpec.ofChange s with cond := some uptoSmall }

/-- 'laws.FnExactValidLocks', WHERE WHAT IT READS IS OF BULK AT MOST 1048576: true; the input reads as it did. -/
def fnExactValidLocksUptoRow : OpenClaim := { program := "ytnaggimfialbfaa", sum := "4099d09b4ed4fe7c495e8c05c58e06ceb127bdc8e2cf33a82981b5c6dc49ab6b", func := "loop.example/g01021/laws.FnExactValidLocks", spec := "fnExactValidLocks", apart := false, narrowed := true }
def FnExactValidLocksUptoSaid : Prop := fnExactValidLocksUptoRow.holds Try.pinned (OpenSpec.upto fnExactValidLocksSpec)

/-- 'laws.FnExactAreLocked', WHERE WHAT IT READS IS OF BULK AT MOST 1048576: true; the input reads as it did. -/
def fnExactAreLockedUptoRow : OpenClaim := { program := "ytnaggimfialbfaa", sum := "4099d09b4ed4fe7c495e8c05c58e06ceb127bdc8e2cf33a82981b5c6dc49ab6b", func := "loop.example/g01021/laws.FnExactAreLocked", spec := "fnExactAreLocked", unfollowed := true, recurses := true, apart := false, narrowed := true }
def FnExactAreLockedUptoSaid : Prop := fnExactAreLockedUptoRow.holds Try.pinned (OpenSpec.upto fnExactAreLockedSpec)

/-- 'laws.FnExactCountStates', WHERE WHAT IT READS IS OF BULK AT MOST 1048576: true; the input reads as it did. -/
def fnExactCountStatesUptoRow : OpenClaim := { program := "ytnaggimfialbfaa", sum := "4099d09b4ed4fe7c495e8c05c58e06ceb127bdc8e2cf33a82981b5c6dc49ab6b", func := "loop.example/g01021/laws.FnExactCountStates", spec := "fnExactCountStates", unfollowed := true, recurses := true, apart := false, narrowed := true }
def FnExactCountStatesUptoSaid : Prop := fnExactCountStatesUptoRow.holds Try.pinned (OpenSpec.upto fnExactCountStatesSpec)

/-- 'laws.FnExactCommonBounds', WHERE WHAT IT READS IS OF BULK AT MOST 1048576: true; the input reads as it did. -/
def fnExactCommonBoundsUptoRow : OpenClaim := { program := "ytnaggimfialbfaa", sum := "4099d09b4ed4fe7c495e8c05c58e06ceb127bdc8e2cf33a82981b5c6dc49ab6b", func := "loop.example/g01021/laws.FnExactCommonBounds", spec := "fnExactCommonBounds", unfollowed := true, recurses := true, apart := false, narrowed := true }
def FnExactCommonBoundsUptoSaid : Prop := fnExactCommonBoundsUptoRow.holds Try.pinned (OpenSpec.upto fnExactCommonBoundsSpec)

/-- 'laws.FnExactLargestAgreement', WHERE WHAT IT READS IS OF BULK AT MOST 1048576: true; the input reads as it did. -/
def fnExactLargestAgreementUptoRow : OpenClaim := { program := "ytnaggimfialbfaa", sum := "4099d09b4ed4fe7c495e8c05c58e06ceb127bdc8e2cf33a82981b5c6dc49ab6b", func := "loop.example/g01021/laws.FnExactLargestAgreement", spec := "fnExactLargestAgreement", unfollowed := true, recurses := true, apart := false, narrowed := true }
def FnExactLargestAgreementUptoSaid : Prop := fnExactLargestAgreementUptoRow.holds Try.pinned (OpenSpec.upto fnExactLargestAgreementSpec)

/-- 'laws.FnExactOddSurveys', WHERE WHAT IT READS IS OF BULK AT MOST 1048576: true; the input reads as it did. -/
def fnExactOddSurveysUptoRow : OpenClaim := { program := "ytnaggimfialbfaa", sum := "4099d09b4ed4fe7c495e8c05c58e06ceb127bdc8e2cf33a82981b5c6dc49ab6b", func := "loop.example/g01021/laws.FnExactOddSurveys", spec := "fnExactOddSurveys", unfollowed := true, recurses := true, apart := false, narrowed := true }
def FnExactOddSurveysUptoSaid : Prop := fnExactOddSurveysUptoRow.holds Try.pinned (OpenSpec.upto fnExactOddSurveysSpec)

/-- 'laws.FnExactSameFan', WHERE WHAT IT READS IS OF BULK AT MOST 1048576: true; the input reads as it did. -/
def fnExactSameFanUptoRow : OpenClaim := { program := "ytnaggimfialbfaa", sum := "4099d09b4ed4fe7c495e8c05c58e06ceb127bdc8e2cf33a82981b5c6dc49ab6b", func := "loop.example/g01021/laws.FnExactSameFan", spec := "fnExactSameFan", unfollowed := true, recurses := true, apart := false, narrowed := true }
def FnExactSameFanUptoSaid : Prop := fnExactSameFanUptoRow.holds Try.pinned (OpenSpec.upto fnExactSameFanSpec)

/-- 'laws.FnExactValidFan', WHERE WHAT IT READS IS OF BULK AT MOST 1048576: true; the input reads as it did. -/
def fnExactValidFanUptoRow : OpenClaim := { program := "ytnaggimfialbfaa", sum := "4099d09b4ed4fe7c495e8c05c58e06ceb127bdc8e2cf33a82981b5c6dc49ab6b", func := "loop.example/g01021/laws.FnExactValidFan", spec := "fnExactValidFan", apart := false, narrowed := true }
def FnExactValidFanUptoSaid : Prop := fnExactValidFanUptoRow.holds Try.pinned (OpenSpec.upto fnExactValidFanSpec)

/-- 'laws.FnExactValidFans', WHERE WHAT IT READS IS OF BULK AT MOST 1048576: true; the input reads as it did. -/
def fnExactValidFansUptoRow : OpenClaim := { program := "ytnaggimfialbfaa", sum := "4099d09b4ed4fe7c495e8c05c58e06ceb127bdc8e2cf33a82981b5c6dc49ab6b", func := "loop.example/g01021/laws.FnExactValidFans", spec := "fnExactValidFans", apart := false, narrowed := true }
def FnExactValidFansUptoSaid : Prop := fnExactValidFansUptoRow.holds Try.pinned (OpenSpec.upto fnExactValidFansSpec)

end Rows
end Go.Proofs.Ytnaggimfialbfaa
