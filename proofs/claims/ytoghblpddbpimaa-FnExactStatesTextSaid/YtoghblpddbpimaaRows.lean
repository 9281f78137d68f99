/-
  No cell of these rows narrows 'for every input' (looked for: loops, veiled, ifaces, maps, wideKeys, modest, calm, conditions, laid).
  DERIVED. THE GIVEN ROWS OF THIS SEAT. 6 by the template 'for every input the law returns true; each argument reads behind the call as it read before'; 0 by the template 'total and deterministic' (their statements: YtoghblpddbpimaaTotals.lean).
  GIVEN WITH THE SEED: the statements are not yours to turn. If you find one false, say at which input.
  Laid BY PROGRAM, IN A SANDBOX (cutbox-rows.mjs): the forced cells as the released guide's own fill.sh prints them over the translation ce2ee187757c9f71… (all of the seat's roots in one cut). By AI agents, Wed Nov 11 2026. No macro, syntax, notation, axiom, sorry.
-/
import Derived.Test.YtoghblpddbpimaaChecked
import GoSem.Claim
import GoSem.ClaimJoined
import GoSem.ClaimMapViews
import Derived.JoinedTies
import Derived.KernelRfl
namespace Go.Proofs.Ytoghblpddbpimaa
/- THE CELL 'sum', in the pinned program and in every row, IS THE sha256 OF THE DUMP (.gsa) THAT YtoghblpddbpimaaProg.lean LOADS. Nothing in Lean hashes anything: it is a label: what it is worth is what the hold of that sum in a sandbox is worth. -/
noncomputable def Try.pinned : Pinned := { name := "ytoghblpddbpimaa", sum := "ce2ee187757c9f7157b27df62406afbebed055c5802d4afe69893fbd982804a4", checked := Try.checked }
namespace Rows
def none {H : Type} : Left H := { results := [], args := [] }

/-- 'laws.FnExactWarmDensity': WHATEVER THE INPUT: true; the input reads as it did. -/
def fnExactWarmDensitySpec : ChangeSpec := { name := "fnExactWarmDensity", fn := fun _ => fun
  | [d] => { results := [.lit (.bool true)], args := [d] }
  | _ => none }
def fnExactWarmDensityRow : OpenClaim := { program := "ytoghblpddbpimaa", sum := "ce2ee187757c9f7157b27df62406afbebed055c5802d4afe69893fbd982804a4", func := "loop.example/g01021/laws.FnExactWarmDensity", spec := "fnExactWarmDensity", apart := false }
def FnExactWarmDensitySaid : Prop := fnExactWarmDensityRow.holds Try.pinned (OpenSpec.ofChange fnExactWarmDensitySpec)

/-- ITS FALSE NEIGHBOUR: 'it returns false'. Refute it at one input. -/
def fnExactWarmDensityWrong : ChangeSpec := { name := "fnExactWarmDensity", fn := fun _ => fun
  | [d] => { results := [.lit (.bool false)], args := [d] }
  | _ => none }
def FnExactWarmDensityWrongFalsely : Prop := fnExactWarmDensityRow.holds Try.pinned (OpenSpec.ofChange fnExactWarmDensityWrong)

/-- 'laws.FnExactStatesText': WHATEVER THE INPUT: true; the input reads as it did. -/
def fnExactStatesTextSpec : ChangeSpec := { name := "fnExactStatesText", fn := fun _ => fun
  | [d] => { results := [.lit (.bool true)], args := [d] }
  | _ => none }
def fnExactStatesTextRow : OpenClaim := { program := "ytoghblpddbpimaa", sum := "ce2ee187757c9f7157b27df62406afbebed055c5802d4afe69893fbd982804a4", func := "loop.example/g01021/laws.FnExactStatesText", spec := "fnExactStatesText", apart := false }
def FnExactStatesTextSaid : Prop := fnExactStatesTextRow.holds Try.pinned (OpenSpec.ofChange fnExactStatesTextSpec)

/-- ITS FALSE NEIGHBOUR: 'it returns false'. Refute it at one input. -/
def fnExactStatesTextWrong : ChangeSpec := { name := "fnExactStatesText", fn := fun _ => fun
  | [d] => { results := [.lit (.bool false)], args := [d] }
  | _ => none }
def FnExactStatesTextWrongFalsely : Prop := fnExactStatesTextRow.holds Try.pinned (OpenSpec.ofChange fnExactStatesTextWrong)

/-- 'laws.FnExactValidDoor': WHATEVER THE INPUT: true; the input reads as it did. -/
def fnExactValidDoorSpec : ChangeSpec := { name := "fnExactValidDoor", fn := fun _ => fun
  | [d] => { results := [.lit (.bool true)], args := [d] }
  | _ => none }
def fnExactValidDoorRow : OpenClaim := { program := "ytoghblpddbpimaa", sum := "ce2ee187757c9f7157b27df62406afbebed055c5802d4afe69893fbd982804a4", func := "loop.example/g01021/laws.FnExactValidDoor", spec := "fnExactValidDoor", apart := false }
def FnExactValidDoorSaid : Prop := fnExactValidDoorRow.holds Try.pinned (OpenSpec.ofChange fnExactValidDoorSpec)

/-- ITS FALSE NEIGHBOUR: 'it returns false'. Refute it at one input. -/
def fnExactValidDoorWrong : ChangeSpec := { name := "fnExactValidDoor", fn := fun _ => fun
  | [d] => { results := [.lit (.bool false)], args := [d] }
  | _ => none }
def FnExactValidDoorWrongFalsely : Prop := fnExactValidDoorRow.holds Try.pinned (OpenSpec.ofChange fnExactValidDoorWrong)

/-- 'laws.FnExactColumnDraught': WHATEVER THE INPUT: true; the input reads as it did. -/
def fnExactColumnDraughtSpec : ChangeSpec := { name := "fnExactColumnDraught", fn := fun _ => fun
  | [d1, d2] => { results := [.lit (.bool true)], args := [d1, d2] }
  | _ => none }
def fnExactColumnDraughtRow : OpenClaim := { program := "ytoghblpddbpimaa", sum := "ce2ee187757c9f7157b27df62406afbebed055c5802d4afe69893fbd982804a4", func := "loop.example/g01021/laws.FnExactColumnDraught", spec := "fnExactColumnDraught", apart := false }
def FnExactColumnDraughtSaid : Prop := fnExactColumnDraughtRow.holds Try.pinned (OpenSpec.ofChange fnExactColumnDraughtSpec)

/-- ITS FALSE NEIGHBOUR: 'it returns false'. Refute it at one input. -/
def fnExactColumnDraughtWrong : ChangeSpec := { name := "fnExactColumnDraught", fn := fun _ => fun
  | [d1, d2] => { results := [.lit (.bool false)], args := [d1, d2] }
  | _ => none }
def FnExactColumnDraughtWrongFalsely : Prop := fnExactColumnDraughtRow.holds Try.pinned (OpenSpec.ofChange fnExactColumnDraughtWrong)

/-- 'laws.FnExactOrificeOf': WHATEVER THE INPUT: true; the input reads as it did. -/
def fnExactOrificeOfSpec : ChangeSpec := { name := "fnExactOrificeOf", fn := fun _ => fun
  | [d] => { results := [.lit (.bool true)], args := [d] }
  | _ => none }
def fnExactOrificeOfRow : OpenClaim := { program := "ytoghblpddbpimaa", sum := "ce2ee187757c9f7157b27df62406afbebed055c5802d4afe69893fbd982804a4", func := "loop.example/g01021/laws.FnExactOrificeOf", spec := "fnExactOrificeOf", unfollowed := true, recurses := true, apart := false }
def FnExactOrificeOfSaid : Prop := fnExactOrificeOfRow.holds Try.pinned (OpenSpec.ofChange fnExactOrificeOfSpec)

/-- ITS FALSE NEIGHBOUR: 'it returns false'. Refute it at one input. -/
def fnExactOrificeOfWrong : ChangeSpec := { name := "fnExactOrificeOf", fn := fun _ => fun
  | [d] => { results := [.lit (.bool false)], args := [d] }
  | _ => none }
def FnExactOrificeOfWrongFalsely : Prop := fnExactOrificeOfRow.holds Try.pinned (OpenSpec.ofChange fnExactOrificeOfWrong)

/-- 'laws.FnExactConductanceOf': WHATEVER THE INPUT: true; the input reads as it did. -/
def fnExactConductanceOfSpec : ChangeSpec := { name := "fnExactConductanceOf", fn := fun _ => fun
  | [d] => { results := [.lit (.bool true)], args := [d] }
  | _ => none }
def fnExactConductanceOfRow : OpenClaim := { program := "ytoghblpddbpimaa", sum := "ce2ee187757c9f7157b27df62406afbebed055c5802d4afe69893fbd982804a4", func := "loop.example/g01021/laws.FnExactConductanceOf", spec := "fnExactConductanceOf", unfollowed := true, recurses := true, apart := false }
def FnExactConductanceOfSaid : Prop := fnExactConductanceOfRow.holds Try.pinned (OpenSpec.ofChange fnExactConductanceOfSpec)

/-- ITS FALSE NEIGHBOUR: 'it returns false'. Refute it at one input. -/
def fnExactConductanceOfWrong : ChangeSpec := { name := "fnExactConductanceOf", fn := fun _ => fun
  | [d] => { results := [.lit (.bool false)], args := [d] }
  | _ => none }
def FnExactConductanceOfWrongFalsely : Prop := fnExactConductanceOfRow.holds Try.pinned (OpenSpec.ofChange fnExactConductanceOfWrong)

/- THE SECOND FORM. 'bulk': how many values and letters a reading holds, each counted each time it is reached (what is shared counts as often as it is met; a slice's spare places count too). A statement '..UptoSaid' is the law's where the arguments, and the package variables that the reading takes, are together of bulk at most 1048576: NARROWER than '..Said'. Prove '..Said' where nothing that the law and all that it calls make is longer than what came in: it says more and counts as full. Else prove '..UptoSaid'. A law counts once. -/
mutual
def uptoBulk {H : Type} : DataW H → Nat
  | .lit (.string bytes) => bytes.length + 1
  | .lit _ => 1
  | .nil => 1
  | .ptr d => uptoBulk d + 1
  | .slice elems spare => uptoBulkAll elems + uptoBulkAll spare + 1
  | .agg parts => uptoBulkAll parts + 1
  | .iface _ d => uptoBulk d + 1
  | .map entries => uptoBulkEntries entries + 1
  | .held _ => 1
def uptoBulkAll {H : Type} : List (DataW H) → Nat
  | [] => 0
  | d :: r => uptoBulk d + uptoBulkAll r
def uptoBulkEntries {H : Type} : List (Lit × DataW H) → Nat
  | [] => 0
  | x :: r => uptoBulkEntry x + uptoBulkEntries r
def uptoBulkEntry {H : Type} : Lit × DataW H → Nat
  | (.string bytes, d) => bytes.length + uptoBulk d + 1
  | (_, d) => uptoBulk d + 1
 end
def uptoSmall : (H : Type) → List (DataW H) → Bool := fun _ ds => decide (uptoBulkAll ds ≤ 1048576)
def OpenSpec.upto (s : _root_.Go.ChangeSpec) : _root_.Go.OpenSpec := { _root_.Go.OpenSpec.ofChange s with cond := some uptoSmall }

/-- 'laws.FnExactWarmDensity', WHERE WHAT IT READS IS OF BULK AT MOST 1048576: true; the input reads as it did. -/
def fnExactWarmDensityUptoRow : OpenClaim := { program := "ytoghblpddbpimaa", sum := "ce2ee187757c9f7157b27df62406afbebed055c5802d4afe69893fbd982804a4", func := "loop.example/g01021/laws.FnExactWarmDensity", spec := "fnExactWarmDensity", apart := false, narrowed := true }
def FnExactWarmDensityUptoSaid : Prop := fnExactWarmDensityUptoRow.holds Try.pinned (OpenSpec.upto fnExactWarmDensitySpec)

/-- 'laws.FnExactStatesText', WHERE WHAT IT READS IS OF BULK AT MOST 1048576: true; the input reads as it did. -/
def fnExactStatesTextUptoRow : OpenClaim := { program := "ytoghblpddbpimaa", sum := "ce2ee187757c9f7157b27df62406afbebed055c5802d4afe69893fbd982804a4", func := "loop.example/g01021/laws.FnExactStatesText", spec := "fnExactStatesText", apart := false, narrowed := true }
def FnExactStatesTextUptoSaid : Prop := fnExactStatesTextUptoRow.holds Try.pinned (OpenSpec.upto fnExactStatesTextSpec)

/-- 'laws.FnExactValidDoor', WHERE WHAT IT READS IS OF BULK AT MOST 1048576: true; the input reads as it did. -/
def fnExactValidDoorUptoRow : OpenClaim := { program := "ytoghblpddbpimaa", sum := "ce2ee187757c9f7157b27df62406afbebed055c5802d4afe69893fbd982804a4", func := "loop.example/g01021/laws.FnExactValidDoor", spec := "fnExactValidDoor", apart := false, narrowed := true }
def FnExactValidDoorUptoSaid : Prop := fnExactValidDoorUptoRow.holds Try.pinned (OpenSpec.upto fnExactValidDoorSpec)

/-- 'laws.FnExactColumnDraught', WHERE WHAT IT READS IS OF BULK AT MOST 1048576: true; the input reads as it did. -/
def fnExactColumnDraughtUptoRow : OpenClaim := { program := "ytoghblpddbpimaa", sum := "ce2ee187757c9f7157b27df62406afbebed055c5802d4afe69893fbd982804a4", func := "loop.example/g01021/laws.FnExactColumnDraught", spec := "fnExactColumnDraught", apart := false, narrowed := true }
def FnExactColumnDraughtUptoSaid : Prop := fnExactColumnDraughtUptoRow.holds Try.pinned (OpenSpec.upto fnExactColumnDraughtSpec)

/-- 'laws.FnExactOrificeOf', WHERE WHAT IT READS IS OF BULK AT MOST 1048576: true; the input reads as it did. -/
def fnExactOrificeOfUptoRow : OpenClaim := { program := "ytoghblpddbpimaa", sum := "ce2ee187757c9f7157b27df62406afbebed055c5802d4afe69893fbd982804a4", func := "loop.example/g01021/laws.FnExactOrificeOf", spec := "fnExactOrificeOf", unfollowed := true, recurses := true, apart := false, narrowed := true }
def FnExactOrificeOfUptoSaid : Prop := fnExactOrificeOfUptoRow.holds Try.pinned (OpenSpec.upto fnExactOrificeOfSpec)

/-- 'laws.FnExactConductanceOf', WHERE WHAT IT READS IS OF BULK AT MOST 1048576: true; the input reads as it did. -/
def fnExactConductanceOfUptoRow : OpenClaim := { program := "ytoghblpddbpimaa", sum := "ce2ee187757c9f7157b27df62406afbebed055c5802d4afe69893fbd982804a4", func := "loop.example/g01021/laws.FnExactConductanceOf", spec := "fnExactConductanceOf", unfollowed := true, recurses := true, apart := false, narrowed := true }
def FnExactConductanceOfUptoSaid : Prop := fnExactConductanceOfUptoRow.holds Try.pinned (OpenSpec.upto fnExactConductanceOfSpec)

end Rows
end Go.Proofs.Ytoghblpddbpimaa
