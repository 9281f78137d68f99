/-
  DERIVED. GIVEN WITH THE SEED: THE CARDS: each row of YtdooajiobpjihaaDoorRows.lean that lists a variable, with what it lists TIED to the program's text (the seventh form; the later family's looks); each row that meets fmt, with fmt's text TOLD by the authors' own Lean function (tested against real Go, not proved from fmt's source: count such statements apart). THE CARD IS WHAT COUNTS. Prove the row's statement (the work); the ties are given (YtdooajiobpjihaaDoorTie.lean); close each card by the builder's one call (the guide's Derived/Test/ToyasCard.lean, 'card_holds'). Laid BY PROGRAM, IN A SANDBOX (cutbox-door.mjs). By AI agents, Wed Nov 11 2026. No macro, syntax, notation, axiom, sorry.
-/
import Derived.Test.YtdooajiobpjihaaDoorRows
import GoSem.ClaimSeven
namespace Go.Proofs.YtdooajiobpjihaaDoor
namespace Rows

/-- THE TIED CARD OF 'laws.FnExactReadSurvey'. -/
def fnExactReadSurveyCard : Claim7 := { stood := { row := fnExactReadSurveyRow, standIns := [], harness := (true, "aa79c08a9f025a9ab2f99bdb399bb02533aa464f12e30b200165edd2642db5f2"), looks := true }, kinds := [], alts := [], laidByText := true, laidKinds := [.data, .data, .data, .data, .sentinel, .sentinel, .pinned], laidTests := true, laidLooks := .later }
def FnExactReadSurveyCardSaid : Prop := Claim7.holds Tryd.pinned (.plain (OpenSpec.ofChange fnExactReadSurveySpec)) fnExactReadSurveyCard

/-- THE TIED CARD OF 'laws.FnExactReadDoor'. -/
def fnExactReadDoorCard : Claim7 := { stood := { row := fnExactReadDoorRow, standIns := [], harness := (true, "aa79c08a9f025a9ab2f99bdb399bb02533aa464f12e30b200165edd2642db5f2"), looks := true }, kinds := [], alts := [], laidByText := true, laidKinds := [.data, .data, .data, .data, .sentinel, .sentinel, .pinned], laidTests := true, laidLooks := .later }
def FnExactReadDoorCardSaid : Prop := Claim7.holds Tryd.pinned (.plain (OpenSpec.ofChange fnExactReadDoorSpec)) fnExactReadDoorCard

/-- THE TIED CARD OF 'laws.FnExactFanText'. -/
def fnExactFanTextCard : Claim7 := { stood := { row := fnExactFanTextRow, standIns := [], harness := (true, "aa79c08a9f025a9ab2f99bdb399bb02533aa464f12e30b200165edd2642db5f2"), looks := true }, kinds := [], alts := [], laidByText := true, laidKinds := [.data, .data, .data], laidTests := true, laidLooks := .later }
def FnExactFanTextCardSaid : Prop := Claim7.holds Tryd.pinned (.plain (OpenSpec.ofChange fnExactFanTextSpec)) fnExactFanTextCard

/-- THE TIED CARD OF 'laws.FnExactSurveyText'. -/
def fnExactSurveyTextCard : Claim7 := { stood := { row := fnExactSurveyTextRow, standIns := [], harness := (true, "aa79c08a9f025a9ab2f99bdb399bb02533aa464f12e30b200165edd2642db5f2"), looks := true }, kinds := [], alts := [], laidByText := true, laidKinds := [.data, .data, .data], laidTests := true, laidLooks := .later }
def FnExactSurveyTextCardSaid : Prop := Claim7.holds Tryd.pinned (.plain (OpenSpec.ofChange fnExactSurveyTextSpec)) fnExactSurveyTextCard

/-- THE TIED CARD OF 'laws.FnExactDoorText'. -/
def fnExactDoorTextCard : Claim7 := { stood := { row := fnExactDoorTextRow, standIns := [], harness := (true, "aa79c08a9f025a9ab2f99bdb399bb02533aa464f12e30b200165edd2642db5f2"), looks := true }, kinds := [], alts := [], laidByText := true, laidKinds := [.data, .data, .data], laidTests := true, laidLooks := .later }
def FnExactDoorTextCardSaid : Prop := Claim7.holds Tryd.pinned (.plain (OpenSpec.ofChange fnExactDoorTextSpec)) fnExactDoorTextCard

/-- THE TIED CARD OF 'laws.FnExactReadFan'. -/
def fnExactReadFanCard : Claim7 := { stood := { row := fnExactReadFanRow, standIns := [], harness := (true, "aa79c08a9f025a9ab2f99bdb399bb02533aa464f12e30b200165edd2642db5f2"), looks := true }, kinds := [], alts := [], laidByText := true, laidKinds := [.data, .data, .data, .data, .sentinel, .sentinel, .pinned], laidTests := true, laidLooks := .later }
def FnExactReadFanCardSaid : Prop := Claim7.holds Tryd.pinned (.plain (OpenSpec.ofChange fnExactReadFanSpec)) fnExactReadFanCard

/-- THE SECOND FORM's CARD OF 'laws.FnExactReadSurvey'. -/
def fnExactReadSurveyUptoCard : Claim7 := { stood := { row := fnExactReadSurveyUptoRow, standIns := [], harness := (true, "aa79c08a9f025a9ab2f99bdb399bb02533aa464f12e30b200165edd2642db5f2"), looks := true }, kinds := [], alts := [], laidByText := true, laidKinds := [.data, .data, .data, .data, .sentinel, .sentinel, .pinned], laidTests := true, laidLooks := .later }
def FnExactReadSurveyUptoCardSaid : Prop := Claim7.holds Tryd.pinned (.plain (OpenSpec.upto fnExactReadSurveySpec)) fnExactReadSurveyUptoCard

/-- THE SECOND FORM's CARD OF 'laws.FnExactReadDoor'. -/
def fnExactReadDoorUptoCard : Claim7 := { stood := { row := fnExactReadDoorUptoRow, standIns := [], harness := (true, "aa79c08a9f025a9ab2f99bdb399bb02533aa464f12e30b200165edd2642db5f2"), looks := true }, kinds := [], alts := [], laidByText := true, laidKinds := [.data, .data, .data, .data, .sentinel, .sentinel, .pinned], laidTests := true, laidLooks := .later }
def FnExactReadDoorUptoCardSaid : Prop := Claim7.holds Tryd.pinned (.plain (OpenSpec.upto fnExactReadDoorSpec)) fnExactReadDoorUptoCard

/-- THE SECOND FORM's CARD OF 'laws.FnExactFanText'. -/
def fnExactFanTextUptoCard : Claim7 := { stood := { row := fnExactFanTextUptoRow, standIns := [], harness := (true, "aa79c08a9f025a9ab2f99bdb399bb02533aa464f12e30b200165edd2642db5f2"), looks := true }, kinds := [], alts := [], laidByText := true, laidKinds := [.data, .data, .data], laidTests := true, laidLooks := .later }
def FnExactFanTextUptoCardSaid : Prop := Claim7.holds Tryd.pinned (.plain (OpenSpec.upto fnExactFanTextSpec)) fnExactFanTextUptoCard

/-- THE SECOND FORM's CARD OF 'laws.FnExactSurveyText'. -/
def fnExactSurveyTextUptoCard : Claim7 := { stood := { row := fnExactSurveyTextUptoRow, standIns := [], harness := (true, "aa79c08a9f025a9ab2f99bdb399bb02533aa464f12e30b200165edd2642db5f2"), looks := true }, kinds := [], alts := [], laidByText := true, laidKinds := [.data, .data, .data], laidTests := true, laidLooks := .later }
def FnExactSurveyTextUptoCardSaid : Prop := Claim7.holds Tryd.pinned (.plain (OpenSpec.upto fnExactSurveyTextSpec)) fnExactSurveyTextUptoCard

/-- THE SECOND FORM's CARD OF 'laws.FnExactDoorText'. -/
def fnExactDoorTextUptoCard : Claim7 := { stood := { row := fnExactDoorTextUptoRow, standIns := [], harness := (true, "aa79c08a9f025a9ab2f99bdb399bb02533aa464f12e30b200165edd2642db5f2"), looks := true }, kinds := [], alts := [], laidByText := true, laidKinds := [.data, .data, .data], laidTests := true, laidLooks := .later }
def FnExactDoorTextUptoCardSaid : Prop := Claim7.holds Tryd.pinned (.plain (OpenSpec.upto fnExactDoorTextSpec)) fnExactDoorTextUptoCard

/-- THE SECOND FORM's CARD OF 'laws.FnExactReadFan'. -/
def fnExactReadFanUptoCard : Claim7 := { stood := { row := fnExactReadFanUptoRow, standIns := [], harness := (true, "aa79c08a9f025a9ab2f99bdb399bb02533aa464f12e30b200165edd2642db5f2"), looks := true }, kinds := [], alts := [], laidByText := true, laidKinds := [.data, .data, .data, .data, .sentinel, .sentinel, .pinned], laidTests := true, laidLooks := .later }
def FnExactReadFanUptoCardSaid : Prop := Claim7.holds Tryd.pinned (.plain (OpenSpec.upto fnExactReadFanSpec)) fnExactReadFanUptoCard
end Rows
end Go.Proofs.YtdooajiobpjihaaDoor
