/-
  DERIVED. GIVEN WITH THE SEED: THE CARDS: each row of YtbilknmcikmcoaaDoorRows.lean that lists a variable, with what it lists TIED to the program's text (the seventh form; the later family's looks); each row that meets fmt, with fmt's text TOLD by the authors' own Lean function (tested against real Go, not proved from fmt's source: count such statements apart). THE CARD IS WHAT COUNTS. Prove the row's statement (the work); the ties are given (YtbilknmcikmcoaaDoorTie.lean); close each card by the builder's one call (the guide's Derived/Test/ToyasCard.lean, 'card_holds'). Laid BY PROGRAM, IN A SANDBOX (cutbox-door.mjs). By AI agents, Wed Nov 11 2026. No macro, syntax, notation, axiom, sorry.
-/
import Derived.Test.YtbilknmcikmcoaaDoorRows
import GoSem.ClaimSeven
namespace Go.Proofs.YtbilknmcikmcoaaDoor
namespace Rows

/-- THE TIED CARD OF 'calamuslaw18.ParaGoes'. -/
def paraGoesCard : Claim7 := { stood := { row := paraGoesRow, standIns := [], harness := (true, "7b635235be8b0f3b4e349218ba70df4d549110cef8cec1d57bf874310461e3fa"), looks := false }, kinds := [], alts := [], laidByText := true, laidKinds := [.data, .pinned], laidTests := true, laidLooks := .later }
def ParaGoesCardSaid : Prop := Claim7.holds Tryd.pinned (.plain (OpenSpec.ofChange paraGoesSpec)) paraGoesCard

/-- THE TIED CARD OF 'calamuslaw18.ParaBlocks'. -/
def paraBlocksCard : Claim7 := { stood := { row := paraBlocksRow, standIns := [], harness := (true, "7b635235be8b0f3b4e349218ba70df4d549110cef8cec1d57bf874310461e3fa"), looks := false }, kinds := [], alts := [], laidByText := true, laidKinds := [.data, .pinned], laidTests := true, laidLooks := .later }
def ParaBlocksCardSaid : Prop := Claim7.holds Tryd.pinned (.plain (OpenSpec.ofChange paraBlocksSpec)) paraBlocksCard

/-- THE TIED CARD OF 'calamuslaw18.ParaTimes'. -/
def paraTimesCard : Claim7 := { stood := { row := paraTimesRow, standIns := [], harness := (true, "7b635235be8b0f3b4e349218ba70df4d549110cef8cec1d57bf874310461e3fa"), looks := false }, kinds := [], alts := [], laidByText := true, laidKinds := [.data, .pinned], laidTests := true, laidLooks := .later }
def ParaTimesCardSaid : Prop := Claim7.holds Tryd.pinned (.plain (OpenSpec.ofChange paraTimesSpec)) paraTimesCard

/-- THE TIED CARD OF 'calamuslaw18.ParaAll'. -/
def paraAllCard : Claim7 := { stood := { row := paraAllRow, standIns := [], harness := (true, "7b635235be8b0f3b4e349218ba70df4d549110cef8cec1d57bf874310461e3fa"), looks := false }, kinds := [], alts := [], laidByText := true, laidKinds := [.data, .pinned], laidTests := true, laidLooks := .later }
def ParaAllCardSaid : Prop := Claim7.holds Tryd.pinned (.plain (OpenSpec.ofChange paraAllSpec)) paraAllCard

/-- THE TIED CARD OF 'calamuslaw14.MoveGoes'. -/
def moveGoesCard : Claim7 := { stood := { row := moveGoesRow, standIns := [], harness := (true, "7b635235be8b0f3b4e349218ba70df4d549110cef8cec1d57bf874310461e3fa"), looks := false }, kinds := [], alts := [], laidByText := true, laidKinds := [.data, .pinned], laidTests := true, laidLooks := .later }
def MoveGoesCardSaid : Prop := Claim7.holds Tryd.pinned (.plain (OpenSpec.ofChange moveGoesSpec)) moveGoesCard

/-- THE TIED CARD OF 'calamuslaw14.MoveAll'. -/
def moveAllCard : Claim7 := { stood := { row := moveAllRow, standIns := [], harness := (true, "7b635235be8b0f3b4e349218ba70df4d549110cef8cec1d57bf874310461e3fa"), looks := false }, kinds := [], alts := [], laidByText := true, laidKinds := [.data, .pinned], laidTests := true, laidLooks := .later }
def MoveAllCardSaid : Prop := Claim7.holds Tryd.pinned (.plain (OpenSpec.ofChange moveAllSpec)) moveAllCard

/-- THE TIED CARD OF 'calamuslaw14.MovePlaces'. -/
def movePlacesCard : Claim7 := { stood := { row := movePlacesRow, standIns := [], harness := (true, "7b635235be8b0f3b4e349218ba70df4d549110cef8cec1d57bf874310461e3fa"), looks := false }, kinds := [], alts := [], laidByText := true, laidKinds := [.data, .pinned], laidTests := true, laidLooks := .later }
def MovePlacesCardSaid : Prop := Claim7.holds Tryd.pinned (.plain (OpenSpec.ofChange movePlacesSpec)) movePlacesCard

/-- THE TIED CARD OF 'calamuslaw14.MoveBack'. -/
def moveBackCard : Claim7 := { stood := { row := moveBackRow, standIns := [], harness := (true, "7b635235be8b0f3b4e349218ba70df4d549110cef8cec1d57bf874310461e3fa"), looks := false }, kinds := [], alts := [], laidByText := true, laidKinds := [.data, .pinned], laidTests := true, laidLooks := .later }
def MoveBackCardSaid : Prop := Claim7.holds Tryd.pinned (.plain (OpenSpec.ofChange moveBackSpec)) moveBackCard

/-- THE SECOND FORM's CARD OF 'calamuslaw18.ParaGoes'. -/
def paraGoesUptoCard : Claim7 := { stood := { row := paraGoesUptoRow, standIns := [], harness := (true, "7b635235be8b0f3b4e349218ba70df4d549110cef8cec1d57bf874310461e3fa"), looks := false }, kinds := [], alts := [], laidByText := true, laidKinds := [.data, .pinned], laidTests := true, laidLooks := .later }
def ParaGoesUptoCardSaid : Prop := Claim7.holds Tryd.pinned (.plain (OpenSpec.upto paraGoesSpec)) paraGoesUptoCard

/-- THE SECOND FORM's CARD OF 'calamuslaw18.ParaBlocks'. -/
def paraBlocksUptoCard : Claim7 := { stood := { row := paraBlocksUptoRow, standIns := [], harness := (true, "7b635235be8b0f3b4e349218ba70df4d549110cef8cec1d57bf874310461e3fa"), looks := false }, kinds := [], alts := [], laidByText := true, laidKinds := [.data, .pinned], laidTests := true, laidLooks := .later }
def ParaBlocksUptoCardSaid : Prop := Claim7.holds Tryd.pinned (.plain (OpenSpec.upto paraBlocksSpec)) paraBlocksUptoCard

/-- THE SECOND FORM's CARD OF 'calamuslaw18.ParaTimes'. -/
def paraTimesUptoCard : Claim7 := { stood := { row := paraTimesUptoRow, standIns := [], harness := (true, "7b635235be8b0f3b4e349218ba70df4d549110cef8cec1d57bf874310461e3fa"), looks := false }, kinds := [], alts := [], laidByText := true, laidKinds := [.data, .pinned], laidTests := true, laidLooks := .later }
def ParaTimesUptoCardSaid : Prop := Claim7.holds Tryd.pinned (.plain (OpenSpec.upto paraTimesSpec)) paraTimesUptoCard

/-- THE SECOND FORM's CARD OF 'calamuslaw18.ParaAll'. -/
def paraAllUptoCard : Claim7 := { stood := { row := paraAllUptoRow, standIns := [], harness := (true, "7b635235be8b0f3b4e349218ba70df4d549110cef8cec1d57bf874310461e3fa"), looks := false }, kinds := [], alts := [], laidByText := true, laidKinds := [.data, .pinned], laidTests := true, laidLooks := .later }
def ParaAllUptoCardSaid : Prop := Claim7.holds Tryd.pinned (.plain (OpenSpec.upto paraAllSpec)) paraAllUptoCard

/-- THE SECOND FORM's CARD OF 'calamuslaw14.MoveGoes'. -/
def moveGoesUptoCard : Claim7 := { stood := { row := moveGoesUptoRow, standIns := [], harness := (true, "7b635235be8b0f3b4e349218ba70df4d549110cef8cec1d57bf874310461e3fa"), looks := false }, kinds := [], alts := [], laidByText := true, laidKinds := [.data, .pinned], laidTests := true, laidLooks := .later }
def MoveGoesUptoCardSaid : Prop := Claim7.holds Tryd.pinned (.plain (OpenSpec.upto moveGoesSpec)) moveGoesUptoCard

/-- THE SECOND FORM's CARD OF 'calamuslaw14.MoveAll'. -/
def moveAllUptoCard : Claim7 := { stood := { row := moveAllUptoRow, standIns := [], harness := (true, "7b635235be8b0f3b4e349218ba70df4d549110cef8cec1d57bf874310461e3fa"), looks := false }, kinds := [], alts := [], laidByText := true, laidKinds := [.data, .pinned], laidTests := true, laidLooks := .later }
def MoveAllUptoCardSaid : Prop := Claim7.holds Tryd.pinned (.plain (OpenSpec.upto moveAllSpec)) moveAllUptoCard

/-- THE SECOND FORM's CARD OF 'calamuslaw14.MovePlaces'. -/
def movePlacesUptoCard : Claim7 := { stood := { row := movePlacesUptoRow, standIns := [], harness := (true, "7b635235be8b0f3b4e349218ba70df4d549110cef8cec1d57bf874310461e3fa"), looks := false }, kinds := [], alts := [], laidByText := true, laidKinds := [.data, .pinned], laidTests := true, laidLooks := .later }
def MovePlacesUptoCardSaid : Prop := Claim7.holds Tryd.pinned (.plain (OpenSpec.upto movePlacesSpec)) movePlacesUptoCard

/-- THE SECOND FORM's CARD OF 'calamuslaw14.MoveBack'. -/
def moveBackUptoCard : Claim7 := { stood := { row := moveBackUptoRow, standIns := [], harness := (true, "7b635235be8b0f3b4e349218ba70df4d549110cef8cec1d57bf874310461e3fa"), looks := false }, kinds := [], alts := [], laidByText := true, laidKinds := [.data, .pinned], laidTests := true, laidLooks := .later }
def MoveBackUptoCardSaid : Prop := Claim7.holds Tryd.pinned (.plain (OpenSpec.upto moveBackSpec)) moveBackUptoCard
end Rows
end Go.Proofs.YtbilknmcikmcoaaDoor
