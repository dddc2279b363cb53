/-
  DERIVED. GIVEN WITH THE SEED: THE CARDS: each row of YtgapekdcoedmgaaDoorRows.lean that lists a variable, with what it lists TIED to the program's text (the seventh form; the later family's looks); each row that meets fmt, with fmt's text TOLD by the authors' own Lean function (tested against real Go, not proved from fmt's source: count such statements apart). THE CARD IS WHAT COUNTS. Prove the row's statement (the work); the ties are given (YtgapekdcoedmgaaDoorTie.lean); close each card by the builder's one call (the guide's Derived/Test/ToyasCard.lean, 'card_holds'). Laid BY PROGRAM, IN A SANDBOX (cutbox-door.mjs). By AI agents, Wed Nov 11 2026. No macro, syntax, notation, axiom, sorry.
-/
import Derived.Test.YtgapekdcoedmgaaDoorRows
import GoSem.ClaimSeven
namespace Go.Proofs.YtgapekdcoedmgaaDoor
namespace Rows

/-- THE TIED CARD OF 'calamuslaw05.ClassLetters'. -/
def classLettersCard : Claim7 := { stood := { row := classLettersRow, standIns := [], harness := (true, "f85f5fcdf71efecb0f15be7ebfb74b87b774f127d9126704700c52cc4df1e200"), looks := false }, kinds := [], alts := [], laidByText := true, laidKinds := [.data, .pinned], laidTests := true, laidLooks := .later }
def ClassLettersCardSaid : Prop := Claim7.holds Tryd.pinned (.plain (OpenSpec.ofChange classLettersSpec)) classLettersCard

/-- THE TIED CARD OF 'calamuslaw04.LineNormal'. -/
def lineNormalCard : Claim7 := { stood := { row := lineNormalRow, standIns := [], harness := (true, "f85f5fcdf71efecb0f15be7ebfb74b87b774f127d9126704700c52cc4df1e200"), looks := false }, kinds := [], alts := [], laidByText := true, laidKinds := [.data, .pinned], laidTests := true, laidLooks := .later }
def LineNormalCardSaid : Prop := Claim7.holds Tryd.pinned (.plain (OpenSpec.ofChange lineNormalSpec)) lineNormalCard

/-- THE TIED CARD OF 'calamuslaw04.LineLeads'. -/
def lineLeadsCard : Claim7 := { stood := { row := lineLeadsRow, standIns := [], harness := (true, "f85f5fcdf71efecb0f15be7ebfb74b87b774f127d9126704700c52cc4df1e200"), looks := false }, kinds := [], alts := [], laidByText := true, laidKinds := [.data, .pinned], laidTests := true, laidLooks := .later }
def LineLeadsCardSaid : Prop := Claim7.holds Tryd.pinned (.plain (OpenSpec.ofChange lineLeadsSpec)) lineLeadsCard

/-- THE SECOND FORM's CARD OF 'calamuslaw05.ClassLetters'. -/
def classLettersUptoCard : Claim7 := { stood := { row := classLettersUptoRow, standIns := [], harness := (true, "f85f5fcdf71efecb0f15be7ebfb74b87b774f127d9126704700c52cc4df1e200"), looks := false }, kinds := [], alts := [], laidByText := true, laidKinds := [.data, .pinned], laidTests := true, laidLooks := .later }
def ClassLettersUptoCardSaid : Prop := Claim7.holds Tryd.pinned (.plain (OpenSpec.upto classLettersSpec)) classLettersUptoCard

/-- THE SECOND FORM's CARD OF 'calamuslaw04.LineNormal'. -/
def lineNormalUptoCard : Claim7 := { stood := { row := lineNormalUptoRow, standIns := [], harness := (true, "f85f5fcdf71efecb0f15be7ebfb74b87b774f127d9126704700c52cc4df1e200"), looks := false }, kinds := [], alts := [], laidByText := true, laidKinds := [.data, .pinned], laidTests := true, laidLooks := .later }
def LineNormalUptoCardSaid : Prop := Claim7.holds Tryd.pinned (.plain (OpenSpec.upto lineNormalSpec)) lineNormalUptoCard

/-- THE SECOND FORM's CARD OF 'calamuslaw04.LineLeads'. -/
def lineLeadsUptoCard : Claim7 := { stood := { row := lineLeadsUptoRow, standIns := [], harness := (true, "f85f5fcdf71efecb0f15be7ebfb74b87b774f127d9126704700c52cc4df1e200"), looks := false }, kinds := [], alts := [], laidByText := true, laidKinds := [.data, .pinned], laidTests := true, laidLooks := .later }
def LineLeadsUptoCardSaid : Prop := Claim7.holds Tryd.pinned (.plain (OpenSpec.upto lineLeadsSpec)) lineLeadsUptoCard
end Rows
end Go.Proofs.YtgapekdcoedmgaaDoor
