/-
  DERIVED. GIVEN WITH THE SEED: THE CARDS: each row of YtckfdehendifoaaDoorRows.lean that lists a variable, with what it lists TIED to the program's text (the seventh form; the later family's looks); each row that meets fmt, with fmt's text TOLD by the authors' own Lean function (tested against real Go, not proved from fmt's source: count such statements apart). THE CARD IS WHAT COUNTS. Prove the row's statement (the work); the ties are given (YtckfdehendifoaaDoorTie.lean); close each card by the builder's one call (the guide's Derived/Test/ToyasCard.lean, 'card_holds'). Laid BY PROGRAM, IN A SANDBOX (cutbox-door.mjs). By AI agents, Wed Nov 11 2026. No macro, syntax, notation, axiom, sorry.
-/
import Derived.Test.YtckfdehendifoaaDoorRows
import GoSem.ClaimSeven
namespace Go.Proofs.YtckfdehendifoaaDoor
namespace Rows

/-- THE TIED CARD OF 'calamuslaw24.PastePuts'. -/
def pastePutsCard : Claim7 := { stood := { row := pastePutsRow, standIns := [], harness := (true, "1656de5e92e4ab7fbdfcb5f084d9d37846900147f3d16f6d9ba3f1d9c5451fa9"), looks := false }, kinds := [], alts := [], laidByText := true, laidKinds := [.data, .pinned], laidTests := true, laidLooks := .later }
def PastePutsCardSaid : Prop := Claim7.holds Tryd.pinned (.plain (OpenSpec.ofChange pastePutsSpec)) pastePutsCard

/-- THE TIED CARD OF 'calamuslaw24.PasteLess'. -/
def pasteLessCard : Claim7 := { stood := { row := pasteLessRow, standIns := [], harness := (true, "1656de5e92e4ab7fbdfcb5f084d9d37846900147f3d16f6d9ba3f1d9c5451fa9"), looks := false }, kinds := [], alts := [], laidByText := true, laidKinds := [.data, .pinned], laidTests := true, laidLooks := .later }
def PasteLessCardSaid : Prop := Claim7.holds Tryd.pinned (.plain (OpenSpec.ofChange pasteLessSpec)) pasteLessCard

/-- THE TIED CARD OF 'calamuslaw24.PasteOver'. -/
def pasteOverCard : Claim7 := { stood := { row := pasteOverRow, standIns := [], harness := (true, "1656de5e92e4ab7fbdfcb5f084d9d37846900147f3d16f6d9ba3f1d9c5451fa9"), looks := false }, kinds := [], alts := [], laidByText := true, laidKinds := [.data, .pinned], laidTests := true, laidLooks := .later }
def PasteOverCardSaid : Prop := Claim7.holds Tryd.pinned (.plain (OpenSpec.ofChange pasteOverSpec)) pasteOverCard

/-- THE TIED CARD OF 'calamuslaw24.PasteTwice'. -/
def pasteTwiceCard : Claim7 := { stood := { row := pasteTwiceRow, standIns := [], harness := (true, "1656de5e92e4ab7fbdfcb5f084d9d37846900147f3d16f6d9ba3f1d9c5451fa9"), looks := false }, kinds := [], alts := [], laidByText := true, laidKinds := [.data, .pinned], laidTests := true, laidLooks := .later }
def PasteTwiceCardSaid : Prop := Claim7.holds Tryd.pinned (.plain (OpenSpec.ofChange pasteTwiceSpec)) pasteTwiceCard

/-- THE SECOND FORM's CARD OF 'calamuslaw24.PastePuts'. -/
def pastePutsUptoCard : Claim7 := { stood := { row := pastePutsUptoRow, standIns := [], harness := (true, "1656de5e92e4ab7fbdfcb5f084d9d37846900147f3d16f6d9ba3f1d9c5451fa9"), looks := false }, kinds := [], alts := [], laidByText := true, laidKinds := [.data, .pinned], laidTests := true, laidLooks := .later }
def PastePutsUptoCardSaid : Prop := Claim7.holds Tryd.pinned (.plain (OpenSpec.upto pastePutsSpec)) pastePutsUptoCard

/-- THE SECOND FORM's CARD OF 'calamuslaw24.PasteLess'. -/
def pasteLessUptoCard : Claim7 := { stood := { row := pasteLessUptoRow, standIns := [], harness := (true, "1656de5e92e4ab7fbdfcb5f084d9d37846900147f3d16f6d9ba3f1d9c5451fa9"), looks := false }, kinds := [], alts := [], laidByText := true, laidKinds := [.data, .pinned], laidTests := true, laidLooks := .later }
def PasteLessUptoCardSaid : Prop := Claim7.holds Tryd.pinned (.plain (OpenSpec.upto pasteLessSpec)) pasteLessUptoCard

/-- THE SECOND FORM's CARD OF 'calamuslaw24.PasteOver'. -/
def pasteOverUptoCard : Claim7 := { stood := { row := pasteOverUptoRow, standIns := [], harness := (true, "1656de5e92e4ab7fbdfcb5f084d9d37846900147f3d16f6d9ba3f1d9c5451fa9"), looks := false }, kinds := [], alts := [], laidByText := true, laidKinds := [.data, .pinned], laidTests := true, laidLooks := .later }
def PasteOverUptoCardSaid : Prop := Claim7.holds Tryd.pinned (.plain (OpenSpec.upto pasteOverSpec)) pasteOverUptoCard

/-- THE SECOND FORM's CARD OF 'calamuslaw24.PasteTwice'. -/
def pasteTwiceUptoCard : Claim7 := { stood := { row := pasteTwiceUptoRow, standIns := [], harness := (true, "1656de5e92e4ab7fbdfcb5f084d9d37846900147f3d16f6d9ba3f1d9c5451fa9"), looks := false }, kinds := [], alts := [], laidByText := true, laidKinds := [.data, .pinned], laidTests := true, laidLooks := .later }
def PasteTwiceUptoCardSaid : Prop := Claim7.holds Tryd.pinned (.plain (OpenSpec.upto pasteTwiceSpec)) pasteTwiceUptoCard
end Rows
end Go.Proofs.YtckfdehendifoaaDoor
