/-
  NARROWER THAN 'FOR EVERY INPUT', by the rows' own cells (each row's printed sentence says how): ParaGoes: laid · ParaBlocks: laid · ParaTimes: laid · ParaAll: laid · MoveGoes: laid · MoveAll: laid · MovePlaces: laid · MoveBack: laid.
  DERIVED. THE GIVEN ROWS OF THIS SEAT. 8 by the template 'for every input the law returns true; each argument reads behind the call as it read before'; 0 by the template 'total and deterministic' (their statements: YtbilknmcikmcoaaDoorTotals.lean).
  GIVEN WITH THE SEED: the statements are not yours to turn. If you find one false, say at which input.
  Laid BY PROGRAM, IN A SANDBOX (cutbox-rows.mjs): the forced cells as the released guide's own fill.sh prints them over the translation ee5c9d5de2d7b691… (all of the seat's roots in one cut). By AI agents, Wed Nov 11 2026. No macro, syntax, notation, axiom, sorry.
-/
import Derived.Test.YtbilknmcikmcoaaDoorChecked
import GoSem.PinnedTables
import GoSem.Claim
import GoSem.ClaimJoined
import GoSem.ClaimMapViews
import Derived.JoinedTies
import Derived.KernelRfl
namespace Go.Proofs.YtbilknmcikmcoaaDoor
/- THE CELL 'sum', in the pinned program and in every row, IS THE sha256 OF THE DUMP (.gsa) THAT YtbilknmcikmcoaaDoorProg.lean LOADS. Nothing in Lean hashes anything: it is a label: what it is worth is what the hold of that sum in a sandbox is worth. -/
noncomputable def Tryd.pinned : Pinned := { name := "ytbilknmcikmcoaadoor", sum := "ee5c9d5de2d7b691c79a759c188b77d55793ab9103582c4903e30970bc57a101", checked := Tryd.checked }
namespace Rows
def none {H : Type} : Left H := { results := [], args := [] }

/- WHAT THE LISTED PACKAGE-LEVEL VARIABLES READ AS WHEN THE CALL BEGINS. Each datum BY PROGRAM (the guide's laid-datum.mjs) off the statement by which the dump's own 'gosem.cut.vars' lays the variable. In a bare row this is a premise. The card (YtbilknmcikmcoaaDoorCards.lean) ties it to the program's text. -/
def laid_unicode_utf8_acceptRanges {H : Type} : DataW H := .agg [.agg [.lit (.int .u8 128), .lit (.int .u8 191)], .agg [.lit (.int .u8 160), .lit (.int .u8 191)], .agg [.lit (.int .u8 128), .lit (.int .u8 159)], .agg [.lit (.int .u8 144), .lit (.int .u8 191)], .agg [.lit (.int .u8 128), .lit (.int .u8 143)], .agg [.lit (.int .u8 0), .lit (.int .u8 0)], .agg [.lit (.int .u8 0), .lit (.int .u8 0)], .agg [.lit (.int .u8 0), .lit (.int .u8 0)], .agg [.lit (.int .u8 0), .lit (.int .u8 0)], .agg [.lit (.int .u8 0), .lit (.int .u8 0)], .agg [.lit (.int .u8 0), .lit (.int .u8 0)], .agg [.lit (.int .u8 0), .lit (.int .u8 0)], .agg [.lit (.int .u8 0), .lit (.int .u8 0)], .agg [.lit (.int .u8 0), .lit (.int .u8 0)], .agg [.lit (.int .u8 0), .lit (.int .u8 0)], .agg [.lit (.int .u8 0), .lit (.int .u8 0)]]
/-- One of Go's own tables, pinned by name: the form's constant. -/
def laid_unicode_utf8_first : DataW Unit := Go.Pinned.utf8First

/-- 'calamuslaw18.ParaGoes': WHATEVER THE INPUT: true; the input reads as it did. -/
def paraGoesSpec : ChangeSpec := { name := "paraGoes", fn := fun _ => fun
  | [d1, d2, d3, d4] => { results := [.lit (.bool true)], args := [d1, d2, d3, d4] }
  | _ => none }
def paraGoesRow : OpenClaim := { program := "ytbilknmcikmcoaadoor", sum := "ee5c9d5de2d7b691c79a759c188b77d55793ab9103582c4903e30970bc57a101", func := "calamus/calamuslaw18.ParaGoes", spec := "paraGoes", inPlace := ["internal/bytealg.CountString", "internal/bytealg.IndexByteString", "internal/bytealg.IndexString"], unfollowed := true, recurses := true, named := ["internal/bytealg.MaxLen", "unicode/utf8.first", "unicode/utf8.acceptRanges"], apart := false, laid := [("unicode/utf8.acceptRanges", laid_unicode_utf8_acceptRanges), ("unicode/utf8.first", laid_unicode_utf8_first)] }
def ParaGoesSaid : Prop := paraGoesRow.holds Tryd.pinned (OpenSpec.ofChange paraGoesSpec)

/-- ITS FALSE NEIGHBOUR: 'it returns false'. Refute it at one input. -/
def paraGoesWrong : ChangeSpec := { name := "paraGoes", fn := fun _ => fun
  | [d1, d2, d3, d4] => { results := [.lit (.bool false)], args := [d1, d2, d3, d4] }
  | _ => none }
def ParaGoesWrongFalsely : Prop := paraGoesRow.holds Tryd.pinned (OpenSpec.ofChange paraGoesWrong)

/-- 'calamuslaw18.ParaBlocks': WHATEVER THE INPUT: true; the input reads as it did. -/
def paraBlocksSpec : ChangeSpec := { name := "paraBlocks", fn := fun _ => fun
  | [d1, d2] => { results := [.lit (.bool true)], args := [d1, d2] }
  | _ => none }
def paraBlocksRow : OpenClaim := { program := "ytbilknmcikmcoaadoor", sum := "ee5c9d5de2d7b691c79a759c188b77d55793ab9103582c4903e30970bc57a101", func := "calamus/calamuslaw18.ParaBlocks", spec := "paraBlocks", inPlace := ["internal/bytealg.CountString", "internal/bytealg.IndexByteString", "internal/bytealg.IndexString"], unfollowed := true, recurses := true, named := ["internal/bytealg.MaxLen", "unicode/utf8.first", "unicode/utf8.acceptRanges"], apart := false, laid := [("unicode/utf8.acceptRanges", laid_unicode_utf8_acceptRanges), ("unicode/utf8.first", laid_unicode_utf8_first)] }
def ParaBlocksSaid : Prop := paraBlocksRow.holds Tryd.pinned (OpenSpec.ofChange paraBlocksSpec)

/-- ITS FALSE NEIGHBOUR: 'it returns false'. Refute it at one input. -/
def paraBlocksWrong : ChangeSpec := { name := "paraBlocks", fn := fun _ => fun
  | [d1, d2] => { results := [.lit (.bool false)], args := [d1, d2] }
  | _ => none }
def ParaBlocksWrongFalsely : Prop := paraBlocksRow.holds Tryd.pinned (OpenSpec.ofChange paraBlocksWrong)

/-- 'calamuslaw18.ParaTimes': WHATEVER THE INPUT: true; the input reads as it did. -/
def paraTimesSpec : ChangeSpec := { name := "paraTimes", fn := fun _ => fun
  | [d1, d2, d3, d4] => { results := [.lit (.bool true)], args := [d1, d2, d3, d4] }
  | _ => none }
def paraTimesRow : OpenClaim := { program := "ytbilknmcikmcoaadoor", sum := "ee5c9d5de2d7b691c79a759c188b77d55793ab9103582c4903e30970bc57a101", func := "calamus/calamuslaw18.ParaTimes", spec := "paraTimes", inPlace := ["internal/bytealg.CountString", "internal/bytealg.IndexByteString", "internal/bytealg.IndexString"], unfollowed := true, recurses := true, named := ["internal/bytealg.MaxLen", "unicode/utf8.first", "unicode/utf8.acceptRanges"], apart := false, laid := [("unicode/utf8.acceptRanges", laid_unicode_utf8_acceptRanges), ("unicode/utf8.first", laid_unicode_utf8_first)] }
def ParaTimesSaid : Prop := paraTimesRow.holds Tryd.pinned (OpenSpec.ofChange paraTimesSpec)

/-- ITS FALSE NEIGHBOUR: 'it returns false'. Refute it at one input. -/
def paraTimesWrong : ChangeSpec := { name := "paraTimes", fn := fun _ => fun
  | [d1, d2, d3, d4] => { results := [.lit (.bool false)], args := [d1, d2, d3, d4] }
  | _ => none }
def ParaTimesWrongFalsely : Prop := paraTimesRow.holds Tryd.pinned (OpenSpec.ofChange paraTimesWrong)

/-- 'calamuslaw18.ParaAll': WHATEVER THE INPUT: true; the input reads as it did. -/
def paraAllSpec : ChangeSpec := { name := "paraAll", fn := fun _ => fun
  | [d] => { results := [.lit (.bool true)], args := [d] }
  | _ => none }
def paraAllRow : OpenClaim := { program := "ytbilknmcikmcoaadoor", sum := "ee5c9d5de2d7b691c79a759c188b77d55793ab9103582c4903e30970bc57a101", func := "calamus/calamuslaw18.ParaAll", spec := "paraAll", inPlace := ["internal/bytealg.CountString", "internal/bytealg.IndexByteString", "internal/bytealg.IndexString"], unfollowed := true, recurses := true, named := ["internal/bytealg.MaxLen", "unicode/utf8.first", "unicode/utf8.acceptRanges"], apart := false, laid := [("unicode/utf8.acceptRanges", laid_unicode_utf8_acceptRanges), ("unicode/utf8.first", laid_unicode_utf8_first)] }
def ParaAllSaid : Prop := paraAllRow.holds Tryd.pinned (OpenSpec.ofChange paraAllSpec)

/-- ITS FALSE NEIGHBOUR: 'it returns false'. Refute it at one input. -/
def paraAllWrong : ChangeSpec := { name := "paraAll", fn := fun _ => fun
  | [d] => { results := [.lit (.bool false)], args := [d] }
  | _ => none }
def ParaAllWrongFalsely : Prop := paraAllRow.holds Tryd.pinned (OpenSpec.ofChange paraAllWrong)

/-- 'calamuslaw14.MoveGoes': WHATEVER THE INPUT: true; the input reads as it did. -/
def moveGoesSpec : ChangeSpec := { name := "moveGoes", fn := fun _ => fun
  | [d1, d2, d3, d4, d5] => { results := [.lit (.bool true)], args := [d1, d2, d3, d4, d5] }
  | _ => none }
def moveGoesRow : OpenClaim := { program := "ytbilknmcikmcoaadoor", sum := "ee5c9d5de2d7b691c79a759c188b77d55793ab9103582c4903e30970bc57a101", func := "calamus/calamuslaw14.MoveGoes", spec := "moveGoes", inPlace := ["internal/bytealg.IndexByteString", "internal/bytealg.IndexString", "internal/bytealg.CountString"], unfollowed := true, recurses := true, named := ["internal/bytealg.MaxLen", "unicode/utf8.first", "unicode/utf8.acceptRanges"], apart := false, laid := [("unicode/utf8.acceptRanges", laid_unicode_utf8_acceptRanges), ("unicode/utf8.first", laid_unicode_utf8_first)] }
def MoveGoesSaid : Prop := moveGoesRow.holds Tryd.pinned (OpenSpec.ofChange moveGoesSpec)

/-- ITS FALSE NEIGHBOUR: 'it returns false'. Refute it at one input. -/
def moveGoesWrong : ChangeSpec := { name := "moveGoes", fn := fun _ => fun
  | [d1, d2, d3, d4, d5] => { results := [.lit (.bool false)], args := [d1, d2, d3, d4, d5] }
  | _ => none }
def MoveGoesWrongFalsely : Prop := moveGoesRow.holds Tryd.pinned (OpenSpec.ofChange moveGoesWrong)

/-- 'calamuslaw14.MoveAll': WHATEVER THE INPUT: true; the input reads as it did. -/
def moveAllSpec : ChangeSpec := { name := "moveAll", fn := fun _ => fun
  | [d1, d2, d3, d4] => { results := [.lit (.bool true)], args := [d1, d2, d3, d4] }
  | _ => none }
def moveAllRow : OpenClaim := { program := "ytbilknmcikmcoaadoor", sum := "ee5c9d5de2d7b691c79a759c188b77d55793ab9103582c4903e30970bc57a101", func := "calamus/calamuslaw14.MoveAll", spec := "moveAll", inPlace := ["internal/bytealg.IndexByteString", "internal/bytealg.IndexString", "internal/bytealg.CountString"], unfollowed := true, recurses := true, named := ["internal/bytealg.MaxLen", "unicode/utf8.first", "unicode/utf8.acceptRanges"], apart := false, laid := [("unicode/utf8.acceptRanges", laid_unicode_utf8_acceptRanges), ("unicode/utf8.first", laid_unicode_utf8_first)] }
def MoveAllSaid : Prop := moveAllRow.holds Tryd.pinned (OpenSpec.ofChange moveAllSpec)

/-- ITS FALSE NEIGHBOUR: 'it returns false'. Refute it at one input. -/
def moveAllWrong : ChangeSpec := { name := "moveAll", fn := fun _ => fun
  | [d1, d2, d3, d4] => { results := [.lit (.bool false)], args := [d1, d2, d3, d4] }
  | _ => none }
def MoveAllWrongFalsely : Prop := moveAllRow.holds Tryd.pinned (OpenSpec.ofChange moveAllWrong)

/-- 'calamuslaw14.MovePlaces': WHATEVER THE INPUT: true; the input reads as it did. -/
def movePlacesSpec : ChangeSpec := { name := "movePlaces", fn := fun _ => fun
  | [d1, d2, d3, d4, d5] => { results := [.lit (.bool true)], args := [d1, d2, d3, d4, d5] }
  | _ => none }
def movePlacesRow : OpenClaim := { program := "ytbilknmcikmcoaadoor", sum := "ee5c9d5de2d7b691c79a759c188b77d55793ab9103582c4903e30970bc57a101", func := "calamus/calamuslaw14.MovePlaces", spec := "movePlaces", inPlace := ["internal/bytealg.IndexByteString", "internal/bytealg.IndexString", "internal/bytealg.CountString"], unfollowed := true, recurses := true, named := ["internal/bytealg.MaxLen", "unicode/utf8.first", "unicode/utf8.acceptRanges"], apart := false, laid := [("unicode/utf8.acceptRanges", laid_unicode_utf8_acceptRanges), ("unicode/utf8.first", laid_unicode_utf8_first)] }
def MovePlacesSaid : Prop := movePlacesRow.holds Tryd.pinned (OpenSpec.ofChange movePlacesSpec)

/-- ITS FALSE NEIGHBOUR: 'it returns false'. Refute it at one input. -/
def movePlacesWrong : ChangeSpec := { name := "movePlaces", fn := fun _ => fun
  | [d1, d2, d3, d4, d5] => { results := [.lit (.bool false)], args := [d1, d2, d3, d4, d5] }
  | _ => none }
def MovePlacesWrongFalsely : Prop := movePlacesRow.holds Tryd.pinned (OpenSpec.ofChange movePlacesWrong)

/-- 'calamuslaw14.MoveBack': WHATEVER THE INPUT: true; the input reads as it did. -/
def moveBackSpec : ChangeSpec := { name := "moveBack", fn := fun _ => fun
  | [d1, d2, d3] => { results := [.lit (.bool true)], args := [d1, d2, d3] }
  | _ => none }
def moveBackRow : OpenClaim := { program := "ytbilknmcikmcoaadoor", sum := "ee5c9d5de2d7b691c79a759c188b77d55793ab9103582c4903e30970bc57a101", func := "calamus/calamuslaw14.MoveBack", spec := "moveBack", inPlace := ["internal/bytealg.IndexByteString", "internal/bytealg.IndexString", "internal/bytealg.CountString"], unfollowed := true, recurses := true, named := ["internal/bytealg.MaxLen", "unicode/utf8.first", "unicode/utf8.acceptRanges"], apart := false, laid := [("unicode/utf8.acceptRanges", laid_unicode_utf8_acceptRanges), ("unicode/utf8.first", laid_unicode_utf8_first)] }
def MoveBackSaid : Prop := moveBackRow.holds Tryd.pinned (OpenSpec.ofChange moveBackSpec)

/-- ITS FALSE NEIGHBOUR: 'it returns false'. Refute it at one input. -/
def moveBackWrong : ChangeSpec := { name := "moveBack", fn := fun _ => fun
  | [d1, d2, d3] => { results := [.lit (.bool false)], args := [d1, d2, d3] }
  | _ => none }
def MoveBackWrongFalsely : Prop := moveBackRow.holds Tryd.pinned (OpenSpec.ofChange moveBackWrong)

/- THE SECOND FORM. 'bulk': how many values and letters a reading holds, each counted each time it is reached (what is shared counts as often as it is met; a slice's spare places count too). A statement '..UptoSaid' is the law's where the arguments, and the package variables that the reading takes, are together of bulk at most 1048576: NARROWER than '..Said'. Prove '..Said' where nothing that the law and all that it calls make is longer than what came in: it says more and counts as full. Else prove '..UptoSaid'. A law counts once. -/
mutual
def uptoBulk {H : Type} : DataW H → Nat
  | .lit (.string bytes) => bytes.length + 1
  | .lit _ => 1
  | .nil => 1
  | .ptr d => uptoBulk d + 1
  | .slice elems spare => uptoBulkAll elems + uptoBulkAll spare + 1
  | .agg parts => uptoBulkAll parts + 1
  | .iface _ d => uptoBulk d + 1
  | .map entries => uptoBulkEntries entries + 1
  | .held _ => 1
def uptoBulkAll {H : Type} : List (DataW H) → Nat
  | [] => 0
  | d :: r => uptoBulk d + uptoBulkAll r
def uptoBulkEntries {H : Type} : List (Lit × DataW H) → Nat
  | [] => 0
  | x :: r => uptoBulkEntry x + uptoBulkEntries r
def uptoBulkEntry {H : Type} : Lit × DataW H → Nat
  | (.string bytes, d) => bytes.length + uptoBulk d + 1
  | (_, d) => uptoBulk d + 1
 end
def uptoSmall : (H : Type) → List (DataW H) → Bool := fun _ ds => decide (uptoBulkAll ds ≤ 1048576)
def OpenSpec.upto (s : _root_.Go.ChangeSpec) : _root_.Go.OpenSpec := { _root_.Go.OpenSpec.ofChange s with cond := some uptoSmall }

/-- 'calamuslaw18.ParaGoes', WHERE WHAT IT READS IS OF BULK AT MOST 1048576: true; the input reads as it did. -/
def paraGoesUptoRow : OpenClaim := { program := "ytbilknmcikmcoaadoor", sum := "ee5c9d5de2d7b691c79a759c188b77d55793ab9103582c4903e30970bc57a101", func := "calamus/calamuslaw18.ParaGoes", spec := "paraGoes", inPlace := ["internal/bytealg.CountString", "internal/bytealg.IndexByteString", "internal/bytealg.IndexString"], unfollowed := true, recurses := true, named := ["internal/bytealg.MaxLen", "unicode/utf8.first", "unicode/utf8.acceptRanges"], apart := false, laid := [("unicode/utf8.acceptRanges", laid_unicode_utf8_acceptRanges), ("unicode/utf8.first", laid_unicode_utf8_first)], narrowed := true }
def ParaGoesUptoSaid : Prop := paraGoesUptoRow.holds Tryd.pinned (OpenSpec.upto paraGoesSpec)

/-- 'calamuslaw18.ParaBlocks', WHERE WHAT IT READS IS OF BULK AT MOST 1048576: true; the input reads as it did. -/
def paraBlocksUptoRow : OpenClaim := { program := "ytbilknmcikmcoaadoor", sum := "ee5c9d5de2d7b691c79a759c188b77d55793ab9103582c4903e30970bc57a101", func := "calamus/calamuslaw18.ParaBlocks", spec := "paraBlocks", inPlace := ["internal/bytealg.CountString", "internal/bytealg.IndexByteString", "internal/bytealg.IndexString"], unfollowed := true, recurses := true, named := ["internal/bytealg.MaxLen", "unicode/utf8.first", "unicode/utf8.acceptRanges"], apart := false, laid := [("unicode/utf8.acceptRanges", laid_unicode_utf8_acceptRanges), ("unicode/utf8.first", laid_unicode_utf8_first)], narrowed := true }
def ParaBlocksUptoSaid : Prop := paraBlocksUptoRow.holds Tryd.pinned (OpenSpec.upto paraBlocksSpec)

/-- 'calamuslaw18.ParaTimes', WHERE WHAT IT READS IS OF BULK AT MOST 1048576: true; the input reads as it did. -/
def paraTimesUptoRow : OpenClaim := { program := "ytbilknmcikmcoaadoor", sum := "ee5c9d5de2d7b691c79a759c188b77d55793ab9103582c4903e30970bc57a101", func := "calamus/calamuslaw18.ParaTimes", spec := "paraTimes", inPlace := ["internal/bytealg.CountString", "internal/bytealg.IndexByteString", "internal/bytealg.IndexString"], unfollowed := true, recurses := true, named := ["internal/bytealg.MaxLen", "unicode/utf8.first", "unicode/utf8.acceptRanges"], apart := false, laid := [("unicode/utf8.acceptRanges", laid_unicode_utf8_acceptRanges), ("unicode/utf8.first", laid_unicode_utf8_first)], narrowed := true }
def ParaTimesUptoSaid : Prop := paraTimesUptoRow.holds Tryd.pinned (OpenSpec.upto paraTimesSpec)

/-- 'calamuslaw18.ParaAll', WHERE WHAT IT READS IS OF BULK AT MOST 1048576: true; the input reads as it did. -/
def paraAllUptoRow : OpenClaim := { program := "ytbilknmcikmcoaadoor", sum := "ee5c9d5de2d7b691c79a759c188b77d55793ab9103582c4903e30970bc57a101", func := "calamus/calamuslaw18.ParaAll", spec := "paraAll", inPlace := ["internal/bytealg.CountString", "internal/bytealg.IndexByteString", "internal/bytealg.IndexString"], unfollowed := true, recurses := true, named := ["internal/bytealg.MaxLen", "unicode/utf8.first", "unicode/utf8.acceptRanges"], apart := false, laid := [("unicode/utf8.acceptRanges", laid_unicode_utf8_acceptRanges), ("unicode/utf8.first", laid_unicode_utf8_first)], narrowed := true }
def ParaAllUptoSaid : Prop := paraAllUptoRow.holds Tryd.pinned (OpenSpec.upto paraAllSpec)

/-- 'calamuslaw14.MoveGoes', WHERE WHAT IT READS IS OF BULK AT MOST 1048576: true; the input reads as it did. -/
def moveGoesUptoRow : OpenClaim := { program := "ytbilknmcikmcoaadoor", sum := "ee5c9d5de2d7b691c79a759c188b77d55793ab9103582c4903e30970bc57a101", func := "calamus/calamuslaw14.MoveGoes", spec := "moveGoes", inPlace := ["internal/bytealg.IndexByteString", "internal/bytealg.IndexString", "internal/bytealg.CountString"], unfollowed := true, recurses := true, named := ["internal/bytealg.MaxLen", "unicode/utf8.first", "unicode/utf8.acceptRanges"], apart := false, laid := [("unicode/utf8.acceptRanges", laid_unicode_utf8_acceptRanges), ("unicode/utf8.first", laid_unicode_utf8_first)], narrowed := true }
def MoveGoesUptoSaid : Prop := moveGoesUptoRow.holds Tryd.pinned (OpenSpec.upto moveGoesSpec)

/-- 'calamuslaw14.MoveAll', WHERE WHAT IT READS IS OF BULK AT MOST 1048576: true; the input reads as it did. -/
def moveAllUptoRow : OpenClaim := { program := "ytbilknmcikmcoaadoor", sum := "ee5c9d5de2d7b691c79a759c188b77d55793ab9103582c4903e30970bc57a101", func := "calamus/calamuslaw14.MoveAll", spec := "moveAll", inPlace := ["internal/bytealg.IndexByteString", "internal/bytealg.IndexString", "internal/bytealg.CountString"], unfollowed := true, recurses := true, named := ["internal/bytealg.MaxLen", "unicode/utf8.first", "unicode/utf8.acceptRanges"], apart := false, laid := [("unicode/utf8.acceptRanges", laid_unicode_utf8_acceptRanges), ("unicode/utf8.first", laid_unicode_utf8_first)], narrowed := true }
def MoveAllUptoSaid : Prop := moveAllUptoRow.holds Tryd.pinned (OpenSpec.upto moveAllSpec)

/-- 'calamuslaw14.MovePlaces', WHERE WHAT IT READS IS OF BULK AT MOST 1048576: true; the input reads as it did. -/
def movePlacesUptoRow : OpenClaim := { program := "ytbilknmcikmcoaadoor", sum := "ee5c9d5de2d7b691c79a759c188b77d55793ab9103582c4903e30970bc57a101", func := "calamus/calamuslaw14.MovePlaces", spec := "movePlaces", inPlace := ["internal/bytealg.IndexByteString", "internal/bytealg.IndexString", "internal/bytealg.CountString"], unfollowed := true, recurses := true, named := ["internal/bytealg.MaxLen", "unicode/utf8.first", "unicode/utf8.acceptRanges"], apart := false, laid := [("unicode/utf8.acceptRanges", laid_unicode_utf8_acceptRanges), ("unicode/utf8.first", laid_unicode_utf8_first)], narrowed := true }
def MovePlacesUptoSaid : Prop := movePlacesUptoRow.holds Tryd.pinned (OpenSpec.upto movePlacesSpec)

/-- 'calamuslaw14.MoveBack', WHERE WHAT IT READS IS OF BULK AT MOST 1048576: true; the input reads as it did. -/
def moveBackUptoRow : OpenClaim := { program := "ytbilknmcikmcoaadoor", sum := "ee5c9d5de2d7b691c79a759c188b77d55793ab9103582c4903e30970bc57a101", func := "calamus/calamuslaw14.MoveBack", spec := "moveBack", inPlace := ["internal/bytealg.IndexByteString", "internal/bytealg.IndexString", "internal/bytealg.CountString"], unfollowed := true, recurses := true, named := ["internal/bytealg.MaxLen", "unicode/utf8.first", "unicode/utf8.acceptRanges"], apart := false, laid := [("unicode/utf8.acceptRanges", laid_unicode_utf8_acceptRanges), ("unicode/utf8.first", laid_unicode_utf8_first)], narrowed := true }
def MoveBackUptoSaid : Prop := moveBackUptoRow.holds Tryd.pinned (OpenSpec.upto moveBackSpec)

end Rows
end Go.Proofs.YtbilknmcikmcoaaDoor
