/-
  No cell of these rows narrows 'for every input' (looked for: loops, veiled, ifaces, maps, wideKeys, modest, calm, conditions, laid).
  DERIVED. THE GIVEN ROWS OF THIS SEAT. 6 by the template 'for every input the law returns true; each argument reads behind the call as it read before'; 0 by the template 'total and deterministic' (their statements: YtgapekdcoedmgaaTotals.lean).
  GIVEN WITH THE SEED: the statements are not yours to turn. If you find one false, say at which input.
  Laid BY PROGRAM, IN A SANDBOX (cutbox-rows.mjs): the forced cells as the released guide's own fill.sh prints them over the translation 6cb0e667d773f8cb… (all of the seat's roots in one cut). By AI agents, Wed Nov 11 2026. No macro, syntax, notation, axiom, sorry.
-/
import Derived.Test.YtgapekdcoedmgaaChecked
import GoSem.Claim
import GoSem.ClaimJoined
import GoSem.ClaimMapViews
import Derived.JoinedTies
import Derived.KernelRfl
namespace Go.Proofs.Ytgapekdcoedmgaa
/- THE CELL 'sum', in the pinned program and in every row, IS THE sha256 OF THE DUMP (.gsa) THAT YtgapekdcoedmgaaProg.lean LOADS. Nothing in Lean hashes anything: it is a label: what it is worth is what the hold of that sum in a sandbox is worth. -/
noncomputable def Try.pinned : Pinned := { name := "ytgapekdcoedmgaa", sum := "6cb0e667d773f8cb05828147b67c5cf5c303d046e15bad81231f50690bfc522b", checked := Try.checked }
namespace Rows
def none {H : Type} : Left H := { results := [], args := [] }

/-- 'calamuslaw05.ClassRunes': WHATEVER THE INPUT: true; the input reads as it did. -/
def classRunesSpec : ChangeSpec := { name := "classRunes", fn := fun _ => fun
  | [d1, d2] => { results := [.lit (.bool true)], args := [d1, d2] }
  | _ => none }
def classRunesRow : OpenClaim := { program := "ytgapekdcoedmgaa", sum := "6cb0e667d773f8cb05828147b67c5cf5c303d046e15bad81231f50690bfc522b", func := "calamus/calamuslaw05.ClassRunes", spec := "classRunes", inPlace := ["internal/bytealg.CountString", "internal/bytealg.IndexByteString", "internal/bytealg.IndexString"], unfollowed := true, recurses := true, named := ["internal/bytealg.MaxLen"], apart := false }
def ClassRunesSaid : Prop := classRunesRow.holds Try.pinned (OpenSpec.ofChange classRunesSpec)

/-- ITS FALSE NEIGHBOUR: 'it returns false'. Refute it at one input. -/
def classRunesWrong : ChangeSpec := { name := "classRunes", fn := fun _ => fun
  | [d1, d2] => { results := [.lit (.bool false)], args := [d1, d2] }
  | _ => none }
def ClassRunesWrongFalsely : Prop := classRunesRow.holds Try.pinned (OpenSpec.ofChange classRunesWrong)

/-- 'calamuslaw05.ClassWhole': WHATEVER THE INPUT: true; the input reads as it did. -/
def classWholeSpec : ChangeSpec := { name := "classWhole", fn := fun _ => fun
  | [d1, d2, d3] => { results := [.lit (.bool true)], args := [d1, d2, d3] }
  | _ => none }
def classWholeRow : OpenClaim := { program := "ytgapekdcoedmgaa", sum := "6cb0e667d773f8cb05828147b67c5cf5c303d046e15bad81231f50690bfc522b", func := "calamus/calamuslaw05.ClassWhole", spec := "classWhole", inPlace := ["internal/bytealg.CountString", "internal/bytealg.IndexByteString", "internal/bytealg.IndexString"], unfollowed := true, recurses := true, named := ["internal/bytealg.MaxLen"], apart := false }
def ClassWholeSaid : Prop := classWholeRow.holds Try.pinned (OpenSpec.ofChange classWholeSpec)

/-- ITS FALSE NEIGHBOUR: 'it returns false'. Refute it at one input. -/
def classWholeWrong : ChangeSpec := { name := "classWhole", fn := fun _ => fun
  | [d1, d2, d3] => { results := [.lit (.bool false)], args := [d1, d2, d3] }
  | _ => none }
def ClassWholeWrongFalsely : Prop := classWholeRow.holds Try.pinned (OpenSpec.ofChange classWholeWrong)

/-- 'calamuslaw05.ClassFlips': WHATEVER THE INPUT: true; the input reads as it did. -/
def classFlipsSpec : ChangeSpec := { name := "classFlips", fn := fun _ => fun
  | [d] => { results := [.lit (.bool true)], args := [d] }
  | _ => none }
def classFlipsRow : OpenClaim := { program := "ytgapekdcoedmgaa", sum := "6cb0e667d773f8cb05828147b67c5cf5c303d046e15bad81231f50690bfc522b", func := "calamus/calamuslaw05.ClassFlips", spec := "classFlips", inPlace := ["internal/bytealg.CountString", "internal/bytealg.IndexByteString", "internal/bytealg.IndexString"], unfollowed := true, recurses := true, named := ["internal/bytealg.MaxLen"], apart := false }
def ClassFlipsSaid : Prop := classFlipsRow.holds Try.pinned (OpenSpec.ofChange classFlipsSpec)

/-- ITS FALSE NEIGHBOUR: 'it returns false'. Refute it at one input. -/
def classFlipsWrong : ChangeSpec := { name := "classFlips", fn := fun _ => fun
  | [d] => { results := [.lit (.bool false)], args := [d] }
  | _ => none }
def ClassFlipsWrongFalsely : Prop := classFlipsRow.holds Try.pinned (OpenSpec.ofChange classFlipsWrong)

/-- 'calamuslaw04.LineParts': WHATEVER THE INPUT: true; the input reads as it did. -/
def linePartsSpec : ChangeSpec := { name := "lineParts", fn := fun _ => fun
  | [d1, d2, d3] => { results := [.lit (.bool true)], args := [d1, d2, d3] }
  | _ => none }
def linePartsRow : OpenClaim := { program := "ytgapekdcoedmgaa", sum := "6cb0e667d773f8cb05828147b67c5cf5c303d046e15bad81231f50690bfc522b", func := "calamus/calamuslaw04.LineParts", spec := "lineParts", inPlace := ["internal/bytealg.CountString", "internal/bytealg.IndexByteString", "internal/bytealg.IndexString"], unfollowed := true, recurses := true, named := ["internal/bytealg.MaxLen"], apart := false }
def LinePartsSaid : Prop := linePartsRow.holds Try.pinned (OpenSpec.ofChange linePartsSpec)

/-- ITS FALSE NEIGHBOUR: 'it returns false'. Refute it at one input. -/
def linePartsWrong : ChangeSpec := { name := "lineParts", fn := fun _ => fun
  | [d1, d2, d3] => { results := [.lit (.bool false)], args := [d1, d2, d3] }
  | _ => none }
def LinePartsWrongFalsely : Prop := linePartsRow.holds Try.pinned (OpenSpec.ofChange linePartsWrong)

/-- 'calamuslaw04.LineWhole': WHATEVER THE INPUT: true; the input reads as it did. -/
def lineWholeSpec : ChangeSpec := { name := "lineWhole", fn := fun _ => fun
  | [d1, d2] => { results := [.lit (.bool true)], args := [d1, d2] }
  | _ => none }
def lineWholeRow : OpenClaim := { program := "ytgapekdcoedmgaa", sum := "6cb0e667d773f8cb05828147b67c5cf5c303d046e15bad81231f50690bfc522b", func := "calamus/calamuslaw04.LineWhole", spec := "lineWhole", inPlace := ["internal/bytealg.CountString", "internal/bytealg.IndexByteString", "internal/bytealg.IndexString"], unfollowed := true, recurses := true, named := ["internal/bytealg.MaxLen"], apart := false }
def LineWholeSaid : Prop := lineWholeRow.holds Try.pinned (OpenSpec.ofChange lineWholeSpec)

/-- ITS FALSE NEIGHBOUR: 'it returns false'. Refute it at one input. -/
def lineWholeWrong : ChangeSpec := { name := "lineWhole", fn := fun _ => fun
  | [d1, d2] => { results := [.lit (.bool false)], args := [d1, d2] }
  | _ => none }
def LineWholeWrongFalsely : Prop := lineWholeRow.holds Try.pinned (OpenSpec.ofChange lineWholeWrong)

/-- 'calamuslaw04.LineColumns': WHATEVER THE INPUT: true; the input reads as it did. -/
def lineColumnsSpec : ChangeSpec := { name := "lineColumns", fn := fun _ => fun
  | [d1, d2, d3, d4] => { results := [.lit (.bool true)], args := [d1, d2, d3, d4] }
  | _ => none }
def lineColumnsRow : OpenClaim := { program := "ytgapekdcoedmgaa", sum := "6cb0e667d773f8cb05828147b67c5cf5c303d046e15bad81231f50690bfc522b", func := "calamus/calamuslaw04.LineColumns", spec := "lineColumns", inPlace := ["internal/bytealg.CountString", "internal/bytealg.IndexByteString", "internal/bytealg.IndexString"], unfollowed := true, recurses := true, named := ["internal/bytealg.MaxLen"], apart := false }
def LineColumnsSaid : Prop := lineColumnsRow.holds Try.pinned (OpenSpec.ofChange lineColumnsSpec)

/-- ITS FALSE NEIGHBOUR: 'it returns false'. Refute it at one input. -/
def lineColumnsWrong : ChangeSpec := { name := "lineColumns", fn := fun _ => fun
  | [d1, d2, d3, d4] => { results := [.lit (.bool false)], args := [d1, d2, d3, d4] }
  | _ => none }
def LineColumnsWrongFalsely : Prop := lineColumnsRow.holds Try.pinned (OpenSpec.ofChange lineColumnsWrong)

/- THE SECOND FORM. 'bulk': how many values and letters a reading holds, each counted each time it is reached (what is shared counts as often as it is met; a slice's spare places count too). A statement '..UptoSaid' is the law's where the arguments, and the package variables that the reading takes, are together of bulk at most 1048576: NARROWER than '..Said'. Prove '..Said' where nothing that the law and all that it calls make is longer than what came in: it says more and counts as full. Else prove '..UptoSaid'. A law counts once. -/
mutual
def uptoBulk {H : Type} : DataW H → Nat
  | .lit (.string bytes) => bytes.length + 1
  | .lit _ => 1
  | .nil => 1
  | .ptr d => uptoBulk d + 1
  | .slice elems spare => uptoBulkAll elems + uptoBulkAll spare + 1
  | .agg parts => uptoBulkAll parts + 1
  | .iface _ d => uptoBulk d + 1
  | .map entries => uptoBulkEntries entries + 1
  | .held _ => 1
def uptoBulkAll {H : Type} : List (DataW H) → Nat
  | [] => 0
  | d :: r => uptoBulk d + uptoBulkAll r
def uptoBulkEntries {H : Type} : List (Lit × DataW H) → Nat
  | [] => 0
  | x :: r => uptoBulkEntry x + uptoBulkEntries r
def uptoBulkEntry {H : Type} : Lit × DataW H → Nat
  | (.string bytes, d) => bytes.length + uptoBulk d + 1
  | (_, d) => uptoBulk d + 1
 end
def uptoSmall : (H : Type) → List (DataW H) → Bool := fun _ ds => decide (uptoBulkAll ds ≤ 1048576)
def OpenSpec.upto (s : _root_.Go.ChangeSpec) : _root_.Go.OpenSpec := { _root_.Go.OpenSpec.ofChange s with cond := some uptoSmall }

/-- 'calamuslaw05.ClassRunes', WHERE WHAT IT READS IS OF BULK AT MOST 1048576: true; the input reads as it did. -/
def classRunesUptoRow : OpenClaim := { program := "ytgapekdcoedmgaa", sum := "6cb0e667d773f8cb05828147b67c5cf5c303d046e15bad81231f50690bfc522b", func := "calamus/calamuslaw05.ClassRunes", spec := "classRunes", inPlace := ["internal/bytealg.CountString", "internal/bytealg.IndexByteString", "internal/bytealg.IndexString"], unfollowed := true, recurses := true, named := ["internal/bytealg.MaxLen"], apart := false, narrowed := true }
def ClassRunesUptoSaid : Prop := classRunesUptoRow.holds Try.pinned (OpenSpec.upto classRunesSpec)

/-- 'calamuslaw05.ClassWhole', WHERE WHAT IT READS IS OF BULK AT MOST 1048576: true; the input reads as it did. -/
def classWholeUptoRow : OpenClaim := { program := "ytgapekdcoedmgaa", sum := "6cb0e667d773f8cb05828147b67c5cf5c303d046e15bad81231f50690bfc522b", func := "calamus/calamuslaw05.ClassWhole", spec := "classWhole", inPlace := ["internal/bytealg.CountString", "internal/bytealg.IndexByteString", "internal/bytealg.IndexString"], unfollowed := true, recurses := true, named := ["internal/bytealg.MaxLen"], apart := false, narrowed := true }
def ClassWholeUptoSaid : Prop := classWholeUptoRow.holds Try.pinned (OpenSpec.upto classWholeSpec)

/-- 'calamuslaw05.ClassFlips', WHERE WHAT IT READS IS OF BULK AT MOST 1048576: true; the input reads as it did. -/
def classFlipsUptoRow : OpenClaim := { program := "ytgapekdcoedmgaa", sum := "6cb0e667d773f8cb05828147b67c5cf5c303d046e15bad81231f50690bfc522b", func := "calamus/calamuslaw05.ClassFlips", spec := "classFlips", inPlace := ["internal/bytealg.CountString", "internal/bytealg.IndexByteString", "internal/bytealg.IndexString"], unfollowed := true, recurses := true, named := ["internal/bytealg.MaxLen"], apart := false, narrowed := true }
def ClassFlipsUptoSaid : Prop := classFlipsUptoRow.holds Try.pinned (OpenSpec.upto classFlipsSpec)

/-- 'calamuslaw04.LineParts', WHERE WHAT IT READS IS OF BULK AT MOST 1048576: true; the input reads as it did. -/
def linePartsUptoRow : OpenClaim := { program := "ytgapekdcoedmgaa", sum := "6cb0e667d773f8cb05828147b67c5cf5c303d046e15bad81231f50690bfc522b", func := "calamus/calamuslaw04.LineParts", spec := "lineParts", inPlace := ["internal/bytealg.CountString", "internal/bytealg.IndexByteString", "internal/bytealg.IndexString"], unfollowed := true, recurses := true, named := ["internal/bytealg.MaxLen"], apart := false, narrowed := true }
def LinePartsUptoSaid : Prop := linePartsUptoRow.holds Try.pinned (OpenSpec.upto linePartsSpec)

/-- 'calamuslaw04.LineWhole', WHERE WHAT IT READS IS OF BULK AT MOST 1048576: true; the input reads as it did. -/
def lineWholeUptoRow : OpenClaim := { program := "ytgapekdcoedmgaa", sum := "6cb0e667d773f8cb05828147b67c5cf5c303d046e15bad81231f50690bfc522b", func := "calamus/calamuslaw04.LineWhole", spec := "lineWhole", inPlace := ["internal/bytealg.CountString", "internal/bytealg.IndexByteString", "internal/bytealg.IndexString"], unfollowed := true, recurses := true, named := ["internal/bytealg.MaxLen"], apart := false, narrowed := true }
def LineWholeUptoSaid : Prop := lineWholeUptoRow.holds Try.pinned (OpenSpec.upto lineWholeSpec)

/-- 'calamuslaw04.LineColumns', WHERE WHAT IT READS IS OF BULK AT MOST 1048576: true; the input reads as it did. -/
def lineColumnsUptoRow : OpenClaim := { program := "ytgapekdcoedmgaa", sum := "6cb0e667d773f8cb05828147b67c5cf5c303d046e15bad81231f50690bfc522b", func := "calamus/calamuslaw04.LineColumns", spec := "lineColumns", inPlace := ["internal/bytealg.CountString", "internal/bytealg.IndexByteString", "internal/bytealg.IndexString"], unfollowed := true, recurses := true, named := ["internal/bytealg.MaxLen"], apart := false, narrowed := true }
def LineColumnsUptoSaid : Prop := lineColumnsUptoRow.holds Try.pinned (OpenSpec.upto lineColumnsSpec)

end Rows
end Go.Proofs.Ytgapekdcoedmgaa
