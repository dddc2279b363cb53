/-
  No cell of these rows narrows 'for every input' (looked for: loops, veiled, ifaces, maps, wideKeys, modest, calm, conditions, laid).
  DERIVED. THE GIVEN ROWS OF THIS SEAT. 11 by the template 'for every input the law returns true; each argument reads behind the call as it read before'; 0 by the template 'total and deterministic' (their statements: YthjlhbblflmajaaTotals.lean).
  GIVEN WITH THE SEED: the statements are not yours to turn. If you find one false, say at which input.
  Laid BY PROGRAM, IN A SANDBOX (cutbox-rows.mjs): the forced cells as the released guide's own fill.sh prints them over the translation 66f404b60c9d0155… (all of the seat's roots in one cut). By AI agents, Wed Nov 11 2026. No macro, syntax, notation, axiom, sorry.
-/
import Derived.Test.YthjlhbblflmajaaChecked
import GoSem.Claim
import GoSem.ClaimJoined
import GoSem.ClaimMapViews
import Derived.JoinedTies
import Derived.KernelRfl
namespace Go.Proofs.Ythjlhbblflmajaa
/- THE CELL 'sum', in the pinned program and in every row, IS THE sha256 OF THE DUMP (.gsa) THAT YthjlhbblflmajaaProg.lean LOADS. Nothing in Lean hashes anything: it is a label: what it is worth is what the hold of that sum in a sandbox is worth. -/
noncomputable def Try.pinned : Pinned := { name := "ythjlhbblflmajaa", sum := "66f404b60c9d01555fb138cd67c18007a6922473832d16db45ef725e9ae38c0e", checked := Try.checked }
namespace Rows
def none {H : Type} : Left H := { results := [], args := [] }

/-- 'calamuslaw10.MarkMoves': WHATEVER THE INPUT: true; the input reads as it did. -/
def markMovesSpec : ChangeSpec := { name := "markMoves", fn := fun _ => fun
  | [d1, d2] => { results := [.lit (.bool true)], args := [d1, d2] }
  | _ => none }
def markMovesRow : OpenClaim := { program := "ythjlhbblflmajaa", sum := "66f404b60c9d01555fb138cd67c18007a6922473832d16db45ef725e9ae38c0e", func := "calamus/calamuslaw10.MarkMoves", spec := "markMoves", inPlace := ["slices.overlaps[calamus/api.Mark]"], unfollowed := true, recurses := true, apart := false }
def MarkMovesSaid : Prop := markMovesRow.holds Try.pinned (OpenSpec.ofChange markMovesSpec)

/-- ITS FALSE NEIGHBOUR: 'it returns false'. Refute it at one input. -/
def markMovesWrong : ChangeSpec := { name := "markMoves", fn := fun _ => fun
  | [d1, d2] => { results := [.lit (.bool false)], args := [d1, d2] }
  | _ => none }
def MarkMovesWrongFalsely : Prop := markMovesRow.holds Try.pinned (OpenSpec.ofChange markMovesWrong)

/-- 'calamuslaw10.MarkStays': WHATEVER THE INPUT: true; the input reads as it did. -/
def markStaysSpec : ChangeSpec := { name := "markStays", fn := fun _ => fun
  | [d1, d2] => { results := [.lit (.bool true)], args := [d1, d2] }
  | _ => none }
def markStaysRow : OpenClaim := { program := "ythjlhbblflmajaa", sum := "66f404b60c9d01555fb138cd67c18007a6922473832d16db45ef725e9ae38c0e", func := "calamus/calamuslaw10.MarkStays", spec := "markStays", inPlace := ["slices.overlaps[calamus/api.Mark]"], unfollowed := true, recurses := true, apart := false }
def MarkStaysSaid : Prop := markStaysRow.holds Try.pinned (OpenSpec.ofChange markStaysSpec)

/-- ITS FALSE NEIGHBOUR: 'it returns false'. Refute it at one input. -/
def markStaysWrong : ChangeSpec := { name := "markStays", fn := fun _ => fun
  | [d1, d2] => { results := [.lit (.bool false)], args := [d1, d2] }
  | _ => none }
def MarkStaysWrongFalsely : Prop := markStaysRow.holds Try.pinned (OpenSpec.ofChange markStaysWrong)

/-- 'calamuslaw10.MarkSets': WHATEVER THE INPUT: true; the input reads as it did. -/
def markSetsSpec : ChangeSpec := { name := "markSets", fn := fun _ => fun
  | [d1, d2, d3] => { results := [.lit (.bool true)], args := [d1, d2, d3] }
  | _ => none }
def markSetsRow : OpenClaim := { program := "ythjlhbblflmajaa", sum := "66f404b60c9d01555fb138cd67c18007a6922473832d16db45ef725e9ae38c0e", func := "calamus/calamuslaw10.MarkSets", spec := "markSets", inPlace := ["slices.overlaps[calamus/api.Mark]"], unfollowed := true, recurses := true, apart := false }
def MarkSetsSaid : Prop := markSetsRow.holds Try.pinned (OpenSpec.ofChange markSetsSpec)

/-- ITS FALSE NEIGHBOUR: 'it returns false'. Refute it at one input. -/
def markSetsWrong : ChangeSpec := { name := "markSets", fn := fun _ => fun
  | [d1, d2, d3] => { results := [.lit (.bool false)], args := [d1, d2, d3] }
  | _ => none }
def MarkSetsWrongFalsely : Prop := markSetsRow.holds Try.pinned (OpenSpec.ofChange markSetsWrong)

/-- 'calamuslaw10.MarkLeads': WHATEVER THE INPUT: true; the input reads as it did. -/
def markLeadsSpec : ChangeSpec := { name := "markLeads", fn := fun _ => fun
  | [d1, d2, d3, d4] => { results := [.lit (.bool true)], args := [d1, d2, d3, d4] }
  | _ => none }
def markLeadsRow : OpenClaim := { program := "ythjlhbblflmajaa", sum := "66f404b60c9d01555fb138cd67c18007a6922473832d16db45ef725e9ae38c0e", func := "calamus/calamuslaw10.MarkLeads", spec := "markLeads", inPlace := ["slices.overlaps[calamus/api.Mark]"], unfollowed := true, recurses := true, apart := false }
def MarkLeadsSaid : Prop := markLeadsRow.holds Try.pinned (OpenSpec.ofChange markLeadsSpec)

/-- ITS FALSE NEIGHBOUR: 'it returns false'. Refute it at one input. -/
def markLeadsWrong : ChangeSpec := { name := "markLeads", fn := fun _ => fun
  | [d1, d2, d3, d4] => { results := [.lit (.bool false)], args := [d1, d2, d3, d4] }
  | _ => none }
def MarkLeadsWrongFalsely : Prop := markLeadsRow.holds Try.pinned (OpenSpec.ofChange markLeadsWrong)

/-- 'calamuslaw20.LookAll': WHATEVER THE INPUT: true; the input reads as it did. -/
def lookAllSpec : ChangeSpec := { name := "lookAll", fn := fun _ => fun
  | [d1, d2] => { results := [.lit (.bool true)], args := [d1, d2] }
  | _ => none }
def lookAllRow : OpenClaim := { program := "ythjlhbblflmajaa", sum := "66f404b60c9d01555fb138cd67c18007a6922473832d16db45ef725e9ae38c0e", func := "calamus/calamuslaw20.LookAll", spec := "lookAll", inPlace := ["internal/bytealg.IndexByteString", "internal/bytealg.IndexString"], unfollowed := true, recurses := true, named := ["internal/bytealg.MaxLen"], apart := false }
def LookAllSaid : Prop := lookAllRow.holds Try.pinned (OpenSpec.ofChange lookAllSpec)

/-- ITS FALSE NEIGHBOUR: 'it returns false'. Refute it at one input. -/
def lookAllWrong : ChangeSpec := { name := "lookAll", fn := fun _ => fun
  | [d1, d2] => { results := [.lit (.bool false)], args := [d1, d2] }
  | _ => none }
def LookAllWrongFalsely : Prop := lookAllRow.holds Try.pinned (OpenSpec.ofChange lookAllWrong)

/-- 'calamuslaw20.LookNext': WHATEVER THE INPUT: true; the input reads as it did. -/
def lookNextSpec : ChangeSpec := { name := "lookNext", fn := fun _ => fun
  | [d1, d2, d3, d4, d5] => { results := [.lit (.bool true)], args := [d1, d2, d3, d4, d5] }
  | _ => none }
def lookNextRow : OpenClaim := { program := "ythjlhbblflmajaa", sum := "66f404b60c9d01555fb138cd67c18007a6922473832d16db45ef725e9ae38c0e", func := "calamus/calamuslaw20.LookNext", spec := "lookNext", inPlace := ["internal/bytealg.IndexByteString", "internal/bytealg.IndexString"], unfollowed := true, recurses := true, named := ["internal/bytealg.MaxLen"], apart := false }
def LookNextSaid : Prop := lookNextRow.holds Try.pinned (OpenSpec.ofChange lookNextSpec)

/-- ITS FALSE NEIGHBOUR: 'it returns false'. Refute it at one input. -/
def lookNextWrong : ChangeSpec := { name := "lookNext", fn := fun _ => fun
  | [d1, d2, d3, d4, d5] => { results := [.lit (.bool false)], args := [d1, d2, d3, d4, d5] }
  | _ => none }
def LookNextWrongFalsely : Prop := lookNextRow.holds Try.pinned (OpenSpec.ofChange lookNextWrong)

/-- 'calamuslaw20.LookRound': WHATEVER THE INPUT: true; the input reads as it did. -/
def lookRoundSpec : ChangeSpec := { name := "lookRound", fn := fun _ => fun
  | [d1, d2, d3, d4] => { results := [.lit (.bool true)], args := [d1, d2, d3, d4] }
  | _ => none }
def lookRoundRow : OpenClaim := { program := "ythjlhbblflmajaa", sum := "66f404b60c9d01555fb138cd67c18007a6922473832d16db45ef725e9ae38c0e", func := "calamus/calamuslaw20.LookRound", spec := "lookRound", inPlace := ["internal/bytealg.IndexByteString", "internal/bytealg.IndexString"], unfollowed := true, recurses := true, named := ["internal/bytealg.MaxLen"], apart := false }
def LookRoundSaid : Prop := lookRoundRow.holds Try.pinned (OpenSpec.ofChange lookRoundSpec)

/-- ITS FALSE NEIGHBOUR: 'it returns false'. Refute it at one input. -/
def lookRoundWrong : ChangeSpec := { name := "lookRound", fn := fun _ => fun
  | [d1, d2, d3, d4] => { results := [.lit (.bool false)], args := [d1, d2, d3, d4] }
  | _ => none }
def LookRoundWrongFalsely : Prop := lookRoundRow.holds Try.pinned (OpenSpec.ofChange lookRoundWrong)

/-- 'calamuslaw15.HopWords': WHATEVER THE INPUT: true; the input reads as it did. -/
def hopWordsSpec : ChangeSpec := { name := "hopWords", fn := fun _ => fun
  | [d1, d2] => { results := [.lit (.bool true)], args := [d1, d2] }
  | _ => none }
def hopWordsRow : OpenClaim := { program := "ythjlhbblflmajaa", sum := "66f404b60c9d01555fb138cd67c18007a6922473832d16db45ef725e9ae38c0e", func := "calamus/calamuslaw15.HopWords", spec := "hopWords", unfollowed := true, recurses := true, apart := false }
def HopWordsSaid : Prop := hopWordsRow.holds Try.pinned (OpenSpec.ofChange hopWordsSpec)

/-- ITS FALSE NEIGHBOUR: 'it returns false'. Refute it at one input. -/
def hopWordsWrong : ChangeSpec := { name := "hopWords", fn := fun _ => fun
  | [d1, d2] => { results := [.lit (.bool false)], args := [d1, d2] }
  | _ => none }
def HopWordsWrongFalsely : Prop := hopWordsRow.holds Try.pinned (OpenSpec.ofChange hopWordsWrong)

/-- 'calamuslaw15.HopGoes': WHATEVER THE INPUT: true; the input reads as it did. -/
def hopGoesSpec : ChangeSpec := { name := "hopGoes", fn := fun _ => fun
  | [d1, d2, d3, d4] => { results := [.lit (.bool true)], args := [d1, d2, d3, d4] }
  | _ => none }
def hopGoesRow : OpenClaim := { program := "ythjlhbblflmajaa", sum := "66f404b60c9d01555fb138cd67c18007a6922473832d16db45ef725e9ae38c0e", func := "calamus/calamuslaw15.HopGoes", spec := "hopGoes", unfollowed := true, recurses := true, apart := false }
def HopGoesSaid : Prop := hopGoesRow.holds Try.pinned (OpenSpec.ofChange hopGoesSpec)

/-- ITS FALSE NEIGHBOUR: 'it returns false'. Refute it at one input. -/
def hopGoesWrong : ChangeSpec := { name := "hopGoes", fn := fun _ => fun
  | [d1, d2, d3, d4] => { results := [.lit (.bool false)], args := [d1, d2, d3, d4] }
  | _ => none }
def HopGoesWrongFalsely : Prop := hopGoesRow.holds Try.pinned (OpenSpec.ofChange hopGoesWrong)

/-- 'calamuslaw15.HopTimes': WHATEVER THE INPUT: true; the input reads as it did. -/
def hopTimesSpec : ChangeSpec := { name := "hopTimes", fn := fun _ => fun
  | [d1, d2, d3, d4] => { results := [.lit (.bool true)], args := [d1, d2, d3, d4] }
  | _ => none }
def hopTimesRow : OpenClaim := { program := "ythjlhbblflmajaa", sum := "66f404b60c9d01555fb138cd67c18007a6922473832d16db45ef725e9ae38c0e", func := "calamus/calamuslaw15.HopTimes", spec := "hopTimes", unfollowed := true, recurses := true, apart := false }
def HopTimesSaid : Prop := hopTimesRow.holds Try.pinned (OpenSpec.ofChange hopTimesSpec)

/-- ITS FALSE NEIGHBOUR: 'it returns false'. Refute it at one input. -/
def hopTimesWrong : ChangeSpec := { name := "hopTimes", fn := fun _ => fun
  | [d1, d2, d3, d4] => { results := [.lit (.bool false)], args := [d1, d2, d3, d4] }
  | _ => none }
def HopTimesWrongFalsely : Prop := hopTimesRow.holds Try.pinned (OpenSpec.ofChange hopTimesWrong)

/-- 'calamuslaw15.HopAlternate': WHATEVER THE INPUT: true; the input reads as it did. -/
def hopAlternateSpec : ChangeSpec := { name := "hopAlternate", fn := fun _ => fun
  | [d1, d2] => { results := [.lit (.bool true)], args := [d1, d2] }
  | _ => none }
def hopAlternateRow : OpenClaim := { program := "ythjlhbblflmajaa", sum := "66f404b60c9d01555fb138cd67c18007a6922473832d16db45ef725e9ae38c0e", func := "calamus/calamuslaw15.HopAlternate", spec := "hopAlternate", unfollowed := true, recurses := true, apart := false }
def HopAlternateSaid : Prop := hopAlternateRow.holds Try.pinned (OpenSpec.ofChange hopAlternateSpec)

/-- ITS FALSE NEIGHBOUR: 'it returns false'. Refute it at one input. -/
def hopAlternateWrong : ChangeSpec := { name := "hopAlternate", fn := fun _ => fun
  | [d1, d2] => { results := [.lit (.bool false)], args := [d1, d2] }
  | _ => none }
def HopAlternateWrongFalsely : Prop := hopAlternateRow.holds Try.pinned (OpenSpec.ofChange hopAlternateWrong)

/- THE SECOND FORM. 'bulk': how many values and letters a reading holds, each counted each time it is reached (what is shared counts as often as it is met; a slice's spare places count too). A statement '..UptoSaid' is the law's where the arguments, and the package variables that the reading takes, are together of bulk at most 1048576: NARROWER than '..Said'. Prove '..Said' where nothing that the law and all that it calls make is longer than what came in: it says more and counts as full. Else prove '..UptoSaid'. A law counts once. -/
mutual
def uptoBulk {H : Type} : DataW H → Nat
  | .lit (.string bytes) => bytes.length + 1
  | .lit _ => 1
  | .nil => 1
  | .ptr d => uptoBulk d + 1
  | .slice elems spare => uptoBulkAll elems + uptoBulkAll spare + 1
  | .agg parts => uptoBulkAll parts + 1
  | .iface _ d => uptoBulk d + 1
  | .map entries => uptoBulkEntries entries + 1
  | .held _ => 1
def uptoBulkAll {H : Type} : List (DataW H) → Nat
  | [] => 0
  | d :: r => uptoBulk d + uptoBulkAll r
def uptoBulkEntries {H : Type} : List (Lit × DataW H) → Nat
  | [] => 0
  | x :: r => uptoBulkEntry x + uptoBulkEntries r
def uptoBulkEntry {H : Type} : Lit × DataW H → Nat
  | (.string bytes, d) => bytes.length + uptoBulk d + 1
  | (_, d) => uptoBulk d + 1
 end
def uptoSmall : (H : Type) → List (DataW H) → Bool := fun _ ds => decide (uptoBulkAll ds ≤ 1048576)
def OpenSpec.upto (s : _root_.Go.ChangeSpec) : _root_.Go.OpenSpec := { _root_.Go.OpenSpec.ofChange s with cond := some uptoSmall }

/-- 'calamuslaw10.MarkMoves', WHERE WHAT IT READS IS OF BULK AT MOST 1048576: true; the input reads as it did. -/
def markMovesUptoRow : OpenClaim := { program := "ythjlhbblflmajaa", sum := "66f404b60c9d01555fb138cd67c18007a6922473832d16db45ef725e9ae38c0e", func := "calamus/calamuslaw10.MarkMoves", spec := "markMoves", inPlace := ["slices.overlaps[calamus/api.Mark]"], unfollowed := true, recurses := true, apart := false, narrowed := true }
def MarkMovesUptoSaid : Prop := markMovesUptoRow.holds Try.pinned (OpenSpec.upto markMovesSpec)

/-- 'calamuslaw10.MarkStays', WHERE WHAT IT READS IS OF BULK AT MOST 1048576: true; the input reads as it did. -/
def markStaysUptoRow : OpenClaim := { program := "ythjlhbblflmajaa", sum := "66f404b60c9d01555fb138cd67c18007a6922473832d16db45ef725e9ae38c0e", func := "calamus/calamuslaw10.MarkStays", spec := "markStays", inPlace := ["slices.overlaps[calamus/api.Mark]"], unfollowed := true, recurses := true, apart := false, narrowed := true }
def MarkStaysUptoSaid : Prop := markStaysUptoRow.holds Try.pinned (OpenSpec.upto markStaysSpec)

/-- 'calamuslaw10.MarkSets', WHERE WHAT IT READS IS OF BULK AT MOST 1048576: true; the input reads as it did. -/
def markSetsUptoRow : OpenClaim := { program := "ythjlhbblflmajaa", sum := "66f404b60c9d01555fb138cd67c18007a6922473832d16db45ef725e9ae38c0e", func := "calamus/calamuslaw10.MarkSets", spec := "markSets", inPlace := ["slices.overlaps[calamus/api.Mark]"], unfollowed := true, recurses := true, apart := false, narrowed := true }
def MarkSetsUptoSaid : Prop := markSetsUptoRow.holds Try.pinned (OpenSpec.upto markSetsSpec)

/-- 'calamuslaw10.MarkLeads', WHERE WHAT IT READS IS OF BULK AT MOST 1048576: true; the input reads as it did. -/
def markLeadsUptoRow : OpenClaim := { program := "ythjlhbblflmajaa", sum := "66f404b60c9d01555fb138cd67c18007a6922473832d16db45ef725e9ae38c0e", func := "calamus/calamuslaw10.MarkLeads", spec := "markLeads", inPlace := ["slices.overlaps[calamus/api.Mark]"], unfollowed := true, recurses := true, apart := false, narrowed := true }
def MarkLeadsUptoSaid : Prop := markLeadsUptoRow.holds Try.pinned (OpenSpec.upto markLeadsSpec)

/-- 'calamuslaw20.LookAll', WHERE WHAT IT READS IS OF BULK AT MOST 1048576: true; the input reads as it did. -/
def lookAllUptoRow : OpenClaim := { program := "ythjlhbblflmajaa", sum := "66f404b60c9d01555fb138cd67c18007a6922473832d16db45ef725e9ae38c0e", func := "calamus/calamuslaw20.LookAll", spec := "lookAll", inPlace := ["internal/bytealg.IndexByteString", "internal/bytealg.IndexString"], unfollowed := true, recurses := true, named := ["internal/bytealg.MaxLen"], apart := false, narrowed := true }
def LookAllUptoSaid : Prop := lookAllUptoRow.holds Try.pinned (OpenSpec.upto lookAllSpec)

/-- 'calamuslaw20.LookNext', WHERE WHAT IT READS IS OF BULK AT MOST 1048576: true; the input reads as it did. -/
def lookNextUptoRow : OpenClaim := { program := "ythjlhbblflmajaa", sum := "66f404b60c9d01555fb138cd67c18007a6922473832d16db45ef725e9ae38c0e", func := "calamus/calamuslaw20.LookNext", spec := "lookNext", inPlace := ["internal/bytealg.IndexByteString", "internal/bytealg.IndexString"], unfollowed := true, recurses := true, named := ["internal/bytealg.MaxLen"], apart := false, narrowed := true }
def LookNextUptoSaid : Prop := lookNextUptoRow.holds Try.pinned (OpenSpec.upto lookNextSpec)

/-- 'calamuslaw20.LookRound', WHERE WHAT IT READS IS OF BULK AT MOST 1048576: true; the input reads as it did. -/
def lookRoundUptoRow : OpenClaim := { program := "ythjlhbblflmajaa", sum := "66f404b60c9d01555fb138cd67c18007a6922473832d16db45ef725e9ae38c0e", func := "calamus/calamuslaw20.LookRound", spec := "lookRound", inPlace := ["internal/bytealg.IndexByteString", "internal/bytealg.IndexString"], unfollowed := true, recurses := true, named := ["internal/bytealg.MaxLen"], apart := false, narrowed := true }
def LookRoundUptoSaid : Prop := lookRoundUptoRow.holds Try.pinned (OpenSpec.upto lookRoundSpec)

/-- 'calamuslaw15.HopWords', WHERE WHAT IT READS IS OF BULK AT MOST 1048576: true; the input reads as it did. -/
def hopWordsUptoRow : OpenClaim := { program := "ythjlhbblflmajaa", sum := "66f404b60c9d01555fb138cd67c18007a6922473832d16db45ef725e9ae38c0e", func := "calamus/calamuslaw15.HopWords", spec := "hopWords", unfollowed := true, recurses := true, apart := false, narrowed := true }
def HopWordsUptoSaid : Prop := hopWordsUptoRow.holds Try.pinned (OpenSpec.upto hopWordsSpec)

/-- 'calamuslaw15.HopGoes', WHERE WHAT IT READS IS OF BULK AT MOST 1048576: true; the input reads as it did. -/
def hopGoesUptoRow : OpenClaim := { program := "ythjlhbblflmajaa", sum := "66f404b60c9d01555fb138cd67c18007a6922473832d16db45ef725e9ae38c0e", func := "calamus/calamuslaw15.HopGoes", spec := "hopGoes", unfollowed := true, recurses := true, apart := false, narrowed := true }
def HopGoesUptoSaid : Prop := hopGoesUptoRow.holds Try.pinned (OpenSpec.upto hopGoesSpec)

/-- 'calamuslaw15.HopTimes', WHERE WHAT IT READS IS OF BULK AT MOST 1048576: true; the input reads as it did. -/
def hopTimesUptoRow : OpenClaim := { program := "ythjlhbblflmajaa", sum := "66f404b60c9d01555fb138cd67c18007a6922473832d16db45ef725e9ae38c0e", func := "calamus/calamuslaw15.HopTimes", spec := "hopTimes", unfollowed := true, recurses := true, apart := false, narrowed := true }
def HopTimesUptoSaid : Prop := hopTimesUptoRow.holds Try.pinned (OpenSpec.upto hopTimesSpec)

/-- 'calamuslaw15.HopAlternate', WHERE WHAT IT READS IS OF BULK AT MOST 1048576: true; the input reads as it did. -/
def hopAlternateUptoRow : OpenClaim := { program := "ythjlhbblflmajaa", sum := "66f404b60c9d01555fb138cd67c18007a6922473832d16db45ef725e9ae38c0e", func := "calamus/calamuslaw15.HopAlternate", spec := "hopAlternate", unfollowed := true, recurses := true, apart := false, narrowed := true }
def HopAlternateUptoSaid : Prop := hopAlternateUptoRow.holds Try.pinned (OpenSpec.upto hopAlternateSpec)

end Rows
end Go.Proofs.Ythjlhbblflmajaa
