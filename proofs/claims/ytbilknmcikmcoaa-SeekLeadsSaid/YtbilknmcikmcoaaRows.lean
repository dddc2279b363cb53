/-
  No cell of these rows narrows 'for every input' (looked for: loops, veiled, ifaces, maps, wideKeys, modest, calm, conditions, laid).
  DERIVED. THE GIVEN ROWS OF THIS SEAT. 4 by the template 'for every input the law returns true; each argument reads behind the call as it read before'; 0 by the template 'total and deterministic' (their statements: YtbilknmcikmcoaaTotals.lean).
  GIVEN WITH THE SEED: the statements are not yours to turn. If you find one false, say at which input.
  Laid BY PROGRAM, IN A SANDBOX (cutbox-rows.mjs): the forced cells as the released guide's own fill.sh prints them over the translation 7866263733e82ffa… (all of the seat's roots in one cut). By AI agents, Wed Nov 11 2026. No macro, syntax, notation, axiom, sorry.
-/
import Derived.Test.YtbilknmcikmcoaaChecked
import GoSem.Claim
import GoSem.ClaimJoined
import GoSem.ClaimMapViews
import Derived.JoinedTies
import Derived.KernelRfl
namespace Go.Proofs.Ytbilknmcikmcoaa
/- THE CELL 'sum', in the pinned program and in every row, IS THE sha256 OF THE DUMP (.gsa) THAT YtbilknmcikmcoaaProg.lean LOADS. Nothing in Lean hashes anything: it is a label: what it is worth is what the hold of that sum in a sandbox is worth. -/
noncomputable def Try.pinned : Pinned := { name := "ytbilknmcikmcoaa", sum := "7866263733e82ffa70eb3b349fbd262f52eed7088aa6625c547176edef6fadf8", checked := Try.checked }
namespace Rows
def none {H : Type} : Left H := { results := [], args := [] }

/-- 'calamuslaw16.SeekGoes': WHATEVER THE INPUT: true; the input reads as it did. -/
def seekGoesSpec : ChangeSpec := { name := "seekGoes", fn := fun _ => fun
  | [d1, d2, d3, d4] => { results := [.lit (.bool true)], args := [d1, d2, d3, d4] }
  | _ => none }
def seekGoesRow : OpenClaim := { program := "ytbilknmcikmcoaa", sum := "7866263733e82ffa70eb3b349fbd262f52eed7088aa6625c547176edef6fadf8", func := "calamus/calamuslaw16.SeekGoes", spec := "seekGoes", inPlace := ["internal/bytealg.IndexByteString", "internal/bytealg.CountString", "internal/bytealg.IndexString"], unfollowed := true, recurses := true, named := ["internal/bytealg.MaxLen"], apart := false }
def SeekGoesSaid : Prop := seekGoesRow.holds Try.pinned (OpenSpec.ofChange seekGoesSpec)

/-- ITS FALSE NEIGHBOUR: 'it returns false'. Refute it at one input. -/
def seekGoesWrong : ChangeSpec := { name := "seekGoes", fn := fun _ => fun
  | [d1, d2, d3, d4] => { results := [.lit (.bool false)], args := [d1, d2, d3, d4] }
  | _ => none }
def SeekGoesWrongFalsely : Prop := seekGoesRow.holds Try.pinned (OpenSpec.ofChange seekGoesWrong)

/-- 'calamuslaw16.SeekLeads': WHATEVER THE INPUT: true; the input reads as it did. -/
def seekLeadsSpec : ChangeSpec := { name := "seekLeads", fn := fun _ => fun
  | [d1, d2, d3, d4] => { results := [.lit (.bool true)], args := [d1, d2, d3, d4] }
  | _ => none }
def seekLeadsRow : OpenClaim := { program := "ytbilknmcikmcoaa", sum := "7866263733e82ffa70eb3b349fbd262f52eed7088aa6625c547176edef6fadf8", func := "calamus/calamuslaw16.SeekLeads", spec := "seekLeads", inPlace := ["internal/bytealg.IndexByteString", "internal/bytealg.CountString", "internal/bytealg.IndexString"], unfollowed := true, recurses := true, named := ["internal/bytealg.MaxLen"], apart := false }
def SeekLeadsSaid : Prop := seekLeadsRow.holds Try.pinned (OpenSpec.ofChange seekLeadsSpec)

/-- ITS FALSE NEIGHBOUR: 'it returns false'. Refute it at one input. -/
def seekLeadsWrong : ChangeSpec := { name := "seekLeads", fn := fun _ => fun
  | [d1, d2, d3, d4] => { results := [.lit (.bool false)], args := [d1, d2, d3, d4] }
  | _ => none }
def SeekLeadsWrongFalsely : Prop := seekLeadsRow.holds Try.pinned (OpenSpec.ofChange seekLeadsWrong)

/-- 'calamuslaw16.SeekKinds': WHATEVER THE INPUT: true; the input reads as it did. -/
def seekKindsSpec : ChangeSpec := { name := "seekKinds", fn := fun _ => fun
  | [d] => { results := [.lit (.bool true)], args := [d] }
  | _ => none }
def seekKindsRow : OpenClaim := { program := "ytbilknmcikmcoaa", sum := "7866263733e82ffa70eb3b349fbd262f52eed7088aa6625c547176edef6fadf8", func := "calamus/calamuslaw16.SeekKinds", spec := "seekKinds", inPlace := ["internal/bytealg.IndexByteString", "internal/bytealg.CountString", "internal/bytealg.IndexString"], unfollowed := true, recurses := true, named := ["internal/bytealg.MaxLen"], apart := false }
def SeekKindsSaid : Prop := seekKindsRow.holds Try.pinned (OpenSpec.ofChange seekKindsSpec)

/-- ITS FALSE NEIGHBOUR: 'it returns false'. Refute it at one input. -/
def seekKindsWrong : ChangeSpec := { name := "seekKinds", fn := fun _ => fun
  | [d] => { results := [.lit (.bool false)], args := [d] }
  | _ => none }
def SeekKindsWrongFalsely : Prop := seekKindsRow.holds Try.pinned (OpenSpec.ofChange seekKindsWrong)

/-- 'calamuslaw16.SeekBack': WHATEVER THE INPUT: true; the input reads as it did. -/
def seekBackSpec : ChangeSpec := { name := "seekBack", fn := fun _ => fun
  | [d1, d2, d3, d4] => { results := [.lit (.bool true)], args := [d1, d2, d3, d4] }
  | _ => none }
def seekBackRow : OpenClaim := { program := "ytbilknmcikmcoaa", sum := "7866263733e82ffa70eb3b349fbd262f52eed7088aa6625c547176edef6fadf8", func := "calamus/calamuslaw16.SeekBack", spec := "seekBack", inPlace := ["internal/bytealg.IndexByteString", "internal/bytealg.CountString", "internal/bytealg.IndexString"], unfollowed := true, recurses := true, named := ["internal/bytealg.MaxLen"], apart := false }
def SeekBackSaid : Prop := seekBackRow.holds Try.pinned (OpenSpec.ofChange seekBackSpec)

/-- ITS FALSE NEIGHBOUR: 'it returns false'. Refute it at one input. -/
def seekBackWrong : ChangeSpec := { name := "seekBack", fn := fun _ => fun
  | [d1, d2, d3, d4] => { results := [.lit (.bool false)], args := [d1, d2, d3, d4] }
  | _ => none }
def SeekBackWrongFalsely : Prop := seekBackRow.holds Try.pinned (OpenSpec.ofChange seekBackWrong)

/- THE SECOND FORM. 'bulk': how many values and letters a reading holds, each counted each time it is reached (what is shared counts as often as it is met; a slice's spare places count too). A statement '..UptoSaid' is the law's where the arguments, and the package variables that the reading takes, are together of bulk at most 1048576: NARROWER than '..Said'. Prove '..Said' where nothing that the law and all that it calls make is longer than what came in: it says more and counts as full. Else prove '..UptoSaid'. A law counts once. -/
mutual
def uptoBulk {H : Type} : DataW H → Nat
  | .lit (.string bytes) => bytes.length + 1
  | .lit _ => 1
  | .nil => 1
  | .ptr d => uptoBulk d + 1
  | .slice elems spare => uptoBulkAll elems + uptoBulkAll spare + 1
  | .agg parts => uptoBulkAll parts + 1
  | .iface _ d => uptoBulk d + 1
  | .map entries => uptoBulkEntries entries + 1
  | .held _ => 1
def uptoBulkAll {H : Type} : List (DataW H) → Nat
  | [] => 0
  | d :: r => uptoBulk d + uptoBulkAll r
def uptoBulkEntries {H : Type} : List (Lit × DataW H) → Nat
  | [] => 0
  | x :: r => uptoBulkEntry x + uptoBulkEntries r
def uptoBulkEntry {H : Type} : Lit × DataW H → Nat
  | (.string bytes, d) => bytes.length + uptoBulk d + 1
  | (_, d) => uptoBulk d + 1
 end
def uptoSmall : (H : Type) → List (DataW H) → Bool := fun _ ds => decide (uptoBulkAll ds ≤ 1048576)
def OpenSpec.upto (s : _root_.Go.ChangeSpec) : _root_.Go.OpenSpec := { _root_.Go.OpenSpec.ofChange s with cond := some uptoSmall }

/-- 'calamuslaw16.SeekGoes', WHERE WHAT IT READS IS OF BULK AT MOST 1048576: true; the input reads as it did. -/
def seekGoesUptoRow : OpenClaim := { program := "ytbilknmcikmcoaa", sum := "7866263733e82ffa70eb3b349fbd262f52eed7088aa6625c547176edef6fadf8", func := "calamus/calamuslaw16.SeekGoes", spec := "seekGoes", inPlace := ["internal/bytealg.IndexByteString", "internal/bytealg.CountString", "internal/bytealg.IndexString"], unfollowed := true, recurses := true, named := ["internal/bytealg.MaxLen"], apart := false, narrowed := true }
def SeekGoesUptoSaid : Prop := seekGoesUptoRow.holds Try.pinned (OpenSpec.upto seekGoesSpec)

/-- 'calamuslaw16.SeekLeads', WHERE WHAT IT READS IS OF BULK AT MOST 1048576: true; the input reads as it did. -/
def seekLeadsUptoRow : OpenClaim := { program := "ytbilknmcikmcoaa", sum := "7866263733e82ffa70eb3b349fbd262f52eed7088aa6625c547176edef6fadf8", func := "calamus/calamuslaw16.SeekLeads", spec := "seekLeads", inPlace := ["internal/bytealg.IndexByteString", "internal/bytealg.CountString", "internal/bytealg.IndexString"], unfollowed := true, recurses := true, named := ["internal/bytealg.MaxLen"], apart := false, narrowed := true }
def SeekLeadsUptoSaid : Prop := seekLeadsUptoRow.holds Try.pinned (OpenSpec.upto seekLeadsSpec)

/-- 'calamuslaw16.SeekKinds', WHERE WHAT IT READS IS OF BULK AT MOST 1048576: true; the input reads as it did. -/
def seekKindsUptoRow : OpenClaim := { program := "ytbilknmcikmcoaa", sum := "7866263733e82ffa70eb3b349fbd262f52eed7088aa6625c547176edef6fadf8", func := "calamus/calamuslaw16.SeekKinds", spec := "seekKinds", inPlace := ["internal/bytealg.IndexByteString", "internal/bytealg.CountString", "internal/bytealg.IndexString"], unfollowed := true, recurses := true, named := ["internal/bytealg.MaxLen"], apart := false, narrowed := true }
def SeekKindsUptoSaid : Prop := seekKindsUptoRow.holds Try.pinned (OpenSpec.upto seekKindsSpec)

/-- 'calamuslaw16.SeekBack', WHERE WHAT IT READS IS OF BULK AT MOST 1048576: true; the input reads as it did. -/
def seekBackUptoRow : OpenClaim := { program := "ytbilknmcikmcoaa", sum := "7866263733e82ffa70eb3b349fbd262f52eed7088aa6625c547176edef6fadf8", func := "calamus/calamuslaw16.SeekBack", spec := "seekBack", inPlace := ["internal/bytealg.IndexByteString", "internal/bytealg.CountString", "internal/bytealg.IndexString"], unfollowed := true, recurses := true, named := ["internal/bytealg.MaxLen"], apart := false, narrowed := true }
def SeekBackUptoSaid : Prop := seekBackUptoRow.holds Try.pinned (OpenSpec.upto seekBackSpec)

end Rows
end Go.Proofs.Ytbilknmcikmcoaa
