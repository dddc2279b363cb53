/-
  No cell of these rows narrows 'for every input' (looked for: loops, veiled, ifaces, maps, wideKeys, modest, calm, conditions, laid).
  DERIVED. THE GIVEN ROWS OF THIS SEAT. 11 by the template 'for every input the law returns true; each argument reads behind the call as it read before'; 0 by the template 'total and deterministic' (their statements: YtnmcdkekflnekaaTotals.lean).
  GIVEN WITH THE SEED: the statements are not yours to turn. If you find one false, say at which input.
  Laid BY PROGRAM, IN A SANDBOX (cutbox-rows.mjs): the forced cells as the released guide's own fill.sh prints them over the translation 2bd614fb410f03a7… (all of the seat's roots in one cut). By AI agents, Wed Nov 11 2026. No macro, syntax, notation, axiom, sorry.
-/
import Derived.Test.YtnmcdkekflnekaaChecked
import GoSem.Claim
import GoSem.ClaimJoined
import GoSem.ClaimMapViews
import Derived.JoinedTies
import Derived.KernelRfl
namespace Go.Proofs.Ytnmcdkekflnekaa
/- THE CELL 'sum', in the pinned program and in every row, IS THE sha256 OF THE DUMP (.gsa) THAT YtnmcdkekflnekaaProg.lean LOADS. Nothing in Lean hashes anything: it is a label: what it is worth is what the hold of that sum in a sandbox is worth. -/
noncomputable def Try.pinned : Pinned := { name := "ytnmcdkekflnekaa", sum := "2bd614fb410f03a7bfb9991954ee611b7f4eb6a9d370cb5b3711dcdbdfd1a30c", checked := Try.checked }
namespace Rows
def none {H : Type} : Left H := { results := [], args := [] }

/-- 'calamuslaw25.EntryUndone': WHATEVER THE INPUT: true; the input reads as it did. -/
def entryUndoneSpec : ChangeSpec := { name := "entryUndone", fn := fun _ => fun
  | [d1, d2, d3] => { results := [.lit (.bool true)], args := [d1, d2, d3] }
  | _ => none }
def entryUndoneRow : OpenClaim := { program := "ytnmcdkekflnekaa", sum := "2bd614fb410f03a7bfb9991954ee611b7f4eb6a9d370cb5b3711dcdbdfd1a30c", func := "calamus/calamuslaw25.EntryUndone", spec := "entryUndone", unfollowed := true, recurses := true, apart := false }
def EntryUndoneSaid : Prop := entryUndoneRow.holds Try.pinned (OpenSpec.ofChange entryUndoneSpec)

/-- ITS FALSE NEIGHBOUR: 'it returns false'. Refute it at one input. -/
def entryUndoneWrong : ChangeSpec := { name := "entryUndone", fn := fun _ => fun
  | [d1, d2, d3] => { results := [.lit (.bool false)], args := [d1, d2, d3] }
  | _ => none }
def EntryUndoneWrongFalsely : Prop := entryUndoneRow.holds Try.pinned (OpenSpec.ofChange entryUndoneWrong)

/-- 'calamuslaw22.SpanMade': WHATEVER THE INPUT: true; the input reads as it did. -/
def spanMadeSpec : ChangeSpec := { name := "spanMade", fn := fun _ => fun
  | [d1, d2, d3, d4] => { results := [.lit (.bool true)], args := [d1, d2, d3, d4] }
  | _ => none }
def spanMadeRow : OpenClaim := { program := "ytnmcdkekflnekaa", sum := "2bd614fb410f03a7bfb9991954ee611b7f4eb6a9d370cb5b3711dcdbdfd1a30c", func := "calamus/calamuslaw22.SpanMade", spec := "spanMade", inPlace := ["internal/bytealg.CountString", "internal/bytealg.IndexByteString", "internal/bytealg.IndexString"], unfollowed := true, recurses := true, named := ["internal/bytealg.MaxLen"], apart := false }
def SpanMadeSaid : Prop := spanMadeRow.holds Try.pinned (OpenSpec.ofChange spanMadeSpec)

/-- ITS FALSE NEIGHBOUR: 'it returns false'. Refute it at one input. -/
def spanMadeWrong : ChangeSpec := { name := "spanMade", fn := fun _ => fun
  | [d1, d2, d3, d4] => { results := [.lit (.bool false)], args := [d1, d2, d3, d4] }
  | _ => none }
def SpanMadeWrongFalsely : Prop := spanMadeRow.holds Try.pinned (OpenSpec.ofChange spanMadeWrong)

/-- 'calamuslaw22.SpanOf': WHATEVER THE INPUT: true; the input reads as it did. -/
def spanOfSpec : ChangeSpec := { name := "spanOf", fn := fun _ => fun
  | [d1, d2, d3, d4, d5] => { results := [.lit (.bool true)], args := [d1, d2, d3, d4, d5] }
  | _ => none }
def spanOfRow : OpenClaim := { program := "ytnmcdkekflnekaa", sum := "2bd614fb410f03a7bfb9991954ee611b7f4eb6a9d370cb5b3711dcdbdfd1a30c", func := "calamus/calamuslaw22.SpanOf", spec := "spanOf", inPlace := ["internal/bytealg.CountString", "internal/bytealg.IndexByteString", "internal/bytealg.IndexString"], unfollowed := true, recurses := true, named := ["internal/bytealg.MaxLen"], apart := false }
def SpanOfSaid : Prop := spanOfRow.holds Try.pinned (OpenSpec.ofChange spanOfSpec)

/-- ITS FALSE NEIGHBOUR: 'it returns false'. Refute it at one input. -/
def spanOfWrong : ChangeSpec := { name := "spanOf", fn := fun _ => fun
  | [d1, d2, d3, d4, d5] => { results := [.lit (.bool false)], args := [d1, d2, d3, d4, d5] }
  | _ => none }
def SpanOfWrongFalsely : Prop := spanOfRow.holds Try.pinned (OpenSpec.ofChange spanOfWrong)

/-- 'calamuslaw21.RegGets': WHATEVER THE INPUT: true; the input reads as it did. -/
def regGetsSpec : ChangeSpec := { name := "regGets", fn := fun _ => fun
  | [d1, d2] => { results := [.lit (.bool true)], args := [d1, d2] }
  | _ => none }
def regGetsRow : OpenClaim := { program := "ytnmcdkekflnekaa", sum := "2bd614fb410f03a7bfb9991954ee611b7f4eb6a9d370cb5b3711dcdbdfd1a30c", func := "calamus/calamuslaw21.RegGets", spec := "regGets", inPlace := ["slices.overlaps[calamus/api.Reg]"], unfollowed := true, recurses := true, apart := false }
def RegGetsSaid : Prop := regGetsRow.holds Try.pinned (OpenSpec.ofChange regGetsSpec)

/-- ITS FALSE NEIGHBOUR: 'it returns false'. Refute it at one input. -/
def regGetsWrong : ChangeSpec := { name := "regGets", fn := fun _ => fun
  | [d1, d2] => { results := [.lit (.bool false)], args := [d1, d2] }
  | _ => none }
def RegGetsWrongFalsely : Prop := regGetsRow.holds Try.pinned (OpenSpec.ofChange regGetsWrong)

/-- 'calamuslaw21.RegHolds': WHATEVER THE INPUT: true; the input reads as it did. -/
def regHoldsSpec : ChangeSpec := { name := "regHolds", fn := fun _ => fun
  | [d1, d2, d3, d4, d5] => { results := [.lit (.bool true)], args := [d1, d2, d3, d4, d5] }
  | _ => none }
def regHoldsRow : OpenClaim := { program := "ytnmcdkekflnekaa", sum := "2bd614fb410f03a7bfb9991954ee611b7f4eb6a9d370cb5b3711dcdbdfd1a30c", func := "calamus/calamuslaw21.RegHolds", spec := "regHolds", inPlace := ["slices.overlaps[calamus/api.Reg]"], unfollowed := true, recurses := true, apart := false }
def RegHoldsSaid : Prop := regHoldsRow.holds Try.pinned (OpenSpec.ofChange regHoldsSpec)

/-- ITS FALSE NEIGHBOUR: 'it returns false'. Refute it at one input. -/
def regHoldsWrong : ChangeSpec := { name := "regHolds", fn := fun _ => fun
  | [d1, d2, d3, d4, d5] => { results := [.lit (.bool false)], args := [d1, d2, d3, d4, d5] }
  | _ => none }
def RegHoldsWrongFalsely : Prop := regHoldsRow.holds Try.pinned (OpenSpec.ofChange regHoldsWrong)

/-- 'calamuslaw25.EntryTypes': WHATEVER THE INPUT: true; the input reads as it did. -/
def entryTypesSpec : ChangeSpec := { name := "entryTypes", fn := fun _ => fun
  | [d1, d2, d3, d4, d5] => { results := [.lit (.bool true)], args := [d1, d2, d3, d4, d5] }
  | _ => none }
def entryTypesRow : OpenClaim := { program := "ytnmcdkekflnekaa", sum := "2bd614fb410f03a7bfb9991954ee611b7f4eb6a9d370cb5b3711dcdbdfd1a30c", func := "calamus/calamuslaw25.EntryTypes", spec := "entryTypes", inPlace := ["internal/abi.NoEscape", "internal/bytealg.MakeNoZero"], unfollowed := true, recurses := true, apart := false }
def EntryTypesSaid : Prop := entryTypesRow.holds Try.pinned (OpenSpec.ofChange entryTypesSpec)

/-- ITS FALSE NEIGHBOUR: 'it returns false'. Refute it at one input. -/
def entryTypesWrong : ChangeSpec := { name := "entryTypes", fn := fun _ => fun
  | [d1, d2, d3, d4, d5] => { results := [.lit (.bool false)], args := [d1, d2, d3, d4, d5] }
  | _ => none }
def EntryTypesWrongFalsely : Prop := entryTypesRow.holds Try.pinned (OpenSpec.ofChange entryTypesWrong)

/-- 'calamuslaw22.SpanCuts': WHATEVER THE INPUT: true; the input reads as it did. -/
def spanCutsSpec : ChangeSpec := { name := "spanCuts", fn := fun _ => fun
  | [d1, d2, d3] => { results := [.lit (.bool true)], args := [d1, d2, d3] }
  | _ => none }
def spanCutsRow : OpenClaim := { program := "ytnmcdkekflnekaa", sum := "2bd614fb410f03a7bfb9991954ee611b7f4eb6a9d370cb5b3711dcdbdfd1a30c", func := "calamus/calamuslaw22.SpanCuts", spec := "spanCuts", inPlace := ["internal/bytealg.CountString", "internal/bytealg.IndexByteString", "internal/bytealg.IndexString"], unfollowed := true, recurses := true, named := ["internal/bytealg.MaxLen"], apart := false }
def SpanCutsSaid : Prop := spanCutsRow.holds Try.pinned (OpenSpec.ofChange spanCutsSpec)

/-- ITS FALSE NEIGHBOUR: 'it returns false'. Refute it at one input. -/
def spanCutsWrong : ChangeSpec := { name := "spanCuts", fn := fun _ => fun
  | [d1, d2, d3] => { results := [.lit (.bool false)], args := [d1, d2, d3] }
  | _ => none }
def SpanCutsWrongFalsely : Prop := spanCutsRow.holds Try.pinned (OpenSpec.ofChange spanCutsWrong)

/-- 'calamuslaw25.EntryCuts': WHATEVER THE INPUT: true; the input reads as it did. -/
def entryCutsSpec : ChangeSpec := { name := "entryCuts", fn := fun _ => fun
  | [d1, d2, d3] => { results := [.lit (.bool true)], args := [d1, d2, d3] }
  | _ => none }
def entryCutsRow : OpenClaim := { program := "ytnmcdkekflnekaa", sum := "2bd614fb410f03a7bfb9991954ee611b7f4eb6a9d370cb5b3711dcdbdfd1a30c", func := "calamus/calamuslaw25.EntryCuts", spec := "entryCuts", inPlace := ["internal/bytealg.CountString", "internal/bytealg.IndexByteString", "internal/bytealg.IndexString"], unfollowed := true, recurses := true, named := ["internal/bytealg.MaxLen"], apart := false }
def EntryCutsSaid : Prop := entryCutsRow.holds Try.pinned (OpenSpec.ofChange entryCutsSpec)

/-- ITS FALSE NEIGHBOUR: 'it returns false'. Refute it at one input. -/
def entryCutsWrong : ChangeSpec := { name := "entryCuts", fn := fun _ => fun
  | [d1, d2, d3] => { results := [.lit (.bool false)], args := [d1, d2, d3] }
  | _ => none }
def EntryCutsWrongFalsely : Prop := entryCutsRow.holds Try.pinned (OpenSpec.ofChange entryCutsWrong)

/-- 'calamuslaw25.EntryKeeps': WHATEVER THE INPUT: true; the input reads as it did. -/
def entryKeepsSpec : ChangeSpec := { name := "entryKeeps", fn := fun _ => fun
  | [d1, d2, d3] => { results := [.lit (.bool true)], args := [d1, d2, d3] }
  | _ => none }
def entryKeepsRow : OpenClaim := { program := "ytnmcdkekflnekaa", sum := "2bd614fb410f03a7bfb9991954ee611b7f4eb6a9d370cb5b3711dcdbdfd1a30c", func := "calamus/calamuslaw25.EntryKeeps", spec := "entryKeeps", inPlace := ["internal/bytealg.CountString", "internal/bytealg.IndexByteString", "internal/bytealg.IndexString"], unfollowed := true, recurses := true, named := ["internal/bytealg.MaxLen"], apart := false }
def EntryKeepsSaid : Prop := entryKeepsRow.holds Try.pinned (OpenSpec.ofChange entryKeepsSpec)

/-- ITS FALSE NEIGHBOUR: 'it returns false'. Refute it at one input. -/
def entryKeepsWrong : ChangeSpec := { name := "entryKeeps", fn := fun _ => fun
  | [d1, d2, d3] => { results := [.lit (.bool false)], args := [d1, d2, d3] }
  | _ => none }
def EntryKeepsWrongFalsely : Prop := entryKeepsRow.holds Try.pinned (OpenSpec.ofChange entryKeepsWrong)

/-- 'calamuslaw21.RegKeeps': WHATEVER THE INPUT: true; the input reads as it did. -/
def regKeepsSpec : ChangeSpec := { name := "regKeeps", fn := fun _ => fun
  | [d1, d2, d3, d4] => { results := [.lit (.bool true)], args := [d1, d2, d3, d4] }
  | _ => none }
def regKeepsRow : OpenClaim := { program := "ytnmcdkekflnekaa", sum := "2bd614fb410f03a7bfb9991954ee611b7f4eb6a9d370cb5b3711dcdbdfd1a30c", func := "calamus/calamuslaw21.RegKeeps", spec := "regKeeps", inPlace := ["slices.overlaps[calamus/api.Reg]", "internal/bytealg.IndexByteString", "internal/bytealg.IndexString"], unfollowed := true, recurses := true, named := ["internal/bytealg.MaxLen"], apart := false }
def RegKeepsSaid : Prop := regKeepsRow.holds Try.pinned (OpenSpec.ofChange regKeepsSpec)

/-- ITS FALSE NEIGHBOUR: 'it returns false'. Refute it at one input. -/
def regKeepsWrong : ChangeSpec := { name := "regKeeps", fn := fun _ => fun
  | [d1, d2, d3, d4] => { results := [.lit (.bool false)], args := [d1, d2, d3, d4] }
  | _ => none }
def RegKeepsWrongFalsely : Prop := regKeepsRow.holds Try.pinned (OpenSpec.ofChange regKeepsWrong)

/-- 'calamuslaw21.RegShifts': WHATEVER THE INPUT: true; the input reads as it did. -/
def regShiftsSpec : ChangeSpec := { name := "regShifts", fn := fun _ => fun
  | [d1, d2] => { results := [.lit (.bool true)], args := [d1, d2] }
  | _ => none }
def regShiftsRow : OpenClaim := { program := "ytnmcdkekflnekaa", sum := "2bd614fb410f03a7bfb9991954ee611b7f4eb6a9d370cb5b3711dcdbdfd1a30c", func := "calamus/calamuslaw21.RegShifts", spec := "regShifts", inPlace := ["slices.overlaps[calamus/api.Reg]", "internal/bytealg.IndexByteString", "internal/bytealg.IndexString"], unfollowed := true, recurses := true, named := ["internal/bytealg.MaxLen"], apart := false }
def RegShiftsSaid : Prop := regShiftsRow.holds Try.pinned (OpenSpec.ofChange regShiftsSpec)

/-- ITS FALSE NEIGHBOUR: 'it returns false'. Refute it at one input. -/
def regShiftsWrong : ChangeSpec := { name := "regShifts", fn := fun _ => fun
  | [d1, d2] => { results := [.lit (.bool false)], args := [d1, d2] }
  | _ => none }
def RegShiftsWrongFalsely : Prop := regShiftsRow.holds Try.pinned (OpenSpec.ofChange regShiftsWrong)

/- THE SECOND FORM. 'bulk': how many values and letters a reading holds, each counted each time it is reached (what is shared counts as often as it is met; a slice's spare places count too). A statement '..UptoSaid' is the law's where the arguments, and the package variables that the reading takes, are together of bulk at most 1048576: NARROWER than '..Said'. Prove '..Said' where nothing that the law and all that it calls make is longer than what came in: it says more and counts as full. Else prove '..UptoSaid'. A law counts once. -/
mutual
def uptoBulk {H : Type} : DataW H → Nat
  | .lit (.string bytes) => bytes.length + 1
  | .lit _ => 1
  | .nil => 1
  | .ptr d => uptoBulk d + 1
  | .slice elems spare => uptoBulkAll elems + uptoBulkAll spare + 1
  | .agg parts => uptoBulkAll parts + 1
  | .iface _ d => uptoBulk d + 1
  | .map entries => uptoBulkEntries entries + 1
  | .held _ => 1
def uptoBulkAll {H : Type} : List (DataW H) → Nat
  | [] => 0
  | d :: r => uptoBulk d + uptoBulkAll r
def uptoBulkEntries {H : Type} : List (Lit × DataW H) → Nat
  | [] => 0
  | x :: r => uptoBulkEntry x + uptoBulkEntries r
def uptoBulkEntry {H : Type} : Lit × DataW H → Nat
  | (.string bytes, d) => bytes.length + uptoBulk d + 1
  | (_, d) => uptoBulk d + 1
 end
def uptoSmall : (H : Type) → List (DataW H) → Bool := fun _ ds => decide (uptoBulkAll ds ≤ 1048576)
def OpenSpec.upto (s : _root_.Go.ChangeSpec) : _root_.Go.OpenSpec := { _root_.Go.OpenSpec.ofChange s with cond := some uptoSmall }

/-- 'calamuslaw25.EntryUndone', WHERE WHAT IT READS IS OF BULK AT MOST 1048576: true; the input reads as it did. -/
def entryUndoneUptoRow : OpenClaim := { program := "ytnmcdkekflnekaa", sum := "2bd614fb410f03a7bfb9991954ee611b7f4eb6a9d370cb5b3711dcdbdfd1a30c", func := "calamus/calamuslaw25.EntryUndone", spec := "entryUndone", unfollowed := true, recurses := true, apart := false, narrowed := true }
def EntryUndoneUptoSaid : Prop := entryUndoneUptoRow.holds Try.pinned (OpenSpec.upto entryUndoneSpec)

/-- 'calamuslaw22.SpanMade', WHERE WHAT IT READS IS OF BULK AT MOST 1048576: true; the input reads as it did. -/
def spanMadeUptoRow : OpenClaim := { program := "ytnmcdkekflnekaa", sum := "2bd614fb410f03a7bfb9991954ee611b7f4eb6a9d370cb5b3711dcdbdfd1a30c", func := "calamus/calamuslaw22.SpanMade", spec := "spanMade", inPlace := ["internal/bytealg.CountString", "internal/bytealg.IndexByteString", "internal/bytealg.IndexString"], unfollowed := true, recurses := true, named := ["internal/bytealg.MaxLen"], apart := false, narrowed := true }
def SpanMadeUptoSaid : Prop := spanMadeUptoRow.holds Try.pinned (OpenSpec.upto spanMadeSpec)

/-- 'calamuslaw22.SpanOf', WHERE WHAT IT READS IS OF BULK AT MOST 1048576: true; the input reads as it did. -/
def spanOfUptoRow : OpenClaim := { program := "ytnmcdkekflnekaa", sum := "2bd614fb410f03a7bfb9991954ee611b7f4eb6a9d370cb5b3711dcdbdfd1a30c", func := "calamus/calamuslaw22.SpanOf", spec := "spanOf", inPlace := ["internal/bytealg.CountString", "internal/bytealg.IndexByteString", "internal/bytealg.IndexString"], unfollowed := true, recurses := true, named := ["internal/bytealg.MaxLen"], apart := false, narrowed := true }
def SpanOfUptoSaid : Prop := spanOfUptoRow.holds Try.pinned (OpenSpec.upto spanOfSpec)

/-- 'calamuslaw21.RegGets', WHERE WHAT IT READS IS OF BULK AT MOST 1048576: true; the input reads as it did. -/
def regGetsUptoRow : OpenClaim := { program := "ytnmcdkekflnekaa", sum := "2bd614fb410f03a7bfb9991954ee611b7f4eb6a9d370cb5b3711dcdbdfd1a30c", func := "calamus/calamuslaw21.RegGets", spec := "regGets", inPlace := ["slices.overlaps[calamus/api.Reg]"], unfollowed := true, recurses := true, apart := false, narrowed := true }
def RegGetsUptoSaid : Prop := regGetsUptoRow.holds Try.pinned (OpenSpec.upto regGetsSpec)

/-- 'calamuslaw21.RegHolds', WHERE WHAT IT READS IS OF BULK AT MOST 1048576: true; the input reads as it did. -/
def regHoldsUptoRow : OpenClaim := { program := "ytnmcdkekflnekaa", sum := "2bd614fb410f03a7bfb9991954ee611b7f4eb6a9d370cb5b3711dcdbdfd1a30c", func := "calamus/calamuslaw21.RegHolds", spec := "regHolds", inPlace := ["slices.overlaps[calamus/api.Reg]"], unfollowed := true, recurses := true, apart := false, narrowed := true }
def RegHoldsUptoSaid : Prop := regHoldsUptoRow.holds Try.pinned (OpenSpec.upto regHoldsSpec)

/-- 'calamuslaw25.EntryTypes', WHERE WHAT IT READS IS OF BULK AT MOST 1048576: true; the input reads as it did. -/
def entryTypesUptoRow : OpenClaim := { program := "ytnmcdkekflnekaa", sum := "2bd614fb410f03a7bfb9991954ee611b7f4eb6a9d370cb5b3711dcdbdfd1a30c", func := "calamus/calamuslaw25.EntryTypes", spec := "entryTypes", inPlace := ["internal/abi.NoEscape", "internal/bytealg.MakeNoZero"], unfollowed := true, recurses := true, apart := false, narrowed := true }
def EntryTypesUptoSaid : Prop := entryTypesUptoRow.holds Try.pinned (OpenSpec.upto entryTypesSpec)

/-- 'calamuslaw22.SpanCuts', WHERE WHAT IT READS IS OF BULK AT MOST 1048576: true; the input reads as it did. -/
def spanCutsUptoRow : OpenClaim := { program := "ytnmcdkekflnekaa", sum := "2bd614fb410f03a7bfb9991954ee611b7f4eb6a9d370cb5b3711dcdbdfd1a30c", func := "calamus/calamuslaw22.SpanCuts", spec := "spanCuts", inPlace := ["internal/bytealg.CountString", "internal/bytealg.IndexByteString", "internal/bytealg.IndexString"], unfollowed := true, recurses := true, named := ["internal/bytealg.MaxLen"], apart := false, narrowed := true }
def SpanCutsUptoSaid : Prop := spanCutsUptoRow.holds Try.pinned (OpenSpec.upto spanCutsSpec)

/-- 'calamuslaw25.EntryCuts', WHERE WHAT IT READS IS OF BULK AT MOST 1048576: true; the input reads as it did. -/
def entryCutsUptoRow : OpenClaim := { program := "ytnmcdkekflnekaa", sum := "2bd614fb410f03a7bfb9991954ee611b7f4eb6a9d370cb5b3711dcdbdfd1a30c", func := "calamus/calamuslaw25.EntryCuts", spec := "entryCuts", inPlace := ["internal/bytealg.CountString", "internal/bytealg.IndexByteString", "internal/bytealg.IndexString"], unfollowed := true, recurses := true, named := ["internal/bytealg.MaxLen"], apart := false, narrowed := true }
def EntryCutsUptoSaid : Prop := entryCutsUptoRow.holds Try.pinned (OpenSpec.upto entryCutsSpec)

/-- 'calamuslaw25.EntryKeeps', WHERE WHAT IT READS IS OF BULK AT MOST 1048576: true; the input reads as it did. -/
def entryKeepsUptoRow : OpenClaim := { program := "ytnmcdkekflnekaa", sum := "2bd614fb410f03a7bfb9991954ee611b7f4eb6a9d370cb5b3711dcdbdfd1a30c", func := "calamus/calamuslaw25.EntryKeeps", spec := "entryKeeps", inPlace := ["internal/bytealg.CountString", "internal/bytealg.IndexByteString", "internal/bytealg.IndexString"], unfollowed := true, recurses := true, named := ["internal/bytealg.MaxLen"], apart := false, narrowed := true }
def EntryKeepsUptoSaid : Prop := entryKeepsUptoRow.holds Try.pinned (OpenSpec.upto entryKeepsSpec)

/-- 'calamuslaw21.RegKeeps', WHERE WHAT IT READS IS OF BULK AT MOST 1048576: true; the input reads as it did. -/
def regKeepsUptoRow : OpenClaim := { program := "ytnmcdkekflnekaa", sum := "2bd614fb410f03a7bfb9991954ee611b7f4eb6a9d370cb5b3711dcdbdfd1a30c", func := "calamus/calamuslaw21.RegKeeps", spec := "regKeeps", inPlace := ["slices.overlaps[calamus/api.Reg]", "internal/bytealg.IndexByteString", "internal/bytealg.IndexString"], unfollowed := true, recurses := true, named := ["internal/bytealg.MaxLen"], apart := false, narrowed := true }
def RegKeepsUptoSaid : Prop := regKeepsUptoRow.holds Try.pinned (OpenSpec.upto regKeepsSpec)

/-- 'calamuslaw21.RegShifts', WHERE WHAT IT READS IS OF BULK AT MOST 1048576: true; the input reads as it did. -/
def regShiftsUptoRow : OpenClaim := { program := "ytnmcdkekflnekaa", sum := "2bd614fb410f03a7bfb9991954ee611b7f4eb6a9d370cb5b3711dcdbdfd1a30c", func := "calamus/calamuslaw21.RegShifts", spec := "regShifts", inPlace := ["slices.overlaps[calamus/api.Reg]", "internal/bytealg.IndexByteString", "internal/bytealg.IndexString"], unfollowed := true, recurses := true, named := ["internal/bytealg.MaxLen"], apart := false, narrowed := true }
def RegShiftsUptoSaid : Prop := regShiftsUptoRow.holds Try.pinned (OpenSpec.upto regShiftsSpec)

end Rows
end Go.Proofs.Ytnmcdkekflnekaa
