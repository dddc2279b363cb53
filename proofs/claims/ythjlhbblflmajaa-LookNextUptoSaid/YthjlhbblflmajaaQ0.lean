-- Printed by this work's xp.py out of the translation. Lean checks it.
import Derived.Test.YthjlhbblflmajaaProg
import Derived.Below
import Derived.Deep.Draws
import Derived.Deep.AppendLies
import Derived.Maps.AppendAt
import Derived.OwnWalk
import Derived.Laws.BytesArg
import Derived.Laws.MakeOwn
import Derived.Laws.OwnMore
import Derived.Deep.OwnRows
import Derived.Tactics
import Derived.Lib.ConvBytes
import Derived.Laws.Slices
import Derived.WalkKit
import Derived.KernelRfl
import Derived.RowKit3
import Derived.Deep.LoopGhost
import Derived.Deep.QuietTactic
import Derived.BigQuiet
import Derived.WideLaws
import Derived.Deep.DeepCutAuto
import Derived.Deep.CutBlock
import Derived.Deep.RegionHeld3
import Derived.Laws.Rows
import Derived.Lib.AppendStr
import Derived.ArgAppend
import Derived.Laws.IdiomCopy
import Derived.OrdersHeld
import Derived.Laws.BitsLemmas
import Derived.RowKit
import Derived.Test.YthjlhbblflmajaaWWords
import Derived.Test.YthjlhbblflmajaaWLast
import Derived.Test.YthjlhbblflmajaaWTab
import Derived.Test.YthjlhbblflmajaaWFour
import Derived.Test.YthjlhbblflmajaaWQPut
import Derived.Test.YthjlhbblflmajaaWApart
import Derived.Test.YthjlhbblflmajaaWArr
import Derived.Test.YthjlhbblflmajaaWZeros
import Derived.Test.YthjlhbblflmajaaWFoot
import Derived.Test.YthjlhbblflmajaaWKept
import Derived.Test.YthjlhbblflmajaaWShare
import Derived.Test.YthjlhbblflmajaaWN
import Derived.Test.YthjlhbblflmajaaWFootNe
import Derived.Test.YthjlhbblflmajaaWAt
import Derived.Test.YthjlhbblflmajaaWEqStruct
import Derived.Test.YthjlhbblflmajaaWRepsOne
import Derived.Test.YthjlhbblflmajaaWInv
import Derived.Test.YthjlhbblflmajaaWInvWords
import Derived.Test.YthjlhbblflmajaaWGuard
import Derived.Test.YthjlhbblflmajaaWNEv
import Derived.Test.YthjlhbblflmajaaWMore
namespace Go.Proofs.Ythjlhbblflmajaa.Q
open Go.RowKit Go.Proofs.YthjlhbblflmajaaW.PrintWords Go.Proofs.YthjlhbblflmajaaW.PrintLast Go.Proofs.YthjlhbblflmajaaW.PrintMore
attribute [local go_sem] max2_int min2_int max_two min_two max_three min_three max_four min_four   -- for this text's walks alone
set_option linter.unusedVariables false
set_option linter.unusedSimpArgs false



def errW : Option Int → Value
  | none => .nilIface
  | some c => .iface 0 (.int .i64 c)
theorem errW_none : errW none = .nilIface := rfl
theorem errW_some (c : Int) : errW (some c) = .iface 0 (.int .i64 c) := rfl

theorem info3 : (Try.prog.info? 3).map (fun i => (i.zero, i.size, i.bytes)) = some (some (.int .i64 0), 1, 8) := by kernel_rfl
-- the values' own types

end Go.Proofs.Ythjlhbblflmajaa.Q
