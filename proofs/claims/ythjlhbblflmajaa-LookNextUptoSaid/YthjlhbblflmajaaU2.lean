/- The contract of utf.Rune. -/
import Derived.Test.YthjlhbblflmajaaU1
import Derived.Test.YthjlhbblflmajaaMU4
namespace Go.Proofs.Ythjlhbblflmajaa
open Go.RowKit
set_option linter.unusedVariables false
set_option linter.unusedSimpArgs false
end Go.Proofs.Ythjlhbblflmajaa
