/- The contracts of the reference calamusref03, from place to place. -/
import Derived.Test.YthjlhbblflmajaaR3b
import Derived.Test.YthjlhbblflmajaaMU4
namespace Go.Proofs.Ythjlhbblflmajaa
open Go.RowKit
set_option linter.unusedVariables false
set_option linter.unusedSimpArgs false
end Go.Proofs.Ythjlhbblflmajaa
