/- What utf.first hands back. -/
import Derived.Test.YthjlhbblflmajaaMU
namespace Go.Proofs.Ythjlhbblflmajaa
open Go.RowKit
set_option linter.unusedVariables false
set_option linter.unusedSimpArgs false
theorem ret_agg3 {a b c a' b' c' : Int} (h1 : a = a') (h2 : b = b') (h3 : c = c') : Ending.returned (.agg #[.int .i64 a, .int .u8 b, .int .u8 c]) = .returned (.agg #[.int .i64 a', .int .u8 b', .int .u8 c']) := by subst h1 h2 h3; rfl

set_option maxHeartbeats 4000000 in
set_option maxRecDepth 100000 in
theorem first_c (b : Int) (w : World) : Calls Try.prog 89 #[.int .u8 b] w fun e w' => e = .returned (.agg #[.int .i64 (fSize b), .int .u8 (fLow b), .int .u8 (fTop b)]) ∧ Ext w w' := by
  go_enter Try.func89, Try.ntmps89
  go_wp2
  all_goals (go_returns; refine ⟨ret_agg3 ?_ ?_ ?_, ?_⟩)
  all_goals (try simp only [beq_iff_eq, beq_eq_false_iff_ne] at *)
  all_goals (try (first | unfold fSize | unfold fLow | unfold fTop))
  all_goals (try (repeat' (first | omega | split)))
  all_goals (repeat (first | exact Ext.refl _ | exact ‹Ext _ _› | refine Ext.alloc ?_ _ | refine Ext.drew ?_ | refine Ext.drewN ?_ _ | (refine Ext.setCell ?_ (by first | omega | (simp; done) | (simp; omega)) _) | refine Ext.trans ?_ ‹Ext _ _›))

end Go.Proofs.Ythjlhbblflmajaa
