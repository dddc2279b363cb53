/- The contract of LineColumns. -/
import Derived.Test.YtgapekdcoedmgaaW4
import Derived.Test.YtgapekdcoedmgaaR4b
namespace Go.Proofs.Ytgapekdcoedmgaa
open Go.RowKit
set_option linter.unusedVariables false
set_option linter.unusedSimpArgs false
set_option maxHeartbeats 4000000 in
set_option maxRecDepth 100000 in
theorem LineColumns_c (t : ByteArray) (p k col : Int) (ht : t.size ≤ 140737488351232) (hp : -9223372036854775808 ≤ p ∧ p ≤ 9223372036854775807) (hk : -9223372036854775808 ≤ k ∧ k ≤ 9223372036854775807) (hc : -9223372036854775808 ≤ col ∧ col ≤ 9223372036854775807) (w : World) : Calls Try.prog 8 #[.string t, .int .i64 p, .int .i64 k, .int .i64 col] w fun e w' => e = .returned (.bool true) ∧ Ext w w' := by
  by_cases hs : t.size ≤ 1000
  all_goals
    go_enter Try.func8, Try.ntmps8
    go_wp2_with (first | (go_at_call 22; refine (lives4_c _).mono ?_; rintro e w1 ⟨rfl, hx1⟩) | (go_at_call 30; refine (lcolumn_c _ _ _ (by omega)).mono ?_; rintro e w1 ⟨rfl, hx1⟩) | (go_at_call 32; refine (lat_c _ _ _ _ (by omega) hc.2).mono ?_; rintro e w1 ⟨rfl, hx1⟩) | (go_at_call 31; refine (r4column_c _ _ _ (by omega)).mono ?_; rintro e w1 ⟨rfl, hx1⟩) | (go_at_call 33; refine (r4at_c _ _ _ _ (by omega) hc).mono ?_; rintro e w1 ⟨rfl, hx1⟩))
    all_goals (go_ret; exact ⟨rfl, (by (repeat (first | exact Ext.refl _ | exact ‹Ext _ _› | refine Ext.alloc ?_ _ | refine Ext.drew ?_ | refine Ext.drewN ?_ _ | (refine Ext.setCell ?_ (by first | omega | (simp; done) | (simp; omega)) _) | refine Ext.trans ?_ ‹Ext _ _›)))⟩)

end Go.Proofs.Ytgapekdcoedmgaa
