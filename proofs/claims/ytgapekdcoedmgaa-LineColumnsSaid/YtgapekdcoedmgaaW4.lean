/- The contracts of the statements of layer 4. -/
import Derived.Test.YtgapekdcoedmgaaL3
import Derived.Test.YtgapekdcoedmgaaR4
namespace Go.Proofs.Ytgapekdcoedmgaa
open Go.RowKit
set_option linter.unusedVariables false
set_option linter.unusedSimpArgs false
def tLive : ByteArray := ⟨#[97, 98, 10, 10, 99, 100]⟩
theorem live1 : lcountI (ls tLive) = 3 := by decide +kernel
theorem live2 : clampI (ls tLive) 2 = 1 := by decide +kernel
theorem live3 : clampI (ls tLive) 3 = 3 := by decide +kernel
theorem live4 : clampI (ls tLive) 9 = 5 := by decide +kernel
set_option maxHeartbeats 4000000 in
set_option maxRecDepth 100000 in
theorem lives4_c (w : World) : Calls Try.prog 22 #[] w fun e w' => e = .returned (.bool true) ∧ Ext w w' := by
  have h1 := live1
  have h2 := live2
  have h3 := live3
  have h4 := live4
  unfold tLive at h1 h2 h3 h4
  go_enter Try.func22, Try.ntmps22
  go_wp2_with (first | (go_at_call 23; refine (lcount_c _ _ (by decide)).mono ?_; rintro e w1 ⟨rfl, hx1⟩) | (go_at_call 47; refine (clamp_c _ _ _ (by decide)).mono ?_; rintro e w1 ⟨rfl, hx1⟩))
  go_ret
  exact ⟨rfl, (by (repeat (first | exact Ext.refl _ | exact ‹Ext _ _› | refine Ext.alloc ?_ _ | refine Ext.drew ?_ | refine Ext.drewN ?_ _ | (refine Ext.setCell ?_ (by first | omega | (simp; done) | (simp; omega)) _) | refine Ext.trans ?_ ‹Ext _ _›)))⟩
set_option maxHeartbeats 4000000 in
set_option maxRecDepth 100000 in
theorem LineParts_c (t : ByteArray) (k p : Int) (ht : t.size ≤ 140737488351232) (hk : -9223372036854775808 ≤ k ∧ k ≤ 9223372036854775807) (hp : -9223372036854775808 ≤ p ∧ p ≤ 9223372036854775807) (w : World) : Calls Try.prog 6 #[.string t, .int .i64 k, .int .i64 p] w fun e w' => e = .returned (.bool true) ∧ Ext w w' := by
  by_cases hs : t.size ≤ 1000
  all_goals
    go_enter Try.func6, Try.ntmps6
    go_wp2_with (first | (go_at_call 22; refine (lives4_c _).mono ?_; rintro e w1 ⟨rfl, hx1⟩) | (go_at_call 23; refine (lcount_c _ _ (by omega)).mono ?_; rintro e w1 ⟨rfl, hx1⟩) | (go_at_call 25; refine (lstart_c _ _ _ (by omega)).mono ?_; rintro e w1 ⟨rfl, hx1⟩) | (go_at_call 27; refine (lend_c _ _ _ (by omega)).mono ?_; rintro e w1 ⟨rfl, hx1⟩) | (go_at_call 16; refine (lof_c _ _ _ (by omega)).mono ?_; rintro e w1 ⟨rfl, hx1⟩) | (go_at_call 24; refine (r4count_c _ _ (by omega)).mono ?_; rintro e w1 ⟨rfl, hx1⟩) | (go_at_call 26; refine (r4start_c _ _ _ (by omega)).mono ?_; rintro e w1 ⟨rfl, hx1⟩) | (go_at_call 28; refine (r4end_c _ _ _ (by omega)).mono ?_; rintro e w1 ⟨rfl, hx1⟩) | (go_at_call 29; refine (r4of_c _ _ _ (by omega)).mono ?_; rintro e w1 ⟨rfl, hx1⟩))
    all_goals (go_ret; exact ⟨rfl, (by (repeat (first | exact Ext.refl _ | exact ‹Ext _ _› | refine Ext.alloc ?_ _ | refine Ext.drew ?_ | refine Ext.drewN ?_ _ | (refine Ext.setCell ?_ (by first | omega | (simp; done) | (simp; omega)) _) | refine Ext.trans ?_ ‹Ext _ _›)))⟩)

end Go.Proofs.Ytgapekdcoedmgaa
