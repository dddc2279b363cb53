/- The contracts of line.Clamp, line.Normal, line.First. -/
import Derived.Test.YtgapekdcoedmgaaL2
namespace Go.Proofs.Ytgapekdcoedmgaa
open Go.RowKit
set_option linter.unusedVariables false
set_option linter.unusedSimpArgs false

set_option maxHeartbeats 4000000 in
set_option maxRecDepth 100000 in
theorem clamp_c (s : ByteArray) (p : Int) (w : World) (hs : s.size ≤ 1099511627775) : Calls Try.prog 47 #[.string s, .int .i64 p] w fun e w' => e = .returned (.int .i64 (clampI (ls s) p)) ∧ Ext w w' := by
  rcases Bool.eq_false_or_eq_true (validL (ls s)) with hv | hv
  · have hd := downTo_le (ls s) (cutI (ls s) p)
    have hcut : (min (max p 0) (s.size : Int)) = ((cutI (ls s) p : Nat) : Int) := by unfold cutI; rw [ls_len]; omega
    have hcl : cutI (ls s) p ≤ s.size := by unfold cutI; rw [ls_len]; omega
    have Hc : Hid (clampI (ls s) p = if endsB (ls s) (downTo (ls s) (cutI (ls s) p)) = true ∧ lst (ls s) (downTo (ls s) (cutI (ls s) p)) < downTo (ls s) (cutI (ls s) p) then prevI (ls s) (downTo (ls s) (cutI (ls s) p)) else (downTo (ls s) (cutI (ls s) p) : Nat)) := Lib.hid (by unfold clampI; rw [if_pos hv])
    have Hp := Lib.hid (downTo_place hv)
    go_enter Try.func47, Try.ntmps47
    go_wp2_with (first | (go_at_call 15; refine (valid_c _ _ (by omega)).mono ?_; rintro e w1 ⟨rfl, hx1⟩))
    go_loopw [1] (fun v wr => ∃ j : Nat, j ≤ s.size ∧ v = .int .i64 j ∧ downTo (ls s) j = downTo (ls s) (cutI (ls s) p) ∧ Ext w wr) (fun v _ => (intOf v).toNat)
    case atStart => exact ⟨cutI (ls s) p, hcl, rfl, rfl, (by (repeat (first | exact Ext.refl _ | exact ‹Ext _ _› | refine Ext.alloc ?_ _ | refine Ext.drew ?_ | refine Ext.drewN ?_ _ | (refine Ext.setCell ?_ (by first | omega | (simp; done) | (simp; omega)) _) | refine Ext.trans ?_ ‹Ext _ _›)))⟩
    case round =>
      obtain ⟨j, hj, rfl, hok, hx⟩ := hrel
      have Hok := Lib.hid hok
      clear hok hcut
      rcases Bool.eq_false_or_eq_true (placeB (ls s) j) with hp | hp
      · have Hd := Lib.hid (downTo_hit hp)
        have Hc2 : Hid (clampI (ls s) p = if endsB (ls s) j = true ∧ lst (ls s) j < j then prevI (ls s) j else (j : Nat)) := Lib.hid (by rw [Hc.out, ← Hok.out, Hd.out])
        clear Hc hd
        go_wp2_with (first | (go_at_call 36; refine (place_c _ _ _ (by omega)).mono ?_; rintro e w1 ⟨rfl, hx1⟩) | (go_at_call 62; refine (ends_c _ _ hj _ hs).mono ?_; rintro e w1 ⟨rfl, hx1⟩) | (go_at_call 51; refine (begin_c _ _ hj _ hs).mono ?_; rintro e w1 ⟨rfl, hx1⟩) | (go_at_call 18; refine (prev_c _ _ _ (by omega)).mono ?_; rintro e w1 ⟨rfl, hx1⟩))
        all_goals (go_ret; refine ⟨ret1 ?_, (by (repeat (first | exact Ext.refl _ | exact ‹Ext _ _› | refine Ext.alloc ?_ _ | refine Ext.drew ?_ | refine Ext.drewN ?_ _ | (refine Ext.setCell ?_ (by first | omega | (simp; done) | (simp; omega)) _) | refine Ext.trans ?_ ‹Ext _ _›)))⟩; rw [Hc2.out])
        all_goals first
          | (rw [if_pos ⟨by assumption, by omega⟩]; done)
          | (rw [if_neg (by intro h; have := h.2; omega)]; done)
          | (rw [if_neg (by intro h; simp_all)]; done)
      · have hj0 : 1 ≤ j := by
          rcases Nat.eq_zero_or_pos j with h | h
          · subst h; rw [place_zero hv] at hp; exact absurd hp (by simp)
          · exact h
        go_wp2_with (first | (go_at_call 36; refine (place_c _ _ _ (by omega)).mono ?_; rintro e w1 ⟨rfl, hx1⟩))
        go_roundw
        case rel =>
          refine ⟨j - 1, by omega, by go_num, ?_, (by (repeat (first | exact Ext.refl _ | exact ‹Ext _ _› | refine Ext.alloc ?_ _ | refine Ext.drew ?_ | refine Ext.drewN ?_ _ | (refine Ext.setCell ?_ (by first | omega | (simp; done) | (simp; omega)) _) | refine Ext.trans ?_ ‹Ext _ _›)))⟩
          rw [← Hok.out]
          obtain ⟨i, rfl⟩ : ∃ i, j = i + 1 := ⟨j - 1, by omega⟩
          rw [downTo_miss hp]; rfl
        case measure => simp [intOf]; omega
  · have Hc : Hid (clampI (ls s) p = 0) := Lib.hid (by unfold clampI; simp [hv])
    go_enter Try.func47, Try.ntmps47
    go_wp2_with (first | (go_at_call 15; refine (valid_c _ _ (by omega)).mono ?_; rintro e w1 ⟨rfl, hx1⟩))
    go_ret
    exact ⟨ret1 Hc.out.symm, (by (repeat (first | exact Ext.refl _ | exact ‹Ext _ _› | refine Ext.alloc ?_ _ | refine Ext.drew ?_ | refine Ext.drewN ?_ _ | (refine Ext.setCell ?_ (by first | omega | (simp; done) | (simp; omega)) _) | refine Ext.trans ?_ ‹Ext _ _›)))⟩

end Go.Proofs.Ytgapekdcoedmgaa
