/- The contracts of the reference calamusref03, from place to place. -/
import Derived.Test.YtgapekdcoedmgaaR3b
import Derived.Test.YtgapekdcoedmgaaMU4
namespace Go.Proofs.Ytgapekdcoedmgaa
open Go.RowKit
set_option linter.unusedVariables false
set_option linter.unusedSimpArgs false
set_option maxHeartbeats 4000000 in
set_option maxRecDepth 100000 in
theorem rnext_c (s : ByteArray) (p : Int) (w : World) (hs : s.size ≤ 1099511627775) : Calls Try.prog 35 #[.string s, .int .i64 p] w fun e w' => e = .returned (.int .i64 (nextI (ls s) p)) ∧ Ext w w' := by
  have hsl := splitI_len (ls s)
  rw [ls_len] at hsl
  rcases place_cases s p with hp | ⟨k, rfl, hk, hp, hv⟩
  · have hf := find_bad hp
    have Hn : Hid (nextI (ls s) p = -1) := Lib.hid (by unfold nextI; simp [hp])
    go_enter Try.func35, Try.ntmps35
    go_wp2_with (first | (go_at_call 55; refine (rsplit_c _ _ hs).mono ?_; rintro e w1 ⟨a, cap, rfl, hown, hx1⟩) | (go_at_call 54; refine (rfind_c _ _ (splitI (ls s)) _ _ (OwnI.rd (by assumption)) (by omega)).mono ?_; rintro e w1 ⟨rfl, hx1⟩))
    all_goals (go_ret; exact ⟨ret1 Hn.out.symm, (by (repeat (first | exact Ext.refl _ | exact ‹Ext _ _› | refine Ext.alloc ?_ _ | refine Ext.drew ?_ | refine Ext.drewN ?_ _ | (refine Ext.setCell ?_ (by first | omega | (simp; done) | (simp; omega)) _) | refine Ext.trans ?_ ‹Ext _ _›)))⟩)
  · have hf := find_at hp
    by_cases hlt : k < (ls s).length
    · obtain ⟨h1, h2⟩ := next_at hp hlt
      obtain ⟨m, hm⟩ : ∃ m, m = (plcTo (ls s) k).length := ⟨_, rfl⟩
      rw [← hm] at hf h1 h2
      have H2 := Lib.hid h2
      have h3 : ((m : Int) + 1 == ((splitI (ls s)).length : Int)) = false := by simp; omega
      clear hm h2 hp hlt
      go_enter Try.func35, Try.ntmps35
      go_wp2_with (first | (go_at_call 55; refine (rsplit_c _ _ hs).mono ?_; rintro e w1 ⟨a, cap, rfl, hown, hx1⟩) | (go_at_call 54; refine (rfind_c _ _ (splitI (ls s)) _ _ (OwnI.rd (by assumption)) (by omega)).mono ?_; rintro e w1 ⟨rfl, hx1⟩; obtain ⟨g, o, rfl, hc⟩ := (RdI.ext (OwnI.rd (by assumption)) hx1) (m + 1) h1))
      all_goals (go_ret; refine ⟨ret1 ?_, (by (repeat (first | exact Ext.refl _ | exact ‹Ext _ _› | refine Ext.alloc ?_ _ | refine Ext.drew ?_ | refine Ext.drewN ?_ _ | (refine Ext.setCell ?_ (by first | omega | (simp; done) | (simp; omega)) _) | refine Ext.trans ?_ ‹Ext _ _›)))⟩; rw [← H2.out]; simp [List.getD_eq_getElem?_getD, List.getElem?_eq_getElem h1])
    · obtain ⟨h1, h2⟩ := next_end hp (by rw [ls_len] at hlt ⊢; omega)
      obtain ⟨m, hm⟩ : ∃ m, m = (plcTo (ls s) k).length := ⟨_, rfl⟩
      rw [← hm] at hf h1
      have H2 := Lib.hid h2
      have h3 : ((m : Int) + 1 == ((splitI (ls s)).length : Int)) = true := by rw [h1]; simp
      have h4 : m + 1 ≤ (splitI (ls s)).length := by omega
      clear hm h2 hp hlt h1
      go_enter Try.func35, Try.ntmps35
      go_wp2_with (first | (go_at_call 55; refine (rsplit_c _ _ hs).mono ?_; rintro e w1 ⟨a, cap, rfl, hown, hx1⟩) | (go_at_call 54; refine (rfind_c _ _ (splitI (ls s)) _ _ (OwnI.rd (by assumption)) (by omega)).mono ?_; rintro e w1 ⟨rfl, hx1⟩))
      all_goals (go_ret; exact ⟨ret1 H2.out.symm, (by (repeat (first | exact Ext.refl _ | exact ‹Ext _ _› | refine Ext.alloc ?_ _ | refine Ext.drew ?_ | refine Ext.drewN ?_ _ | (refine Ext.setCell ?_ (by first | omega | (simp; done) | (simp; omega)) _) | refine Ext.trans ?_ ‹Ext _ _›)))⟩)

set_option maxHeartbeats 4000000 in
set_option maxRecDepth 100000 in
theorem rrune_c (s : ByteArray) (p : Int) (w : World) (hs : s.size ≤ 1099511627775) : Calls Try.prog 39 #[.string s, .int .i64 p] w fun e w' => e = .returned (.string ⟨(runeL (ls s) p).toArray⟩) ∧ Ext w w' := by
  by_cases hn : nextI (ls s) p < 0
  · have Hr := Lib.hid (rune_bad hn)
    go_enter Try.func39, Try.ntmps39
    go_wp2_with (first | (go_at_call 35; refine (rnext_c _ _ _ hs).mono ?_; rintro e w1 ⟨rfl, hx1⟩))
    go_ret
    exact ⟨by rw [Hr.out]; rfl, (by (repeat (first | exact Ext.refl _ | exact ‹Ext _ _› | refine Ext.alloc ?_ _ | refine Ext.drew ?_ | refine Ext.drewN ?_ _ | (refine Ext.setCell ?_ (by first | omega | (simp; done) | (simp; omega)) _) | refine Ext.trans ?_ ‹Ext _ _›)))⟩
  · have h0 : 0 ≤ nextI (ls s) p := by omega
    obtain ⟨k, n, rfl, h1, h2, h3, h4⟩ := rune_ok s p h0
    have H4 := Lib.hid h4
    clear hn h0 h4
    go_enter Try.func39, Try.ntmps39
    go_wp2_with (first | (go_at_call 35; refine (rnext_c _ _ _ hs).mono ?_; rintro e w1 ⟨rfl, hx1⟩))
    go_ret
    exact ⟨rets H4.out.symm, (by (repeat (first | exact Ext.refl _ | exact ‹Ext _ _› | refine Ext.alloc ?_ _ | refine Ext.drew ?_ | refine Ext.drewN ?_ _ | (refine Ext.setCell ?_ (by first | omega | (simp; done) | (simp; omega)) _) | refine Ext.trans ?_ ‹Ext _ _›)))⟩

set_option maxHeartbeats 4000000 in
set_option maxRecDepth 100000 in
theorem rcount_c (s : ByteArray) (w : World) (hs : s.size ≤ 1099511627775) : Calls Try.prog 52 #[.string s] w fun e w' => e = .returned (.int .i64 (countI (ls s))) ∧ Ext w w' := by
  have hsl := splitI_len (ls s)
  rw [ls_len] at hsl
  have Hc := Lib.hid (split_count (ls s))
  go_enter Try.func52, Try.ntmps52
  go_wp2_with (first | (go_at_call 55; refine (rsplit_c _ _ hs).mono ?_; rintro e w1 ⟨a, cap, rfl, hown, hx1⟩))
  all_goals (try simp only [beq_iff_eq, beq_eq_false_iff_ne] at *)
  all_goals (go_ret; refine ⟨ret1 ?_, (by (repeat (first | exact Ext.refl _ | exact ‹Ext _ _› | refine Ext.alloc ?_ _ | refine Ext.drew ?_ | refine Ext.drewN ?_ _ | (refine Ext.setCell ?_ (by first | omega | (simp; done) | (simp; omega)) _) | refine Ext.trans ?_ ‹Ext _ _›)))⟩; rw [← Hc.out])
  · rw [if_pos (by omega)]
  · rw [if_neg (by omega)]

end Go.Proofs.Ytgapekdcoedmgaa
