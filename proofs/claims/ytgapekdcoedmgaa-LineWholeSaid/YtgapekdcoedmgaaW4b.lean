/- The contract of LineWhole. -/
import Derived.Test.YtgapekdcoedmgaaW4
import Derived.Test.YtgapekdcoedmgaaML3
namespace Go.Proofs.Ytgapekdcoedmgaa
open Go.RowKit
set_option linter.unusedVariables false
set_option linter.unusedSimpArgs false
theorem ls_app (a b : ByteArray) : ls (a ++ b) = ls a ++ ls b := by unfold ls; rw [ByteArray.data_append, Array.toList_append]
theorem ls_sub (s : ByteArray) (a b : Nat) : ls (s.extract a b) = ((ls s).drop a).take (b - a) := Lib.extract_data s a b
set_option maxHeartbeats 4000000 in
set_option maxRecDepth 100000 in
theorem LineWhole_valid (t : ByteArray) (p : Int) (hs : t.size ≤ 1000) (hv : validL (ls t) = true) (w : World) : Calls Try.prog 7 #[.string t, .int .i64 p] w fun e w' => e = .returned (.bool true) ∧ Ext w w' := by
  have hn : lcountI (ls t) = ((tens (ls t) + 1 : Nat) : Int) := by unfold lcountI; rw [if_pos hv]; simp
  obtain ⟨n, en⟩ : ∃ n, n = tens (ls t) + 1 := ⟨_, rfl⟩
  rw [← en] at hn
  have Hp := Lib.hid (pre_all (ls t))
  have Hw : Hid (∀ j, j < n → ∃ f e : Nat, startI (ls t) j = f ∧ endI (ls t) j = e ∧ f ≤ e ∧ e ≤ (ls t).length ∧ ofI (ls t) f = j ∧ ofI (ls t) e = j ∧ (ls t).take (pre (ls t) (j + 1)) = (if j = 0 then [] else (ls t).take (pre (ls t) j) ++ [10]) ++ ((ls t).drop f).take (e - f)) := Lib.hid (fun j hj => whole_at hv (by omega))
  rw [← en] at Hp
  have hn2 : n ≤ 1001 := by have := tens_le (ls t); rw [ls_len] at this; omega
  clear en
  go_enter Try.func7, Try.ntmps7
  go_wp2_with (first | (go_at_call 22; refine (lives4_c _).mono ?_; rintro e w1 ⟨rfl, hx1⟩) | (go_at_call 23; refine (lcount_c _ _ (by omega)).mono ?_; rintro e w1 ⟨rfl, hx1⟩) | (go_at_call 25; refine (lstart_c _ _ _ (by omega)).mono ?_; rintro e w1 ⟨rfl, hx1⟩) | (go_at_call 27; refine (lend_c _ _ _ (by omega)).mono ?_; rintro e w1 ⟨rfl, hx1⟩) | (go_at_call 16; refine (lof_c _ _ _ (by omega)).mono ?_; rintro e w1 ⟨rfl, hx1⟩) | (go_at_call 15; refine (valid_c _ _ (by omega)).mono ?_; rintro e w1 ⟨rfl, hx1⟩))
  go_loopw [5, 6] (fun av jv wr => ∃ (j : Nat) (a : ByteArray), j ≤ n ∧ jv = .int .i64 j ∧ av = .string a ∧ ls a = (ls t).take (pre (ls t) j) ∧ Ext w wr) (fun _ jv _ => n - (intOf jv).toNat)
  case atStart => exact ⟨0, ByteArray.empty, by omega, rfl, rfl, by simp [pre, ls], (by (repeat (first | exact Ext.refl _ | exact ‹Ext _ _› | refine Ext.alloc ?_ _ | refine Ext.drew ?_ | refine Ext.drewN ?_ _ | (refine Ext.setCell ?_ (by first | omega | (simp; done) | (simp; omega)) _) | refine Ext.trans ?_ ‹Ext _ _›)))⟩
  case round =>
    obtain ⟨j, a, hj, rfl, rfl, ha, hx⟩ := hrel
    have Ha := Lib.hid ha
    have hsz : a.size ≤ t.size := by
      have := congrArg List.length ha
      rw [ls_len, List.length_take, ls_len] at this; omega
    clear ha
    by_cases hlt : j < n
    · obtain ⟨f, e, g1, g2, g3, g4, g5, g6, g7⟩ := Hw.out j hlt
      rw [ls_len] at g4
      have G7 := Lib.hid g7
      clear g7
      rcases Nat.eq_zero_or_pos j with h0 | h0
      · subst h0
        have g1' : startI (ls t) 0 = f := g1
        have g2' : endI (ls t) 0 = e := g2
        have g5' : ofI (ls t) f = 0 := g5
        have g6' : ofI (ls t) e = 0 := g6
        clear g1 g2 g5 g6
        go_wp2_with (first | (go_at_call 22; refine (lives4_c _).mono ?_; rintro e w1 ⟨rfl, hx1⟩) | (go_at_call 23; refine (lcount_c _ _ (by omega)).mono ?_; rintro e w1 ⟨rfl, hx1⟩) | (go_at_call 25; refine (lstart_c _ _ _ (by omega)).mono ?_; rintro e w1 ⟨rfl, hx1⟩) | (go_at_call 27; refine (lend_c _ _ _ (by omega)).mono ?_; rintro e w1 ⟨rfl, hx1⟩) | (go_at_call 16; refine (lof_c _ _ _ (by omega)).mono ?_; rintro e w1 ⟨rfl, hx1⟩) | (go_at_call 15; refine (valid_c _ _ (by omega)).mono ?_; rintro e w1 ⟨rfl, hx1⟩))
        go_roundw
        case rel =>
          refine ⟨1, a ++ t.extract f e, by omega, by go_num, rfl, ?_, (by (repeat (first | exact Ext.refl _ | exact ‹Ext _ _› | refine Ext.alloc ?_ _ | refine Ext.drew ?_ | refine Ext.drewN ?_ _ | (refine Ext.setCell ?_ (by first | omega | (simp; done) | (simp; omega)) _) | refine Ext.trans ?_ ‹Ext _ _›)))⟩
          rw [ls_app, Ha.out, ls_sub]
          have := G7.out
          simpa [pre] using this.symm
        case measure => (simp [intOf] <;> omega)
      · skip
        go_wp2_with (first | (go_at_call 22; refine (lives4_c _).mono ?_; rintro e w1 ⟨rfl, hx1⟩) | (go_at_call 23; refine (lcount_c _ _ (by omega)).mono ?_; rintro e w1 ⟨rfl, hx1⟩) | (go_at_call 25; refine (lstart_c _ _ _ (by omega)).mono ?_; rintro e w1 ⟨rfl, hx1⟩) | (go_at_call 27; refine (lend_c _ _ _ (by omega)).mono ?_; rintro e w1 ⟨rfl, hx1⟩) | (go_at_call 16; refine (lof_c _ _ _ (by omega)).mono ?_; rintro e w1 ⟨rfl, hx1⟩) | (go_at_call 15; refine (valid_c _ _ (by omega)).mono ?_; rintro e w1 ⟨rfl, hx1⟩))
        go_roundw
        case rel =>
          refine ⟨j + 1, a ++ ⟨#[10]⟩ ++ t.extract f e, by omega, by go_num, rfl, ?_, (by (repeat (first | exact Ext.refl _ | exact ‹Ext _ _› | refine Ext.alloc ?_ _ | refine Ext.drew ?_ | refine Ext.drewN ?_ _ | (refine Ext.setCell ?_ (by first | omega | (simp; done) | (simp; omega)) _) | refine Ext.trans ?_ ‹Ext _ _›)))⟩
          rw [ls_app, ls_app, Ha.out, ls_sub, G7.out, if_neg (by omega)]
        case measure => (simp [intOf] <;> omega)
    · have ej : j = n := by omega
      subst ej
      have hat : ls a = ls t := by rw [Ha.out, Hp.out, List.take_length]
      have hat2 : a = t := by
        have : a.data = t.data := Array.toList_inj.1 hat
        cases a; cases t; simp_all
      subst hat2
      clear hat
      by_cases hp : 0 ≤ p ∧ p ≤ a.size
      · obtain ⟨k, rfl⟩ : ∃ k : Nat, p = k := ⟨p.toNat, by omega⟩
        obtain ⟨q1, q2, e, q3, q4, q5⟩ := start_of (l := ls a) (p := k) (by rw [ls_len]; omega) hv
        have q6 := lst_le (ls a) k
        have q7 : 0 ≤ ofI (ls a) k := by rw [q1]; omega
        clear q1
        go_wp2_with (first | (go_at_call 22; refine (lives4_c _).mono ?_; rintro e w1 ⟨rfl, hx1⟩) | (go_at_call 23; refine (lcount_c _ _ (by omega)).mono ?_; rintro e w1 ⟨rfl, hx1⟩) | (go_at_call 25; refine (lstart_c _ _ _ (by omega)).mono ?_; rintro e w1 ⟨rfl, hx1⟩) | (go_at_call 27; refine (lend_c _ _ _ (by omega)).mono ?_; rintro e w1 ⟨rfl, hx1⟩) | (go_at_call 16; refine (lof_c _ _ _ (by omega)).mono ?_; rintro e w1 ⟨rfl, hx1⟩) | (go_at_call 15; refine (valid_c _ _ (by omega)).mono ?_; rintro e w1 ⟨rfl, hx1⟩))
        all_goals (go_ret; exact ⟨rfl, (by (repeat (first | exact Ext.refl _ | exact ‹Ext _ _› | refine Ext.alloc ?_ _ | refine Ext.drew ?_ | refine Ext.drewN ?_ _ | (refine Ext.setCell ?_ (by first | omega | (simp; done) | (simp; omega)) _) | refine Ext.trans ?_ ‹Ext _ _›)))⟩)
      · skip
        go_wp2_with (first | (go_at_call 22; refine (lives4_c _).mono ?_; rintro e w1 ⟨rfl, hx1⟩) | (go_at_call 23; refine (lcount_c _ _ (by omega)).mono ?_; rintro e w1 ⟨rfl, hx1⟩) | (go_at_call 25; refine (lstart_c _ _ _ (by omega)).mono ?_; rintro e w1 ⟨rfl, hx1⟩) | (go_at_call 27; refine (lend_c _ _ _ (by omega)).mono ?_; rintro e w1 ⟨rfl, hx1⟩) | (go_at_call 16; refine (lof_c _ _ _ (by omega)).mono ?_; rintro e w1 ⟨rfl, hx1⟩) | (go_at_call 15; refine (valid_c _ _ (by omega)).mono ?_; rintro e w1 ⟨rfl, hx1⟩))
        all_goals (go_ret; exact ⟨rfl, (by (repeat (first | exact Ext.refl _ | exact ‹Ext _ _› | refine Ext.alloc ?_ _ | refine Ext.drew ?_ | refine Ext.drewN ?_ _ | (refine Ext.setCell ?_ (by first | omega | (simp; done) | (simp; omega)) _) | refine Ext.trans ?_ ‹Ext _ _›)))⟩)
set_option maxHeartbeats 4000000 in
set_option maxRecDepth 100000 in
theorem LineWhole_c (t : ByteArray) (p : Int) (ht : t.size ≤ 140737488351232) (hp : -9223372036854775808 ≤ p ∧ p ≤ 9223372036854775807) (w : World) : Calls Try.prog 7 #[.string t, .int .i64 p] w fun e w' => e = .returned (.bool true) ∧ Ext w w' := by
  by_cases hs : t.size ≤ 1000
  · rcases Bool.eq_false_or_eq_true (validL (ls t)) with hv | hv
    · exact LineWhole_valid t p hs hv w
    · go_enter Try.func7, Try.ntmps7
      go_wp2_with (first | (go_at_call 22; refine (lives4_c _).mono ?_; rintro e w1 ⟨rfl, hx1⟩) | (go_at_call 23; refine (lcount_c _ _ (by omega)).mono ?_; rintro e w1 ⟨rfl, hx1⟩) | (go_at_call 25; refine (lstart_c _ _ _ (by omega)).mono ?_; rintro e w1 ⟨rfl, hx1⟩) | (go_at_call 27; refine (lend_c _ _ _ (by omega)).mono ?_; rintro e w1 ⟨rfl, hx1⟩) | (go_at_call 16; refine (lof_c _ _ _ (by omega)).mono ?_; rintro e w1 ⟨rfl, hx1⟩) | (go_at_call 15; refine (valid_c _ _ (by omega)).mono ?_; rintro e w1 ⟨rfl, hx1⟩))
      go_ret
      exact ⟨rfl, (by (repeat (first | exact Ext.refl _ | exact ‹Ext _ _› | refine Ext.alloc ?_ _ | refine Ext.drew ?_ | refine Ext.drewN ?_ _ | (refine Ext.setCell ?_ (by first | omega | (simp; done) | (simp; omega)) _) | refine Ext.trans ?_ ‹Ext _ _›)))⟩
  · go_enter Try.func7, Try.ntmps7
    go_wp2_with (first | (go_at_call 22; refine (lives4_c _).mono ?_; rintro e w1 ⟨rfl, hx1⟩) | (go_at_call 23; refine (lcount_c _ _ (by omega)).mono ?_; rintro e w1 ⟨rfl, hx1⟩) | (go_at_call 25; refine (lstart_c _ _ _ (by omega)).mono ?_; rintro e w1 ⟨rfl, hx1⟩) | (go_at_call 27; refine (lend_c _ _ _ (by omega)).mono ?_; rintro e w1 ⟨rfl, hx1⟩) | (go_at_call 16; refine (lof_c _ _ _ (by omega)).mono ?_; rintro e w1 ⟨rfl, hx1⟩) | (go_at_call 15; refine (valid_c _ _ (by omega)).mono ?_; rintro e w1 ⟨rfl, hx1⟩))
    go_ret
    exact ⟨rfl, (by (repeat (first | exact Ext.refl _ | exact ‹Ext _ _› | refine Ext.alloc ?_ _ | refine Ext.drew ?_ | refine Ext.drewN ?_ _ | (refine Ext.setCell ?_ (by first | omega | (simp; done) | (simp; omega)) _) | refine Ext.trans ?_ ‹Ext _ _›)))⟩

end Go.Proofs.Ytgapekdcoedmgaa
