/- Joined by merge.py out of this work's texts: Q5, PHr, PS, PHw. -/
import Derived.Test.YthjlhbblflmajaaZHWords1
import Derived.Test.YthjlhbblflmajaaZHWords2
-- Printed by this work's xp.py out of the translation. Lean checks it.
namespace Go.Proofs.Ythjlhbblflmajaa.Q
open Go.RowKit Go.Proofs.YthjlhbblflmajaaW.PrintWords Go.Proofs.YthjlhbblflmajaaW.PrintLast Go.Proofs.YthjlhbblflmajaaW.PrintMore
attribute [local go_sem] max2_int min2_int max_two min_two max_three min_three max_four min_four   -- for this text's walks alone
set_option linter.unusedVariables false
set_option linter.unusedSimpArgs false


/-! ### calamusref15_Ends -/
def calamusref15_Ends.l0 : Nat → List Int → List Int → List Int → Int → Option (List Int)
  | 0, _, _, _, _ => none
  | k + 1, x5, x6, x7, x8 => if x8 < (x5.length : Int) then (if 0 ≤ x8 then (if x8 < (x6.length : Int) then (if (rd x6 x8) = 0 then (calamusref15_Ends.l0 k x5 x6 x7 (wrap64 (x8 + 1))) else (if 0 ≤ (wrap64 (x8 + 1)) then (if (wrap64 (x8 + 1)) < (x6.length : Int) then (if (rd x6 (wrap64 (x8 + 1))) = (rd x6 x8) then (calamusref15_Ends.l0 k x5 x6 x7 (wrap64 (x8 + 1))) else (if x7.length < 17592186044416 then (calamusref15_Ends.l0 k x5 x6 (x7 ++ [rd x5 x8]) (wrap64 (x8 + 1))) else (none))) else (none)) else (none))) else (none)) else (none)) else (some x7)
def calamusref15_Ends.f (k : Nat) (a0 : ByteArray) (a1 : Bool) : Option (List Int) := (calamusref15_row.f k a0 a1).bind fun bt233 => (calamusref15_Ends.l0 k bt233.1 bt233.2 ([] : List Int) 0)
theorem calamusref15_Ends.mono_l : ∀ k, (∀ y0 y1 y2 y3, LeO (calamusref15_Ends.l0 k y0 y1 y2 y3) (calamusref15_Ends.l0 (k + 1) y0 y1 y2 y3))
  | 0 => fun _ _ _ _ r h => by simp [calamusref15_Ends.l0] at h
  | k + 1 => by
    have ih0 := calamusref15_Ends.mono_l k
    · intro y0 y1 y2 y3
      unfold calamusref15_Ends.l0
      repeat' first
      | (with_reducible exact ih0 _ _ _ _)
      | (with_reducible exact calamusref15_row.mono _ _ _)
      | (with_reducible exact LeO.refl _)
      | (with_reducible exact LeO.none _)
      | (with_reducible refine LeO.ite ?_ ?_)
      | (with_reducible refine LeO.bind ?_ (fun _ => ?_))
      | exact ih0 _ _ _ _
      | exact calamusref15_row.mono _ _ _
      | exact LeO.none _
      | refine LeO.ite ?_ ?_
      | refine LeO.bind ?_ (fun _ => ?_)
theorem calamusref15_Ends.mono : ∀ a0 a1 k, LeO (calamusref15_Ends.f k a0 a1) (calamusref15_Ends.f (k + 1) a0 a1) := by
  intro a0 a1 k
  have ih0 := calamusref15_Ends.mono_l k
  unfold calamusref15_Ends.f
  repeat' first
      | (with_reducible exact ih0 _ _ _ _)
      | (with_reducible exact calamusref15_row.mono _ _ _)
      | (with_reducible exact LeO.refl _)
      | (with_reducible exact LeO.none _)
      | (with_reducible refine LeO.ite ?_ ?_)
      | (with_reducible refine LeO.bind ?_ (fun _ => ?_))
      | exact ih0 _ _ _ _
      | exact calamusref15_row.mono _ _ _
      | exact LeO.none _
      | refine LeO.ite ?_ ?_
      | refine LeO.bind ?_ (fun _ => ?_)
set_option maxHeartbeats 8000000 in
set_option maxRecDepth 100000 in
theorem calamusref15_Ends.calls (k : Nat) (a0 : ByteArray) (a1 : Bool) (r : List Int) (w : World) (h : calamusref15_Ends.f k a0 a1 = some r) :
    Calls Try.prog 40 #[.string a0, .bool a1] w fun e w' => ∃ v0_ : Value, e = .returned (v0_) ∧ Kd.R (Kd.int .i64) 3 w' w.heap.size (fun _ => True) v0_ r ∧ Below w.heap.size w w' := by
  have HB := Aside0.mk (Below.refl w.heap.size w)
  have H : ((calamusref15_row.f k a0 a1).bind fun bt233 => (calamusref15_Ends.l0 k bt233.1 bt233.2 ([] : List Int) 0)) = some r := h
  clear h
  replace H := Option.bind_eq_some_iff.mp H
  obtain ⟨⟨t233, t234⟩, A30, H⟩ := H
  replace H : (calamusref15_Ends.l0 k t233 t234 ([] : List Int) 0) = some r := H
  have A3 := Aside0.mk A30
  clear A30
  have H' := Aside0.mk H
  clear H
  go_enter Try.func40, Try.ntmps40
  go_wp2_with (first | (go_at_call 59; (with_reducible refine (calamusref15_row.calls k a0 a1 t233 t234 _ A3.out).mono ?_); rintro e w4 ⟨v235, v237, rfl, ho0, ho1, hb⟩; have n0_ := Aside0.mk (Kd.R_lower ho0 (below_size (by repeat (first | (with_reducible first | exact HB.out | apply below_alloc | apply pw_below_drewN | apply below_drew1) | exact HB.out)))); have n1_ := Aside0.mk (Kd.R_lower ho1 (below_size (by repeat (first | (with_reducible first | exact HB.out | apply below_alloc | apply pw_below_drewN | apply below_drew1) | exact HB.out)))); have n2_ := Aside0.mk (below_step (by repeat (first | (with_reducible first | exact HB.out | apply below_alloc | apply pw_below_drewN | apply below_drew1) | exact HB.out)) hb); clear HB; have HO236 := n0_; have HO238 := n1_; have HB := n2_; clear n0_ n1_ n2_; (try clear hb); (try clear hb2); (try clear hk); (try clear hi); (try clear ho0); (try clear ho1)))
  repeat (go_quiet (fail); try go_wp2_with (first | (go_at_call 59; (with_reducible refine (calamusref15_row.calls k a0 a1 t233 t234 _ A3.out).mono ?_); rintro e w4 ⟨v235, v237, rfl, ho0, ho1, hb⟩; have n0_ := Aside0.mk (Kd.R_lower ho0 (below_size (by repeat (first | (with_reducible first | exact HB.out | apply below_alloc | apply pw_below_drewN | apply below_drew1) | exact HB.out)))); have n1_ := Aside0.mk (Kd.R_lower ho1 (below_size (by repeat (first | (with_reducible first | exact HB.out | apply below_alloc | apply pw_below_drewN | apply below_drew1) | exact HB.out)))); have n2_ := Aside0.mk (below_step (by repeat (first | (with_reducible first | exact HB.out | apply below_alloc | apply pw_below_drewN | apply below_drew1) | exact HB.out)) hb); clear HB; have HO236 := n0_; have HO238 := n1_; have HB := n2_; clear n0_ n1_ n2_; (try clear hb); (try clear hb2); (try clear hk); (try clear hi); (try clear ho0); (try clear ho1))))
  go_loopg [7, 8] k (fun kq v7 v8 w' => ∃ (x7_1 : List Int) (x8_1 : Int), v8 = .int .i64 x8_1 ∧ Aside0 (calamusref15_Ends.l0 kq t233 t234 x7_1 x8_1 = some r) ∧ Aside0 (kq ≤ k) ∧ Aside0 (Kd.R (Kd.int .i64) 3 w' w.heap.size (fun k_ => some k_ ≠ (v237 : Value).ownBlock ∧ some k_ ≠ (v7 : Value).ownBlock) v235 t233) ∧ Aside0 (Kd.R (Kd.int .i64) 3 w' w.heap.size (fun k_ => some k_ ≠ (v235 : Value).ownBlock ∧ some k_ ≠ (v7 : Value).ownBlock) v237 t234) ∧ Aside0 (Kd.R (Kd.int .i64) 3 w' w.heap.size (fun k_ => some k_ ≠ (v235 : Value).ownBlock ∧ some k_ ≠ (v237 : Value).ownBlock) v7 x7_1) ∧ Aside0 (Below w.heap.size w w'))
  case atStart => exact ⟨(([] : List Int)), (0), (by first | rfl | (simp; done) | (simp [*]; done)), H', ⟨Nat.le_refl _⟩, ⟨by (with_reducible repeat (first | apply Kd.R_alloc | apply Kd.R_drewN | apply Kd.R_drew)); exact Kd.R_mono HO236.out (fun _ hk => ⟨hk, (by simp [Value.ownBlock])⟩)⟩, ⟨by (with_reducible repeat (first | apply Kd.R_alloc | apply Kd.R_drewN | apply Kd.R_drew)); exact Kd.R_mono HO238.out (fun _ hk => ⟨hk, (by simp [Value.ownBlock])⟩)⟩, ⟨by first | exact Kd.R_nil _ _ _ _ _ | exact Kd.N_nil _ _ _ _ _ | exact Kd.V_nil _ _ _ _ _ | exact Kd.Q_nil _ _ _ _ _ | exact Kd.S_nil _ _ _ _ _⟩, ⟨by repeat (first | (with_reducible first | exact HB.out | apply below_alloc | apply pw_below_drewN | apply below_drew1) | exact HB.out)⟩⟩
  case round =>
    clear H'
    try clear p2
    try clear c4
    obtain ⟨x7_1, x8_1, rfl, HA, HK1, HO_5, HO_6, HO_7, HB⟩ := hrel
    cases gk with
    | zero => exact absurd HA.out (by simp [calamusref15_Ends.l0])
    | succ k1 =>
      have H := HA.out
      clear HA
      simp only [calamusref15_Ends.l0] at H
      by_cases c5 : x8_1 < (t233.length : Int)
      · rw [if_pos c5] at H
        have c5b0 : decide (x8_1 < (t233.length : Int)) = true := decide_eq_true c5
        clear c5
        by_cases c6 : 0 ≤ x8_1
        · rw [if_pos c6] at H
          have c6b0 : decide (0 ≤ x8_1) = true := decide_eq_true c6
          clear c6
          by_cases c7 : x8_1 < (t234.length : Int)
          · rw [if_pos c7] at H
            have c7b0 : decide (x8_1 < (t234.length : Int)) = true := decide_eq_true c7
            clear c7
            by_cases c8 : (rd t234 x8_1) = 0
            · rw [if_pos c8] at H
              have c8b0 : ((rd t234 x8_1) == 0) = true := beq_iff_eq.mpr c8
              have c8b1 : ((rd t234 x8_1) != 0) = false := bne_eq_false_iff_eq.mpr c8
              clear c8
              have H' := Aside0.mk H
              clear H
              obtain ⟨Ao9, co9, eo9⟩ := Kd.R_slice HO_5.out
              subst eo9
              obtain ⟨Ao10, co10, eo10⟩ := Kd.R_slice HO_6.out
              subst eo10
              have p239 : 0 ≤ (x8_1 : Int) := of_decide_eq_true (by first | (with_reducible assumption) | assumption)
              have q239 : x8_1 < (t234.length : Int) := of_decide_eq_true (by first | (with_reducible assumption) | assumption)
              obtain ⟨ad239, e239, hx239_0⟩ := Kd.at_int (Kd.R_reads' HO_6.out).2.2 x8_1 p239 q239
              cases e239
              replace p239 := eq_true p239
              replace q239 := eq_true q239
              go_wp2
              repeat (go_quiet (fail); try go_wp2)
              go_roundg k1
              case measure => have := HK1.out; omega
              case rel => exact ⟨(x7_1), (wrap64 (x8_1 + 1)), (by first | rfl | (simp; done) | (simp [*]; done)), H', ⟨by have := HK1.out; omega⟩, ⟨by (with_reducible repeat (first | apply Kd.R_alloc | apply Kd.R_drewN | apply Kd.R_drew)); exact HO_5.out⟩, ⟨by (with_reducible repeat (first | apply Kd.R_alloc | apply Kd.R_drewN | apply Kd.R_drew)); exact HO_6.out⟩, ⟨by (with_reducible repeat (first | apply Kd.R_alloc | apply Kd.R_drewN | apply Kd.R_drew)); exact HO_7.out⟩, ⟨by repeat (first | (with_reducible first | exact HB.out | apply below_alloc | apply pw_below_drewN | apply below_drew1) | exact HB.out)⟩⟩
            · rw [if_neg c8] at H
              have c8b0 : ((rd t234 x8_1) == 0) = false := beq_eq_false_iff_ne.mpr c8
              have c8b1 : ((rd t234 x8_1) != 0) = true := bne_iff_ne.mpr c8
              obtain ⟨ji11, hji11⟩ : ∃ j_ : Int, (wrap64 (x8_1 + 1)) = j_ := ⟨_, rfl⟩
              replace H : (if 0 ≤ (ji11) then (if (ji11) < (t234.length : Int) then (if (rd t234 (ji11)) = (rd t234 x8_1) then (calamusref15_Ends.l0 k1 t233 t234 x7_1 ji11) else (if x7_1.length < 17592186044416 then (calamusref15_Ends.l0 k1 t233 t234 (x7_1 ++ [rd t233 x8_1]) ji11) else (none))) else (none)) else (none)) = some r := by first | (rw [hji11] at H; exact H) | (simp only [hji11] at H ⊢; exact H)
              have hji11w : (IntKind.i64.wrap (x8_1 + 1)) = ji11 := (i64_w _).trans hji11
              by_cases c12 : 0 ≤ (ji11)
              · rw [if_pos c12] at H
                have c12b0 : decide (0 ≤ (ji11)) = true := decide_eq_true c12
                clear c12
                by_cases c13 : (ji11) < (t234.length : Int)
                · rw [if_pos c13] at H
                  have c13b0 : decide ((ji11) < (t234.length : Int)) = true := decide_eq_true c13
                  clear c13
                  by_cases c14 : (rd t234 (ji11)) = (rd t234 x8_1)
                  · rw [if_pos c14] at H
                    have c14b0 : ((rd t234 (ji11)) == (rd t234 x8_1)) = true := beq_iff_eq.mpr c14
                    have c14b1 : ((rd t234 (ji11)) != (rd t234 x8_1)) = false := bne_eq_false_iff_eq.mpr c14
                    clear c14
                    have H' := Aside0.mk H
                    clear H
                    obtain ⟨Ao15, co15, eo15⟩ := Kd.R_slice HO_5.out
                    subst eo15
                    obtain ⟨Ao16, co16, eo16⟩ := Kd.R_slice HO_6.out
                    subst eo16
                    have p239 : 0 ≤ (x8_1 : Int) := of_decide_eq_true (by first | (with_reducible assumption) | assumption)
                    have q239 : x8_1 < (t234.length : Int) := of_decide_eq_true (by first | (with_reducible assumption) | assumption)
                    obtain ⟨ad239, e239, hx239_0⟩ := Kd.at_int (Kd.R_reads' HO_6.out).2.2 x8_1 p239 q239
                    cases e239
                    replace p239 := eq_true p239
                    replace q239 := eq_true q239
                    have p240 : 0 ≤ ((ji11) : Int) := of_decide_eq_true (by first | (with_reducible assumption) | assumption)
                    have q240 : (ji11) < (t234.length : Int) := of_decide_eq_true (by first | (with_reducible assumption) | assumption)
                    obtain ⟨ad240, e240, hx240_0⟩ := Kd.at_int (Kd.R_reads' HO_6.out).2.2 (ji11) p240 q240
                    obtain rfl : ad239 = ad240 := (by injection e240)
                    replace p240 := eq_true p240
                    replace q240 := eq_true q240
                    have p241 : 0 ≤ (x8_1 : Int) := of_decide_eq_true (by first | (with_reducible assumption) | assumption)
                    have q241 : x8_1 < (t234.length : Int) := of_decide_eq_true (by first | (with_reducible assumption) | assumption)
                    obtain ⟨ad241, e241, hx241_0⟩ := Kd.at_int (Kd.R_reads' HO_6.out).2.2 x8_1 p241 q241
                    obtain rfl : ad239 = ad241 := (by injection e241)
                    replace p241 := eq_true p241
                    replace q241 := eq_true q241
                    go_wp2
                    repeat (go_quiet (fail); try go_wp2)
                    go_roundg k1
                    case measure => have := HK1.out; omega
                    case rel => exact ⟨(x7_1), (ji11), (by first | rfl | (simp; done) | (simp only [← hji11] <;> (first | rfl | simp)) | (simp [*]; done)), H', ⟨by have := HK1.out; omega⟩, ⟨by (with_reducible repeat (first | apply Kd.R_alloc | apply Kd.R_drewN | apply Kd.R_drew)); exact HO_5.out⟩, ⟨by (with_reducible repeat (first | apply Kd.R_alloc | apply Kd.R_drewN | apply Kd.R_drew)); exact HO_6.out⟩, ⟨by (with_reducible repeat (first | apply Kd.R_alloc | apply Kd.R_drewN | apply Kd.R_drew)); exact HO_7.out⟩, ⟨by repeat (first | (with_reducible first | exact HB.out | apply below_alloc | apply pw_below_drewN | apply below_drew1) | exact HB.out)⟩⟩
                  · rw [if_neg c14] at H
                    have c14b0 : ((rd t234 (ji11)) == (rd t234 x8_1)) = false := beq_eq_false_iff_ne.mpr c14
                    have c14b1 : ((rd t234 (ji11)) != (rd t234 x8_1)) = true := bne_iff_ne.mpr c14
                    by_cases c17 : x7_1.length < 17592186044416
                    · rw [if_pos c17] at H
                      have LMc17 := Aside0.mk c17
                      clear c17
                      obtain ⟨y243, hy243⟩ : ∃ y_ : List Int, y_ = (x7_1 ++ [rd t233 x8_1]) := ⟨_, rfl⟩
                      replace H : (calamusref15_Ends.l0 k1 t233 t234 y243 ji11) = some r := by first | (rw [hy243]; with_reducible exact H) | (have H2_ := (Option.bind_some _ _).symm.trans H; rw [hy243]; with_reducible exact H2_) | (have H2_ := (Option.bind_some _ _).symm.trans H; with_reducible exact H2_) | with_reducible exact H | (rw [hy243]; exact H) | exact H
                      have Ny243 := Aside0.mk hy243
                      clear hy243
                      have H' := Aside0.mk H
                      clear H
                      obtain ⟨Ao18, co18, eo18⟩ := Kd.R_slice HO_5.out
                      subst eo18
                      obtain ⟨Ao19, co19, eo19⟩ := Kd.R_slice HO_6.out
                      subst eo19
                      have p239 : 0 ≤ (x8_1 : Int) := of_decide_eq_true (by first | (with_reducible assumption) | assumption)
                      have q239 : x8_1 < (t234.length : Int) := of_decide_eq_true (by first | (with_reducible assumption) | assumption)
                      obtain ⟨ad239, e239, hx239_0⟩ := Kd.at_int (Kd.R_reads' HO_6.out).2.2 x8_1 p239 q239
                      cases e239
                      replace p239 := eq_true p239
                      replace q239 := eq_true q239
                      have p240 : 0 ≤ ((ji11) : Int) := of_decide_eq_true (by first | (with_reducible assumption) | assumption)
                      have q240 : (ji11) < (t234.length : Int) := of_decide_eq_true (by first | (with_reducible assumption) | assumption)
                      obtain ⟨ad240, e240, hx240_0⟩ := Kd.at_int (Kd.R_reads' HO_6.out).2.2 (ji11) p240 q240
                      obtain rfl : ad239 = ad240 := (by injection e240)
                      replace p240 := eq_true p240
                      replace q240 := eq_true q240
                      have p241 : 0 ≤ (x8_1 : Int) := of_decide_eq_true (by first | (with_reducible assumption) | assumption)
                      have q241 : x8_1 < (t234.length : Int) := of_decide_eq_true (by first | (with_reducible assumption) | assumption)
                      obtain ⟨ad241, e241, hx241_0⟩ := Kd.at_int (Kd.R_reads' HO_6.out).2.2 x8_1 p241 q241
                      obtain rfl : ad239 = ad241 := (by injection e241)
                      replace p241 := eq_true p241
                      replace q241 := eq_true q241
                      have p242 : 0 ≤ (x8_1 : Int) := of_decide_eq_true (by first | (with_reducible assumption) | assumption)
                      have q242 : x8_1 < (t233.length : Int) := of_decide_eq_true (by first | (with_reducible assumption) | assumption)
                      obtain ⟨ad242, e242, hx242_0⟩ := Kd.at_int (Kd.R_reads' HO_5.out).2.2 x8_1 p242 q242
                      cases e242
                      replace p242 := eq_true p242
                      replace q242 := eq_true q242
                      go_wp2
                      repeat (go_quiet (fail); try go_wp2_with (first | ((with_reducible refine gate_builtin (b := .append) (xs := #[.tmp 38, .tmp 43]) rfl ?_); at_builtin; refine Kd.R_append (Kd.int .i64) (w0 := w) w.heap.size rfl (.tmp 38) (.tmp 43) 47 3 (.int .i64 0) 8 rfl Try.underlying47 info3 rfl (by decide) (by omega) u7 x7_1 (rd t233 x8_1) [.int .i64 (rd t233 x8_1)] (fun k_ => some k_ ≠ (.slice (some ad242) t233.length co18 : Value).ownBlock ∧ some k_ ≠ (.slice (some ad239) t234.length co19 : Value).ownBlock) (fun _ => False) rfl rfl ?aP (fun _ hk => hk.elim) ?aF ?aO ?aB ?aS ?aL ?_; (case aP => exact rfl); (case aB => exact (by repeat (first | (with_reducible first | exact HB.out | apply below_alloc | apply pw_below_drewN | apply below_drew1) | exact HB.out))); (case aF => exact (fun k_ hk => ⟨Kd.fresh' (Kd.R_lt (by (with_reducible repeat (first | apply Kd.R_alloc | apply Kd.R_drewN | apply Kd.R_drew)); exact HO_5.out)) k_ hk, Kd.fresh' (Kd.R_lt (by (with_reducible repeat (first | apply Kd.R_alloc | apply Kd.R_drewN | apply Kd.R_drew)); exact HO_6.out)) k_ hk⟩)); (case aO => exact (by (with_reducible repeat (first | apply Kd.R_alloc | apply Kd.R_drewN | apply Kd.R_drew)); exact HO_7.out)); (case aS => exact (below_size (by repeat (first | (with_reducible first | exact HB.out | apply below_alloc | apply pw_below_drewN | apply below_drew1) | exact HB.out)))); (case aL => have := LMc17.out; omega); intro v244 w20 ho hb hg hat; rw [← Ny243.out] at ho; have n0_ := Aside0.mk (Kd.R_after (ok := (fun k_ => some k_ ≠ (.slice (some ad239) t234.length co19 : Value).ownBlock)) (by (with_reducible repeat (first | apply Kd.R_alloc | apply Kd.R_drewN | apply Kd.R_drew)); exact HO_5.out) hg hat); have n1_ := Aside0.mk (Kd.R_after (ok := (fun k_ => some k_ ≠ (.slice (some ad242) t233.length co18 : Value).ownBlock)) (by (with_reducible repeat (first | apply Kd.R_alloc | apply Kd.R_drewN | apply Kd.R_drew)); exact HO_6.out) hg hat); have n2_ := Aside0.mk (hb); have n3_ := Aside0.mk (ho); clear HO_5; clear HO_6; clear HB; clear HO_7; have HO_5 := n0_; have HO_6 := n1_; have HB := n2_; have HO245 := n3_; clear n0_ n1_ n2_ n3_; clear ho hb hg hat)))
                      go_roundg k1
                      case measure => have := HK1.out; omega
                      case rel => exact ⟨(y243), (ji11), (by first | rfl | (simp; done) | (simp only [← hji11] <;> (first | rfl | simp)) | (simp [*]; done)), H', ⟨by have := HK1.out; omega⟩, ⟨by (with_reducible repeat (first | apply Kd.R_alloc | apply Kd.R_drewN | apply Kd.R_drew)); exact HO_5.out⟩, ⟨by (with_reducible repeat (first | apply Kd.R_alloc | apply Kd.R_drewN | apply Kd.R_drew)); exact HO_6.out⟩, ⟨by (with_reducible repeat (first | apply Kd.R_alloc | apply Kd.R_drewN | apply Kd.R_drew)); exact HO245.out⟩, ⟨by repeat (first | (with_reducible first | exact HB.out | apply below_alloc | apply pw_below_drewN | apply below_drew1) | exact HB.out)⟩⟩
                    · rw [if_neg c17] at H
                      exact absurd H (by simp)
                · rw [if_neg c13] at H
                  exact absurd H (by simp)
              · rw [if_neg c12] at H
                exact absurd H (by simp)
          · rw [if_neg c7] at H
            exact absurd H (by simp)
        · rw [if_neg c6] at H
          exact absurd H (by simp)
      · rw [if_neg c5] at H
        have c5b0 : decide (x8_1 < (t233.length : Int)) = false := decide_eq_false c5
        clear c5
        obtain rfl := Option.some.inj H
        obtain ⟨Ao21, co21, eo21⟩ := Kd.R_slice HO_5.out
        subst eo21
        go_wp2
        repeat (go_quiet (fail); try go_wp2)
        go_ret
        exact ⟨_, by first | rfl | (simp [errW_none, errW_some] <;> rfl) | (simp [*, errW_none, errW_some] <;> rfl), by (with_reducible repeat (first | apply Kd.R_alloc | apply Kd.R_drewN | apply Kd.R_drew)); exact Kd.R_mono HO_7.out (fun _ hk => trivial), by repeat (first | (with_reducible first | exact HB.out | apply below_alloc | apply pw_below_drewN | apply below_drew1) | exact HB.out)⟩

/-! ### calamuslaw15_HopWords -/
def calamuslaw15_HopWords.f (k : Nat) (a0 : ByteArray) (a1 : Bool) : Option (Bool) := if (a0.size : Int) > 200 then ((calamuslaw15_lives.f k).bind fun t246 => (some t246)) else ((hop_Starts.f a0 a1).bind fun t247 => ((calamusref15_Starts.f k a0 a1).bind fun t250 => ((calamusref01_Same.f k t247 t250).bind fun t253 => (if t253 = true then ((hop_Ends.f a0 a1).bind fun t254 => ((calamusref15_Ends.f k a0 a1).bind fun t257 => ((calamusref01_Same.f k t254 t257).bind fun t260 => (if t260 = true then ((calamuslaw15_lives.f k).bind fun t261 => (some t261)) else (some false))))) else (some false)))))
theorem calamuslaw15_HopWords.mono : ∀ a0 a1 k, LeO (calamuslaw15_HopWords.f k a0 a1) (calamuslaw15_HopWords.f (k + 1) a0 a1) := by
  intro a0 a1 k
  unfold calamuslaw15_HopWords.f
  repeat' first
      | (with_reducible exact calamuslaw15_lives.mono _)
      | (with_reducible exact calamusref01_Same.mono _ _ _)
      | (with_reducible exact calamusref15_Ends.mono _ _ _)
      | (with_reducible exact calamusref15_Starts.mono _ _ _)
      | (with_reducible exact LeO.refl _)
      | (with_reducible exact LeO.none _)
      | (with_reducible refine LeO.ite ?_ ?_)
      | (with_reducible refine LeO.bind ?_ (fun _ => ?_))
      | exact calamuslaw15_lives.mono _
      | exact calamusref01_Same.mono _ _ _
      | exact calamusref15_Ends.mono _ _ _
      | exact calamusref15_Starts.mono _ _ _
      | exact LeO.none _
      | refine LeO.ite ?_ ?_
      | refine LeO.bind ?_ (fun _ => ?_)
set_option maxHeartbeats 8000000 in
set_option maxRecDepth 100000 in
theorem calamuslaw15_HopWords.calls (k : Nat) (a0 : ByteArray) (a1 : Bool) (r : Bool) (w : World) (h : calamuslaw15_HopWords.f k a0 a1 = some r) :
    Calls Try.prog 10 #[.string a0, .bool a1] w fun e w' => e = .returned (.bool r) ∧ Below w.heap.size w w' := by
  have HB := Aside0.mk (Below.refl w.heap.size w)
  have H : (if (a0.size : Int) > 200 then ((calamuslaw15_lives.f k).bind fun t246 => (some t246)) else ((hop_Starts.f a0 a1).bind fun t247 => ((calamusref15_Starts.f k a0 a1).bind fun t250 => ((calamusref01_Same.f k t247 t250).bind fun t253 => (if t253 = true then ((hop_Ends.f a0 a1).bind fun t254 => ((calamusref15_Ends.f k a0 a1).bind fun t257 => ((calamusref01_Same.f k t254 t257).bind fun t260 => (if t260 = true then ((calamuslaw15_lives.f k).bind fun t261 => (some t261)) else (some false))))) else (some false)))))) = some r := h
  clear h
  by_cases c3 : (a0.size : Int) > 200
  · rw [if_pos c3] at H
    have c3b0 : decide (200 < (a0.size : Int)) = true := decide_eq_true c3
    have c3b1 : decide (200 < a0.size) = true := decide_eq_true (by omega)
    clear c3
    replace H := Option.bind_eq_some_iff.mp H
    obtain ⟨t246, A40, H⟩ := H
    replace H : (some t246) = some r := H
    have A4 := Aside0.mk A40
    clear A40
    obtain rfl := Option.some.inj H
    go_enter Try.func10, Try.ntmps10
    go_wp2_with (first | ((with_reducible refine gate_callee (f := 36) rfl ?_); refine goesL_ (some 8) rfl rfl Try.func36 (by kernel_rfl) rfl #[] rfl (by (try simp only [List.map_toArray, List.map_cons, List.map_nil]); first | done | rfl | (simp only [List.length_drop, List.length_take]; rfl)) ?_; (with_reducible refine (calamuslaw15_lives.calls k  t246 _ A4.out).mono ?_); rintro e w5 ⟨rfl, hb⟩; refine ⟨_, rfl, ?_⟩; have n0_ := Aside0.mk (below_step (by repeat (first | (with_reducible first | exact HB.out | apply below_alloc | apply pw_below_drewN | apply below_drew1) | exact HB.out)) hb); clear HB; have HB := n0_; clear n0_; (try clear hb); (try clear hb2); (try clear hk); (try clear hi)))
    go_ret
    exact ⟨by first | rfl | (simp [errW_none, errW_some] <;> rfl) | (simp [*, errW_none, errW_some] <;> rfl), by repeat (first | (with_reducible first | exact HB.out | apply below_alloc | apply pw_below_drewN | apply below_drew1) | exact HB.out)⟩
  · rw [if_neg c3] at H
    have c3b0 : decide (200 < (a0.size : Int)) = false := decide_eq_false c3
    have c3b1 : decide (200 < a0.size) = false := decide_eq_false (by omega)
    clear c3
    replace H := Option.bind_eq_some_iff.mp H
    obtain ⟨t247, A60, H⟩ := H
    replace H : ((calamusref15_Starts.f k a0 a1).bind fun t250 => ((calamusref01_Same.f k t247 t250).bind fun t253 => (if t253 = true then ((hop_Ends.f a0 a1).bind fun t254 => ((calamusref15_Ends.f k a0 a1).bind fun t257 => ((calamusref01_Same.f k t254 t257).bind fun t260 => (if t260 = true then ((calamuslaw15_lives.f k).bind fun t261 => (some t261)) else (some false))))) else (some false)))) = some r := H
    have A6 := Aside0.mk A60
    clear A60
    replace H := Option.bind_eq_some_iff.mp H
    obtain ⟨t250, A70, H⟩ := H
    replace H : ((calamusref01_Same.f k t247 t250).bind fun t253 => (if t253 = true then ((hop_Ends.f a0 a1).bind fun t254 => ((calamusref15_Ends.f k a0 a1).bind fun t257 => ((calamusref01_Same.f k t254 t257).bind fun t260 => (if t260 = true then ((calamuslaw15_lives.f k).bind fun t261 => (some t261)) else (some false))))) else (some false))) = some r := H
    have A7 := Aside0.mk A70
    clear A70
    replace H := Option.bind_eq_some_iff.mp H
    obtain ⟨t253, A80, H⟩ := H
    replace H : (if t253 = true then ((hop_Ends.f a0 a1).bind fun t254 => ((calamusref15_Ends.f k a0 a1).bind fun t257 => ((calamusref01_Same.f k t254 t257).bind fun t260 => (if t260 = true then ((calamuslaw15_lives.f k).bind fun t261 => (some t261)) else (some false))))) else (some false)) = some r := H
    have A8 := Aside0.mk A80
    clear A80
    by_cases c9 : t253 = true
    · subst c9
      have H1 : ((hop_Ends.f a0 a1).bind fun t254 => ((calamusref15_Ends.f k a0 a1).bind fun t257 => ((calamusref01_Same.f k t254 t257).bind fun t260 => (if t260 = true then ((calamuslaw15_lives.f k).bind fun t261 => (some t261)) else (some false))))) = some r := by rw [if_pos rfl] at H; exact H
      clear H
      have H := H1
      clear H1
      replace H := Option.bind_eq_some_iff.mp H
      obtain ⟨t254, A100, H⟩ := H
      replace H : ((calamusref15_Ends.f k a0 a1).bind fun t257 => ((calamusref01_Same.f k t254 t257).bind fun t260 => (if t260 = true then ((calamuslaw15_lives.f k).bind fun t261 => (some t261)) else (some false)))) = some r := H
      have A10 := Aside0.mk A100
      clear A100
      replace H := Option.bind_eq_some_iff.mp H
      obtain ⟨t257, A110, H⟩ := H
      replace H : ((calamusref01_Same.f k t254 t257).bind fun t260 => (if t260 = true then ((calamuslaw15_lives.f k).bind fun t261 => (some t261)) else (some false))) = some r := H
      have A11 := Aside0.mk A110
      clear A110
      replace H := Option.bind_eq_some_iff.mp H
      obtain ⟨t260, A120, H⟩ := H
      replace H : (if t260 = true then ((calamuslaw15_lives.f k).bind fun t261 => (some t261)) else (some false)) = some r := H
      have A12 := Aside0.mk A120
      clear A120
      by_cases c13 : t260 = true
      · subst c13
        have H1 : ((calamuslaw15_lives.f k).bind fun t261 => (some t261)) = some r := by rw [if_pos rfl] at H; exact H
        clear H
        have H := H1
        clear H1
        replace H := Option.bind_eq_some_iff.mp H
        obtain ⟨t261, A140, H⟩ := H
        replace H : (some t261) = some r := H
        have A14 := Aside0.mk A140
        clear A140
        obtain rfl := Option.some.inj H
        go_enter Try.func10, Try.ntmps10
        go_wp2_with (first | ((with_reducible refine gate_callee (f := 37) rfl ?_); refine goesL_ (some 11) rfl rfl Try.func37 (by kernel_rfl) rfl #[.string a0, .bool a1] rfl (by (try simp only [List.map_toArray, List.map_cons, List.map_nil]); first | done | rfl | (simp only [List.length_drop, List.length_take]; rfl)) ?_; (with_reducible refine (hop_Starts.calls a0 a1 t247 _ A6.out).mono ?_); rintro e w15 ⟨v248, rfl, ho0, hb⟩; refine ⟨_, rfl, ?_⟩; have n0_ := Aside0.mk (Kd.R_lower ho0 (below_size (by repeat (first | (with_reducible first | exact HB.out | apply below_alloc | apply pw_below_drewN | apply below_drew1) | exact HB.out)))); have n1_ := Aside0.mk (below_step (by repeat (first | (with_reducible first | exact HB.out | apply below_alloc | apply pw_below_drewN | apply below_drew1) | exact HB.out)) hb); clear HB; have HO249 := n0_; have HB := n1_; clear n0_ n1_; (try clear hb); (try clear hb2); (try clear hk); (try clear hi); (try clear ho0)) | ((with_reducible refine gate_callee (f := 38) rfl ?_); refine goesL_ (some 14) rfl rfl Try.func38 (by kernel_rfl) rfl #[.string a0, .bool a1] rfl (by (try simp only [List.map_toArray, List.map_cons, List.map_nil]); first | done | rfl | (simp only [List.length_drop, List.length_take]; rfl)) ?_; (with_reducible refine (calamusref15_Starts.calls k a0 a1 t250 _ A7.out).mono ?_); rintro e w16 ⟨v251, rfl, ho0, hb⟩; refine ⟨_, rfl, ?_⟩; have n0_ := Aside0.mk (Kd.R_elder' (by (with_reducible repeat (first | apply Kd.R_alloc | apply Kd.R_drewN | apply Kd.R_drew)); exact HO249.out) (Kd.R_base ho0) hb); have n1_ := Aside0.mk (Kd.R_lower (Kd.R_new' ho0 (Kd.R_lt (by (with_reducible repeat (first | apply Kd.R_alloc | apply Kd.R_drewN | apply Kd.R_drew)); exact HO249.out))) (below_size (by repeat (first | (with_reducible first | exact HB.out | apply below_alloc | apply pw_below_drewN | apply below_drew1) | exact HB.out)))); have n2_ := Aside0.mk (below_step (by repeat (first | (with_reducible first | exact HB.out | apply below_alloc | apply pw_below_drewN | apply below_drew1) | exact HB.out)) hb); clear HO249; clear HB; have HO249 := n0_; have HO252 := n1_; have HB := n2_; clear n0_ n1_ n2_; (try clear hb); (try clear hb2); (try clear hk); (try clear hi); (try clear ho0); obtain ⟨Ao17, co17, eo17⟩ := Kd.R_slice HO249.out; subst eo17; obtain ⟨Ao18, co18, eo18⟩ := Kd.R_slice HO252.out; subst eo18) | ((with_reducible refine gate_callee (f := 30) rfl ?_); refine goesL_ (some 15) rfl rfl Try.func30 (by kernel_rfl) rfl #[.slice Ao17 t247.length co17, .slice Ao18 t250.length co18] rfl (by (try simp only [List.map_toArray, List.map_cons, List.map_nil]); first | done | rfl | (simp only [List.length_drop, List.length_take]; rfl)) ?_; (with_reducible refine (calamusref01_Same.calls k _ _ t247 _ _ t250 true _ ?side1 ?side2 ?side3 ?side4 A8.out).mono ?_); (case side1 => repeat (first | exact (Kd.R_reads' HO249.out).2.2 | (with_reducible refine Kd.C_alloc ?_ _) | (with_reducible refine Kd.C_drewN ?_ _) | (with_reducible refine Kd.C_drew ?_))); (case side2 => exact (Kd.R_reads' HO249.out).2.1); (case side3 => repeat (first | exact (Kd.R_reads' HO252.out).2.2 | (with_reducible refine Kd.C_alloc ?_ _) | (with_reducible refine Kd.C_drewN ?_ _) | (with_reducible refine Kd.C_drew ?_))); (case side4 => exact (Kd.R_reads' HO252.out).2.1); rintro e w' ⟨rfl, ⟨nd, rfl⟩⟩; refine ⟨_, rfl, ?_⟩) | (go_at_call 39; (with_reducible refine (hop_Ends.calls a0 a1 t254 _ A10.out).mono ?_); rintro e w19 ⟨v255, rfl, ho0, hb⟩; have n0_ := Aside0.mk (Kd.R_elder' (by (with_reducible repeat (first | apply Kd.R_alloc | apply Kd.R_drewN | apply Kd.R_drew)); exact HO249.out) (Kd.R_base ho0) hb); have n1_ := Aside0.mk (Kd.R_elder' (by (with_reducible repeat (first | apply Kd.R_alloc | apply Kd.R_drewN | apply Kd.R_drew)); exact HO252.out) (Kd.R_base ho0) hb); have n2_ := Aside0.mk (Kd.R_lower (Kd.R_new' (Kd.R_new' ho0 (Kd.R_lt (by (with_reducible repeat (first | apply Kd.R_alloc | apply Kd.R_drewN | apply Kd.R_drew)); exact HO249.out))) (Kd.R_lt (by (with_reducible repeat (first | apply Kd.R_alloc | apply Kd.R_drewN | apply Kd.R_drew)); exact HO252.out))) (below_size (by repeat (first | (with_reducible first | exact HB.out | apply below_alloc | apply pw_below_drewN | apply below_drew1) | exact HB.out)))); have n3_ := Aside0.mk (below_step (by repeat (first | (with_reducible first | exact HB.out | apply below_alloc | apply pw_below_drewN | apply below_drew1) | exact HB.out)) hb); clear HO249; clear HO252; clear HB; have HO249 := n0_; have HO252 := n1_; have HO256 := n2_; have HB := n3_; clear n0_ n1_ n2_ n3_; (try clear hb); (try clear hb2); (try clear hk); (try clear hi); (try clear ho0)) | (go_at_call 40; (with_reducible refine (calamusref15_Ends.calls k a0 a1 t257 _ A11.out).mono ?_); rintro e w20 ⟨v258, rfl, ho0, hb⟩; have n0_ := Aside0.mk (Kd.R_elder' (by (with_reducible repeat (first | apply Kd.R_alloc | apply Kd.R_drewN | apply Kd.R_drew)); exact HO249.out) (Kd.R_base ho0) hb); have n1_ := Aside0.mk (Kd.R_elder' (by (with_reducible repeat (first | apply Kd.R_alloc | apply Kd.R_drewN | apply Kd.R_drew)); exact HO252.out) (Kd.R_base ho0) hb); have n2_ := Aside0.mk (Kd.R_elder' (by (with_reducible repeat (first | apply Kd.R_alloc | apply Kd.R_drewN | apply Kd.R_drew)); exact HO256.out) (Kd.R_base ho0) hb); have n3_ := Aside0.mk (Kd.R_lower (Kd.R_new' (Kd.R_new' (Kd.R_new' ho0 (Kd.R_lt (by (with_reducible repeat (first | apply Kd.R_alloc | apply Kd.R_drewN | apply Kd.R_drew)); exact HO249.out))) (Kd.R_lt (by (with_reducible repeat (first | apply Kd.R_alloc | apply Kd.R_drewN | apply Kd.R_drew)); exact HO252.out))) (Kd.R_lt (by (with_reducible repeat (first | apply Kd.R_alloc | apply Kd.R_drewN | apply Kd.R_drew)); exact HO256.out))) (below_size (by repeat (first | (with_reducible first | exact HB.out | apply below_alloc | apply pw_below_drewN | apply below_drew1) | exact HB.out)))); have n4_ := Aside0.mk (below_step (by repeat (first | (with_reducible first | exact HB.out | apply below_alloc | apply pw_below_drewN | apply below_drew1) | exact HB.out)) hb); clear HO249; clear HO252; clear HO256; clear HB; have HO249 := n0_; have HO252 := n1_; have HO256 := n2_; have HO259 := n3_; have HB := n4_; clear n0_ n1_ n2_ n3_ n4_; (try clear hb); (try clear hb2); (try clear hk); (try clear hi); (try clear ho0); obtain ⟨Ao21, co21, eo21⟩ := Kd.R_slice HO256.out; subst eo21; obtain ⟨Ao22, co22, eo22⟩ := Kd.R_slice HO259.out; subst eo22) | (go_at_call 30; (with_reducible refine (calamusref01_Same.calls k _ _ t254 _ _ t257 true _ ?side1 ?side2 ?side3 ?side4 A12.out).mono ?_); (case side1 => repeat (first | exact (Kd.R_reads' HO256.out).2.2 | (with_reducible refine Kd.C_alloc ?_ _) | (with_reducible refine Kd.C_drewN ?_ _) | (with_reducible refine Kd.C_drew ?_))); (case side2 => exact (Kd.R_reads' HO256.out).2.1); (case side3 => repeat (first | exact (Kd.R_reads' HO259.out).2.2 | (with_reducible refine Kd.C_alloc ?_ _) | (with_reducible refine Kd.C_drewN ?_ _) | (with_reducible refine Kd.C_drew ?_))); (case side4 => exact (Kd.R_reads' HO259.out).2.1); rintro e w' ⟨rfl, ⟨nd, rfl⟩⟩) | (go_at_call 36; (with_reducible refine (calamuslaw15_lives.calls k  t261 _ A14.out).mono ?_); rintro e w23 ⟨rfl, hb⟩; have n0_ := Aside0.mk (Kd.R_below (by (with_reducible repeat (first | apply Kd.R_alloc | apply Kd.R_drewN | apply Kd.R_drew)); exact HO249.out) hb); have n1_ := Aside0.mk (Kd.R_below (by (with_reducible repeat (first | apply Kd.R_alloc | apply Kd.R_drewN | apply Kd.R_drew)); exact HO252.out) hb); have n2_ := Aside0.mk (Kd.R_below (by (with_reducible repeat (first | apply Kd.R_alloc | apply Kd.R_drewN | apply Kd.R_drew)); exact HO256.out) hb); have n3_ := Aside0.mk (Kd.R_below (by (with_reducible repeat (first | apply Kd.R_alloc | apply Kd.R_drewN | apply Kd.R_drew)); exact HO259.out) hb); have n4_ := Aside0.mk (below_step (by repeat (first | (with_reducible first | exact HB.out | apply below_alloc | apply pw_below_drewN | apply below_drew1) | exact HB.out)) hb); clear HO249; clear HO252; clear HO256; clear HO259; clear HB; have HO249 := n0_; have HO252 := n1_; have HO256 := n2_; have HO259 := n3_; have HB := n4_; clear n0_ n1_ n2_ n3_ n4_; (try clear hb); (try clear hb2); (try clear hk); (try clear hi)))
        go_ret
        exact ⟨by first | rfl | (simp [errW_none, errW_some] <;> rfl) | (simp [*, errW_none, errW_some] <;> rfl), by repeat (first | (with_reducible first | exact HB.out | apply below_alloc | apply pw_below_drewN | apply below_drew1) | exact HB.out)⟩
      · replace c13 := Bool.eq_false_iff.mpr c13
        subst c13
        have H1 : (some false) = some r := by rw [if_neg (show ¬ (false = true) by decide)] at H; exact H
        clear H
        have H := H1
        clear H1
        obtain rfl := Option.some.inj H
        go_enter Try.func10, Try.ntmps10
        go_wp2_with (first | ((with_reducible refine gate_callee (f := 37) rfl ?_); refine goesL_ (some 11) rfl rfl Try.func37 (by kernel_rfl) rfl #[.string a0, .bool a1] rfl (by (try simp only [List.map_toArray, List.map_cons, List.map_nil]); first | done | rfl | (simp only [List.length_drop, List.length_take]; rfl)) ?_; (with_reducible refine (hop_Starts.calls a0 a1 t247 _ A6.out).mono ?_); rintro e w24 ⟨v248, rfl, ho0, hb⟩; refine ⟨_, rfl, ?_⟩; have n0_ := Aside0.mk (Kd.R_lower ho0 (below_size (by repeat (first | (with_reducible first | exact HB.out | apply below_alloc | apply pw_below_drewN | apply below_drew1) | exact HB.out)))); have n1_ := Aside0.mk (below_step (by repeat (first | (with_reducible first | exact HB.out | apply below_alloc | apply pw_below_drewN | apply below_drew1) | exact HB.out)) hb); clear HB; have HO249 := n0_; have HB := n1_; clear n0_ n1_; (try clear hb); (try clear hb2); (try clear hk); (try clear hi); (try clear ho0)) | ((with_reducible refine gate_callee (f := 38) rfl ?_); refine goesL_ (some 14) rfl rfl Try.func38 (by kernel_rfl) rfl #[.string a0, .bool a1] rfl (by (try simp only [List.map_toArray, List.map_cons, List.map_nil]); first | done | rfl | (simp only [List.length_drop, List.length_take]; rfl)) ?_; (with_reducible refine (calamusref15_Starts.calls k a0 a1 t250 _ A7.out).mono ?_); rintro e w25 ⟨v251, rfl, ho0, hb⟩; refine ⟨_, rfl, ?_⟩; have n0_ := Aside0.mk (Kd.R_elder' (by (with_reducible repeat (first | apply Kd.R_alloc | apply Kd.R_drewN | apply Kd.R_drew)); exact HO249.out) (Kd.R_base ho0) hb); have n1_ := Aside0.mk (Kd.R_lower (Kd.R_new' ho0 (Kd.R_lt (by (with_reducible repeat (first | apply Kd.R_alloc | apply Kd.R_drewN | apply Kd.R_drew)); exact HO249.out))) (below_size (by repeat (first | (with_reducible first | exact HB.out | apply below_alloc | apply pw_below_drewN | apply below_drew1) | exact HB.out)))); have n2_ := Aside0.mk (below_step (by repeat (first | (with_reducible first | exact HB.out | apply below_alloc | apply pw_below_drewN | apply below_drew1) | exact HB.out)) hb); clear HO249; clear HB; have HO249 := n0_; have HO252 := n1_; have HB := n2_; clear n0_ n1_ n2_; (try clear hb); (try clear hb2); (try clear hk); (try clear hi); (try clear ho0); obtain ⟨Ao26, co26, eo26⟩ := Kd.R_slice HO249.out; subst eo26; obtain ⟨Ao27, co27, eo27⟩ := Kd.R_slice HO252.out; subst eo27) | ((with_reducible refine gate_callee (f := 30) rfl ?_); refine goesL_ (some 15) rfl rfl Try.func30 (by kernel_rfl) rfl #[.slice Ao26 t247.length co26, .slice Ao27 t250.length co27] rfl (by (try simp only [List.map_toArray, List.map_cons, List.map_nil]); first | done | rfl | (simp only [List.length_drop, List.length_take]; rfl)) ?_; (with_reducible refine (calamusref01_Same.calls k _ _ t247 _ _ t250 true _ ?side1 ?side2 ?side3 ?side4 A8.out).mono ?_); (case side1 => repeat (first | exact (Kd.R_reads' HO249.out).2.2 | (with_reducible refine Kd.C_alloc ?_ _) | (with_reducible refine Kd.C_drewN ?_ _) | (with_reducible refine Kd.C_drew ?_))); (case side2 => exact (Kd.R_reads' HO249.out).2.1); (case side3 => repeat (first | exact (Kd.R_reads' HO252.out).2.2 | (with_reducible refine Kd.C_alloc ?_ _) | (with_reducible refine Kd.C_drewN ?_ _) | (with_reducible refine Kd.C_drew ?_))); (case side4 => exact (Kd.R_reads' HO252.out).2.1); rintro e w' ⟨rfl, ⟨nd, rfl⟩⟩; refine ⟨_, rfl, ?_⟩) | (go_at_call 39; (with_reducible refine (hop_Ends.calls a0 a1 t254 _ A10.out).mono ?_); rintro e w28 ⟨v255, rfl, ho0, hb⟩; have n0_ := Aside0.mk (Kd.R_elder' (by (with_reducible repeat (first | apply Kd.R_alloc | apply Kd.R_drewN | apply Kd.R_drew)); exact HO249.out) (Kd.R_base ho0) hb); have n1_ := Aside0.mk (Kd.R_elder' (by (with_reducible repeat (first | apply Kd.R_alloc | apply Kd.R_drewN | apply Kd.R_drew)); exact HO252.out) (Kd.R_base ho0) hb); have n2_ := Aside0.mk (Kd.R_lower (Kd.R_new' (Kd.R_new' ho0 (Kd.R_lt (by (with_reducible repeat (first | apply Kd.R_alloc | apply Kd.R_drewN | apply Kd.R_drew)); exact HO249.out))) (Kd.R_lt (by (with_reducible repeat (first | apply Kd.R_alloc | apply Kd.R_drewN | apply Kd.R_drew)); exact HO252.out))) (below_size (by repeat (first | (with_reducible first | exact HB.out | apply below_alloc | apply pw_below_drewN | apply below_drew1) | exact HB.out)))); have n3_ := Aside0.mk (below_step (by repeat (first | (with_reducible first | exact HB.out | apply below_alloc | apply pw_below_drewN | apply below_drew1) | exact HB.out)) hb); clear HO249; clear HO252; clear HB; have HO249 := n0_; have HO252 := n1_; have HO256 := n2_; have HB := n3_; clear n0_ n1_ n2_ n3_; (try clear hb); (try clear hb2); (try clear hk); (try clear hi); (try clear ho0)) | (go_at_call 40; (with_reducible refine (calamusref15_Ends.calls k a0 a1 t257 _ A11.out).mono ?_); rintro e w29 ⟨v258, rfl, ho0, hb⟩; have n0_ := Aside0.mk (Kd.R_elder' (by (with_reducible repeat (first | apply Kd.R_alloc | apply Kd.R_drewN | apply Kd.R_drew)); exact HO249.out) (Kd.R_base ho0) hb); have n1_ := Aside0.mk (Kd.R_elder' (by (with_reducible repeat (first | apply Kd.R_alloc | apply Kd.R_drewN | apply Kd.R_drew)); exact HO252.out) (Kd.R_base ho0) hb); have n2_ := Aside0.mk (Kd.R_elder' (by (with_reducible repeat (first | apply Kd.R_alloc | apply Kd.R_drewN | apply Kd.R_drew)); exact HO256.out) (Kd.R_base ho0) hb); have n3_ := Aside0.mk (Kd.R_lower (Kd.R_new' (Kd.R_new' (Kd.R_new' ho0 (Kd.R_lt (by (with_reducible repeat (first | apply Kd.R_alloc | apply Kd.R_drewN | apply Kd.R_drew)); exact HO249.out))) (Kd.R_lt (by (with_reducible repeat (first | apply Kd.R_alloc | apply Kd.R_drewN | apply Kd.R_drew)); exact HO252.out))) (Kd.R_lt (by (with_reducible repeat (first | apply Kd.R_alloc | apply Kd.R_drewN | apply Kd.R_drew)); exact HO256.out))) (below_size (by repeat (first | (with_reducible first | exact HB.out | apply below_alloc | apply pw_below_drewN | apply below_drew1) | exact HB.out)))); have n4_ := Aside0.mk (below_step (by repeat (first | (with_reducible first | exact HB.out | apply below_alloc | apply pw_below_drewN | apply below_drew1) | exact HB.out)) hb); clear HO249; clear HO252; clear HO256; clear HB; have HO249 := n0_; have HO252 := n1_; have HO256 := n2_; have HO259 := n3_; have HB := n4_; clear n0_ n1_ n2_ n3_ n4_; (try clear hb); (try clear hb2); (try clear hk); (try clear hi); (try clear ho0); obtain ⟨Ao30, co30, eo30⟩ := Kd.R_slice HO256.out; subst eo30; obtain ⟨Ao31, co31, eo31⟩ := Kd.R_slice HO259.out; subst eo31) | (go_at_call 30; (with_reducible refine (calamusref01_Same.calls k _ _ t254 _ _ t257 false _ ?side1 ?side2 ?side3 ?side4 A12.out).mono ?_); (case side1 => repeat (first | exact (Kd.R_reads' HO256.out).2.2 | (with_reducible refine Kd.C_alloc ?_ _) | (with_reducible refine Kd.C_drewN ?_ _) | (with_reducible refine Kd.C_drew ?_))); (case side2 => exact (Kd.R_reads' HO256.out).2.1); (case side3 => repeat (first | exact (Kd.R_reads' HO259.out).2.2 | (with_reducible refine Kd.C_alloc ?_ _) | (with_reducible refine Kd.C_drewN ?_ _) | (with_reducible refine Kd.C_drew ?_))); (case side4 => exact (Kd.R_reads' HO259.out).2.1); rintro e w' ⟨rfl, ⟨nd, rfl⟩⟩))
        go_ret
        exact ⟨by first | rfl | (simp [errW_none, errW_some] <;> rfl) | (simp [*, errW_none, errW_some] <;> rfl), by repeat (first | (with_reducible first | exact HB.out | apply below_alloc | apply pw_below_drewN | apply below_drew1) | exact HB.out)⟩
    · replace c9 := Bool.eq_false_iff.mpr c9
      subst c9
      have H1 : (some false) = some r := by rw [if_neg (show ¬ (false = true) by decide)] at H; exact H
      clear H
      have H := H1
      clear H1
      obtain rfl := Option.some.inj H
      go_enter Try.func10, Try.ntmps10
      go_wp2_with (first | ((with_reducible refine gate_callee (f := 37) rfl ?_); refine goesL_ (some 11) rfl rfl Try.func37 (by kernel_rfl) rfl #[.string a0, .bool a1] rfl (by (try simp only [List.map_toArray, List.map_cons, List.map_nil]); first | done | rfl | (simp only [List.length_drop, List.length_take]; rfl)) ?_; (with_reducible refine (hop_Starts.calls a0 a1 t247 _ A6.out).mono ?_); rintro e w32 ⟨v248, rfl, ho0, hb⟩; refine ⟨_, rfl, ?_⟩; have n0_ := Aside0.mk (Kd.R_lower ho0 (below_size (by repeat (first | (with_reducible first | exact HB.out | apply below_alloc | apply pw_below_drewN | apply below_drew1) | exact HB.out)))); have n1_ := Aside0.mk (below_step (by repeat (first | (with_reducible first | exact HB.out | apply below_alloc | apply pw_below_drewN | apply below_drew1) | exact HB.out)) hb); clear HB; have HO249 := n0_; have HB := n1_; clear n0_ n1_; (try clear hb); (try clear hb2); (try clear hk); (try clear hi); (try clear ho0)) | ((with_reducible refine gate_callee (f := 38) rfl ?_); refine goesL_ (some 14) rfl rfl Try.func38 (by kernel_rfl) rfl #[.string a0, .bool a1] rfl (by (try simp only [List.map_toArray, List.map_cons, List.map_nil]); first | done | rfl | (simp only [List.length_drop, List.length_take]; rfl)) ?_; (with_reducible refine (calamusref15_Starts.calls k a0 a1 t250 _ A7.out).mono ?_); rintro e w33 ⟨v251, rfl, ho0, hb⟩; refine ⟨_, rfl, ?_⟩; have n0_ := Aside0.mk (Kd.R_elder' (by (with_reducible repeat (first | apply Kd.R_alloc | apply Kd.R_drewN | apply Kd.R_drew)); exact HO249.out) (Kd.R_base ho0) hb); have n1_ := Aside0.mk (Kd.R_lower (Kd.R_new' ho0 (Kd.R_lt (by (with_reducible repeat (first | apply Kd.R_alloc | apply Kd.R_drewN | apply Kd.R_drew)); exact HO249.out))) (below_size (by repeat (first | (with_reducible first | exact HB.out | apply below_alloc | apply pw_below_drewN | apply below_drew1) | exact HB.out)))); have n2_ := Aside0.mk (below_step (by repeat (first | (with_reducible first | exact HB.out | apply below_alloc | apply pw_below_drewN | apply below_drew1) | exact HB.out)) hb); clear HO249; clear HB; have HO249 := n0_; have HO252 := n1_; have HB := n2_; clear n0_ n1_ n2_; (try clear hb); (try clear hb2); (try clear hk); (try clear hi); (try clear ho0); obtain ⟨Ao34, co34, eo34⟩ := Kd.R_slice HO249.out; subst eo34; obtain ⟨Ao35, co35, eo35⟩ := Kd.R_slice HO252.out; subst eo35) | ((with_reducible refine gate_callee (f := 30) rfl ?_); refine goesL_ (some 15) rfl rfl Try.func30 (by kernel_rfl) rfl #[.slice Ao34 t247.length co34, .slice Ao35 t250.length co35] rfl (by (try simp only [List.map_toArray, List.map_cons, List.map_nil]); first | done | rfl | (simp only [List.length_drop, List.length_take]; rfl)) ?_; (with_reducible refine (calamusref01_Same.calls k _ _ t247 _ _ t250 false _ ?side1 ?side2 ?side3 ?side4 A8.out).mono ?_); (case side1 => repeat (first | exact (Kd.R_reads' HO249.out).2.2 | (with_reducible refine Kd.C_alloc ?_ _) | (with_reducible refine Kd.C_drewN ?_ _) | (with_reducible refine Kd.C_drew ?_))); (case side2 => exact (Kd.R_reads' HO249.out).2.1); (case side3 => repeat (first | exact (Kd.R_reads' HO252.out).2.2 | (with_reducible refine Kd.C_alloc ?_ _) | (with_reducible refine Kd.C_drewN ?_ _) | (with_reducible refine Kd.C_drew ?_))); (case side4 => exact (Kd.R_reads' HO252.out).2.1); rintro e w' ⟨rfl, ⟨nd, rfl⟩⟩; refine ⟨_, rfl, ?_⟩))
      go_ret
      exact ⟨by first | rfl | (simp [errW_none, errW_some] <;> rfl) | (simp [*, errW_none, errW_some] <;> rfl), by repeat (first | (with_reducible first | exact HB.out | apply below_alloc | apply pw_below_drewN | apply below_drew1) | exact HB.out)⟩

/-- THE ONE PURE STATEMENT of calamuslaw15_HopWords: yours. -/
def calamuslaw15_HopWords.Pure : Prop := ∀ (a0 : ByteArray) (a1 : Bool), a0.size ≤ 140737488351232 → ∃ k, calamuslaw15_HopWords.f k a0 a1 = some true
theorem calamuslaw15_HopWords.walk (P : calamuslaw15_HopWords.Pure) (a0 : ByteArray) (a1 : Bool) (w : World) (w0 : a0.size ≤ 140737488351232) :
    Calls Try.prog 10 #[.string a0, .bool a1] w fun e w' => e = .returned (.bool true) ∧ Below w.heap.size w w' := by
  obtain ⟨k, h⟩ := P a0 a1 w0
  refine (calamuslaw15_HopWords.calls k a0 a1 true w h).mono ?_
  rintro e w' ⟨rfl, hd⟩
  exact ⟨rfl, hd⟩


end Go.Proofs.Ythjlhbblflmajaa.Q
/- The document's rows (calamusref15): what its functions come to. -/
namespace Go.Proofs.Ythjlhbblflmajaa
open Go.RowKit
set_option linter.unusedVariables false
set_option linter.unusedSimpArgs false
open Go.RowKit Go.Proofs.Ythjlhbblflmajaa.Q Go.Proofs.YthjlhbblflmajaaW.PrintWords Go.Proofs.YthjlhbblflmajaaW.PrintMore
theorem rd_at (pre r : List Int) (x : Int) : rd (pre ++ x :: r) (pre.length : Int) = x := by rw [rd_getD]; simp [List.getD_eq_getElem?_getD]
theorem rd_at1 (pre r : List Int) (x y : Int) : rd (pre ++ x :: y :: r) ((pre.length : Int) + 1) = y := by
  have e : ((pre.length : Int) + 1) = (((pre ++ [x]).length : Nat) : Int) := by simp
  have e2 : pre ++ x :: y :: r = (pre ++ [x]) ++ y :: r := by simp
  rw [e, e2, rd_at]
theorem kind_rune {t : ByteArray} {p : Nat} (big : Bool) (hp : placeB (ls t) p = true) (h : p < t.size) : kindR (ls (t.extract p (p + szL ((ls t).drop p)))) big = kindI (ls t) p big := by
  rw [← kindR_of, ls_ext2, Nat.add_sub_cancel_left]
  unfold runeL
  rw [if_pos ⟨hp, by rw [ls_len]; omega⟩]
  simp
theorem hrow_l0 (t : ByteArray) (big : Bool) (ht : t.size ≤ 1000000) : ∀ (n p : Nat) (xs pre acc : List Int), placeB (ls t) p = true → t.size + 1 - p ≤ n → pre.length + n ≤ 2000000 → acc.length = pre.length → xs = pre ++ (plsF (ls t) n p).map Int.ofNat →
    Ev (fun k => calamusref15_row.l0 k t big xs acc (pre.length : Int)) (xs, acc ++ (plsF (ls t) n p).map (kc (ls t) big))
  | 0, p, _, _, _, hp, hn, _, _, _ => by have := place_le hp; rw [ls_len] at this; omega
  | n + 1, p, xs, pre, acc, hp, hn, hb, ha, hx => by
    have hle := place_le hp
    rw [ls_len] at hle
    have hlen : xs.length ≤ pre.length + (n + 1) := by rw [hx]; simp; exact plsF_len
    unfold plsF at hx ⊢
    by_cases he : p = (ls t).length
    · rw [if_pos he] at hx ⊢
      have hl : xs.length = pre.length + 1 := by rw [hx]; simp
      have hk : kc (ls t) big p = 0 := by rw [he, kc_end]
      refine Ev.step (fun _ => (by rw [calamusref15_row.l0])) ?_
      rw [w64 (n := (pre.length : Int) + 1) (by omega) (by omega)]
      refine Ev.pos (by omega) (Ev.neg (by omega) (Ev.neg (by decide) (Ev.neg (by decide) (Ev.pos (by omega) ?_))))
      refine Ev.step (fun _ => (by rw [calamusref15_row.l0])) ?_
      refine Ev.neg (by omega) (Ev.ret ?_)
      simp [hk]
    · rw [if_neg he] at hx ⊢
      have hlt : p < (ls t).length := by rw [ls_len] at he ⊢; omega
      have hnx := place_next hp hlt
      have hz := sz_at hp hlt
      rw [ls_len] at hz
      obtain ⟨r, hr⟩ := plsF_cons (l := ls t) (n := n) hnx (by rw [ls_len]; omega)
      have hx2 : xs = pre ++ (p : Int) :: ((p + szL ((ls t).drop p) : Nat) : Int) :: r.map Int.ofNat := by rw [hx, hr]; rfl
      have e1 : rd xs (pre.length : Int) = (p : Int) := by rw [hx2, rd_at]
      have e2 : rd xs ((pre.length : Int) + 1) = ((p + szL ((ls t).drop p) : Nat) : Int) := by rw [hx2, rd_at1]
      have hl : pre.length + 2 ≤ xs.length := by rw [hx2]; simp
      have ih := hrow_l0 t big ht n (p + szL ((ls t).drop p)) xs (pre ++ [(p : Int)]) (acc ++ [kc (ls t) big p]) hnx (by omega) (by simp; omega) (by simp; omega) (by rw [hx]; simp)
      have e5 : (((pre ++ [(p : Int)]).length : Nat) : Int) = (pre.length : Int) + 1 := by simp
      rw [e5] at ih
      have key : ∀ c, c = kc (ls t) big p → Ev (fun k => if acc.length < 17592186044416 then calamusref15_row.l0 k t big xs (acc ++ [c]) ((pre.length : Int) + 1) else none) (xs, acc ++ ((p :: plsF (ls t) n (p + szL ((ls t).drop p))).map (kc (ls t) big))) := by
        rintro c rfl
        refine Ev.pos (by omega) (Ev.eq ih ?_)
        simp
      have hkr := kind_rune big hp (by rw [ls_len] at hlt; exact hlt)
      refine Ev.step (fun _ => (by rw [calamusref15_row.l0])) ?_
      rw [w64 (n := (pre.length : Int) + 1) (by omega) (by omega), e1, e2, Int.toNat_natCast, Int.toNat_natCast, calamusref05_Kind.eq _ _ (by simp; omega), hkr]
      simp only [Option.bind_some]
      refine Ev.pos (by omega) (Ev.pos (by omega) (Ev.pos (by omega) (Ev.pos (by omega) (Ev.pos (by omega) (Ev.pos (by omega) (Ev.pos (by omega) ?_))))))
      refine Ev.ite (fun h => ?_) (fun h => Ev.ite (fun h4 => ?_) (fun h4 => ?_))
      · exact key _ (by unfold kc; rw [if_pos (.inl h)])
      · exact key _ (by unfold kc; rw [if_pos (.inr h4)])
      · exact key _ (by unfold kc; rw [if_neg (by omega)])
theorem em_iff {t : ByteArray} {p : Nat} (hp : p ≤ t.size) : emB (ls t) p = true ↔ ((p = 0 ∨ bt t ((p : Int) - 1) = 10) ∧ (p = t.size ∨ bt t (p : Int) = 10)) := by
  unfold emB
  rw [ls_len]
  simp only [Bool.and_eq_true, Bool.or_eq_true, decide_eq_true_eq]
  refine and_congr ?_ ?_
  · by_cases h : p = 0
    · simp [h]
    · have e : (p : Int) - 1 = ((p - 1 : Nat) : Int) := by omega
      rw [e, bt_nat t (p - 1) (by omega)]
  · by_cases h : p = t.size
    · simp [h]
    · rw [bt_nat t p (by omega)]
theorem hst_l0 (t : ByteArray) (big : Bool) (ht : t.size ≤ 1000000) : ∀ (n p : Nat) (xs cs pre cpre acc : List Int) (last : Int), placeB (ls t) p = true → t.size + 1 - p ≤ n → pre.length + n ≤ 2000000 → cpre.length = pre.length → acc.length ≤ pre.length →
    (pre.length = 0 → last = 0) → (0 < pre.length → rd cs ((pre.length : Int) - 1) = last) → xs = pre ++ (plsF (ls t) n p).map Int.ofNat → cs = cpre ++ (plsF (ls t) n p).map (kc (ls t) big) →
    Ev (fun k => calamusref15_Starts.l0 k t xs cs acc (pre.length : Int)) (acc ++ stq (ls t) big (plsF (ls t) n p) last)
  | 0, p, _, _, _, _, _, _, hp, hn, _, _, _, _, _, _, _ => by have := place_le hp; rw [ls_len] at this; omega
  | n + 1, p, xs, cs, pre, cpre, acc, last, hp, hn, hb, hcp, ha, hl0, hl1, hx, hc => by
    have hle := place_le hp
    rw [ls_len] at hle
    have hxl : xs.length = cs.length := by rw [hx, hc]; simp [hcp]
    have hlen : xs.length ≤ pre.length + (n + 1) := by rw [hx]; simp; exact plsF_len
    obtain ⟨r, hr⟩ := plsF_cons (l := ls t) (n := n + 1) hp (by rw [ls_len]; omega)
    have e1 : rd xs (pre.length : Int) = (p : Int) := by rw [hx, hr, List.map_cons, rd_at]; rfl
    have e2 : rd cs (pre.length : Int) = kc (ls t) big p := by rw [hc, hr, List.map_cons, ← hcp, rd_at]
    have hl : pre.length + 1 ≤ xs.length := by rw [hx, hr]; simp
    have hrr : r = if p = (ls t).length then [] else plsF (ls t) n (p + szL ((ls t).drop p)) := by
      have := hr.symm; unfold plsF at this; exact (List.cons.inj this).2
    rw [hr] at hx hc ⊢
    have hem := em_iff (t := t) hle
    have next : ∀ acc' : List Int, acc'.length ≤ pre.length + 1 → Ev (fun k => calamusref15_Starts.l0 k t xs cs acc' ((pre.length : Int) + 1)) (acc' ++ stq (ls t) big r (kc (ls t) big p)) := by
      intro acc' ha'
      by_cases he : p = (ls t).length
      · rw [if_pos he] at hrr
        subst hrr
        have : xs.length = pre.length + 1 := by rw [hx]; simp
        refine Ev.step (fun _ => (by rw [calamusref15_Starts.l0])) ?_
        refine Ev.neg (by omega) (Ev.ret ?_)
        simp [stq]
      · rw [if_neg he] at hrr
        have hlt : p < (ls t).length := by rw [ls_len] at he ⊢; omega
        have hz := sz_at hp hlt
        rw [ls_len] at hz
        have ih := hst_l0 t big ht n (p + szL ((ls t).drop p)) xs cs (pre ++ [(p : Int)]) (cpre ++ [kc (ls t) big p]) acc' (kc (ls t) big p) (place_next hp hlt) (by omega) (by simp; omega) (by simp; omega) (by simp; omega) (by simp) (fun _ => by
          have : (((pre ++ [(p : Int)]).length : Nat) : Int) - 1 = (pre.length : Int) := by simp
          rw [this, e2]) (by rw [hx, hrr]; simp) (by rw [hc, hrr]; simp)
        have e5 : (((pre ++ [(p : Int)]).length : Nat) : Int) = (pre.length : Int) + 1 := by simp
        rw [e5] at ih
        rw [hrr]; exact ih
    show Ev _ (acc ++ ((if (kc (ls t) big p ≠ 0 ∧ kc (ls t) big p ≠ last) ∨ emB (ls t) p = true then [(p : Int)] else []) ++ stq (ls t) big r (kc (ls t) big p)))
    refine Ev.step (fun _ => (by rw [calamusref15_Starts.l0])) ?_
    rw [w64 (n := (pre.length : Int) + 1) (by omega) (by omega), w64 (n := (pre.length : Int) - 1) (by omega) (by omega), e1, e2, w64 (n := (p : Int) - 1) (by omega) (by omega)]
    simp only [hem]
    clear hem e1 e2 hrr hr hx hc
    generalize kc (ls t) big p = c at *
    generalize bt t ((p : Int) - 1) = b1 at *
    generalize bt t (p : Int) = b2 at *
    generalize rd cs ((pre.length : Int) - 1) = lz at *
    have key1 : ((c ≠ 0 ∧ c ≠ last) ∨ ((p = 0 ∨ b1 = 10) ∧ (p = t.size ∨ b2 = 10))) → Ev (fun k => if acc.length < 17592186044416 then calamusref15_Starts.l0 k t xs cs (acc ++ [(p : Int)]) ((pre.length : Int) + 1) else none) (acc ++ ((if (c ≠ 0 ∧ c ≠ last) ∨ ((p = 0 ∨ b1 = 10) ∧ (p = t.size ∨ b2 = 10)) then [(p : Int)] else []) ++ stq (ls t) big r c)) := by
      intro h
      rw [if_pos h]
      exact Ev.pos (by omega) (Ev.eq (next (acc ++ [(p : Int)]) (by simp; omega)) (by simp))
    have key0 : ¬ ((c ≠ 0 ∧ c ≠ last) ∨ ((p = 0 ∨ b1 = 10) ∧ (p = t.size ∨ b2 = 10))) → Ev (fun k => calamusref15_Starts.l0 k t xs cs acc ((pre.length : Int) + 1)) (acc ++ ((if (c ≠ 0 ∧ c ≠ last) ∨ ((p = 0 ∨ b1 = 10) ∧ (p = t.size ∨ b2 = 10)) then [(p : Int)] else []) ++ stq (ls t) big r c)) := by
      intro h
      rw [if_neg h]
      exact Ev.eq (next acc (by omega)) (by simp)
    clear next
    repeat' first
      | refine key1 ?_; omega
      | refine key0 ?_; omega
      | (exfalso; omega)
      | refine Ev.ite (fun _ => ?_) (fun _ => ?_)
theorem hen_l0 (t : ByteArray) (big : Bool) (ht : t.size ≤ 1000000) : ∀ (n p : Nat) (xs cs pre cpre acc : List Int), placeB (ls t) p = true → t.size + 1 - p ≤ n → pre.length + n ≤ 2000000 → cpre.length = pre.length → acc.length ≤ pre.length →
    xs = pre ++ (plsF (ls t) n p).map Int.ofNat → cs = cpre ++ (plsF (ls t) n p).map (kc (ls t) big) →
    Ev (fun k => calamusref15_Ends.l0 k xs cs acc (pre.length : Int)) (acc ++ enq (ls t) big (plsF (ls t) n p))
  | 0, p, _, _, _, _, _, hp, hn, _, _, _, _, _ => by have := place_le hp; rw [ls_len] at this; omega
  | n + 1, p, xs, cs, pre, cpre, acc, hp, hn, hb, hcp, ha, hx, hc => by
    have hle := place_le hp
    rw [ls_len] at hle
    have hxl : xs.length = cs.length := by rw [hx, hc]; simp [hcp]
    have hlen : xs.length ≤ pre.length + (n + 1) := by rw [hx]; simp; exact plsF_len
    unfold plsF at hx hc ⊢
    by_cases he : p = (ls t).length
    · rw [if_pos he] at hx hc ⊢
      have hl : xs.length = pre.length + 1 := by rw [hx]; simp
      have hk : kc (ls t) big p = 0 := by rw [he, kc_end]
      have e2 : rd cs (pre.length : Int) = 0 := by rw [hc, ← hcp]; simp only [List.map_cons, List.map_nil]; rw [rd_at, hk]
      refine Ev.step (fun _ => (by rw [calamusref15_Ends.l0])) ?_
      rw [w64 (n := (pre.length : Int) + 1) (by omega) (by omega), e2]
      refine Ev.pos (by omega) (Ev.pos (by omega) (Ev.pos (by omega) (Ev.pos rfl ?_)))
      refine Ev.step (fun _ => (by rw [calamusref15_Ends.l0])) ?_
      refine Ev.neg (by omega) (Ev.ret ?_)
      simp [enq]
    · rw [if_neg he] at hx hc ⊢
      have hlt : p < (ls t).length := by rw [ls_len] at he ⊢; omega
      have hnx := place_next hp hlt
      have hz := sz_at hp hlt
      rw [ls_len] at hz
      obtain ⟨r, hr⟩ := plsF_cons (l := ls t) (n := n) hnx (by rw [ls_len]; omega)
      have hx2 : xs = pre ++ (p : Int) :: ((p + szL ((ls t).drop p) : Nat) : Int) :: r.map Int.ofNat := by rw [hx, hr]; rfl
      have hc2 : cs = cpre ++ kc (ls t) big p :: kc (ls t) big (p + szL ((ls t).drop p)) :: r.map (kc (ls t) big) := by rw [hc, hr]; rfl
      have e1 : rd xs (pre.length : Int) = (p : Int) := by rw [hx2, rd_at]
      have e2 : rd cs (pre.length : Int) = kc (ls t) big p := by rw [hc2, ← hcp, rd_at]
      have e3 : rd cs ((pre.length : Int) + 1) = kc (ls t) big (p + szL ((ls t).drop p)) := by rw [hc2, ← hcp, rd_at1]
      have hl : pre.length + 2 ≤ xs.length := by rw [hx2]; simp
      have ih : ∀ acc' : List Int, acc'.length ≤ pre.length + 1 → Ev (fun k => calamusref15_Ends.l0 k xs cs acc' ((pre.length : Int) + 1)) (acc' ++ enq (ls t) big (plsF (ls t) n (p + szL ((ls t).drop p)))) := by
        intro acc' ha'
        have h := hen_l0 t big ht n (p + szL ((ls t).drop p)) xs cs (pre ++ [(p : Int)]) (cpre ++ [kc (ls t) big p]) acc' hnx (by omega) (by simp; omega) (by simp; omega) (by simp; omega) (by rw [hx]; simp) (by rw [hc]; simp)
        have e5 : (((pre ++ [(p : Int)]).length : Nat) : Int) = (pre.length : Int) + 1 := by simp
        rw [e5] at h; exact h
      have hq : enq (ls t) big (p :: plsF (ls t) n (p + szL ((ls t).drop p))) = (if kc (ls t) big p ≠ 0 ∧ kc (ls t) big (p + szL ((ls t).drop p)) ≠ kc (ls t) big p then [(p : Int)] else []) ++ enq (ls t) big (plsF (ls t) n (p + szL ((ls t).drop p))) := by
        rw [hr]; rfl
      rw [hq]
      refine Ev.step (fun _ => (by rw [calamusref15_Ends.l0])) ?_
      rw [w64 (n := (pre.length : Int) + 1) (by omega) (by omega), e1, e2, e3]
      refine Ev.pos (by omega) (Ev.pos (by omega) (Ev.pos (by omega) ?_))
      refine Ev.ite (fun h0 => ?_) (fun h0 => Ev.pos (by omega) (Ev.pos (by omega) (Ev.ite (fun h1 => ?_) (fun h1 => Ev.pos (by omega) ?_))))
      · rw [if_neg (by omega)]; exact Ev.eq (ih acc (by omega)) (by simp)
      · rw [if_neg (by omega)]; exact Ev.eq (ih acc (by omega)) (by simp)
      · rw [if_pos ⟨h0, h1⟩]; exact Ev.eq (ih (acc ++ [(p : Int)]) (by simp; omega)) (by simp)
theorem r15_row (t : ByteArray) (big : Bool) (ht : t.size ≤ 1000000) : Ev (fun k => calamusref15_row.f k t big) (splitI (ls t), if validL (ls t) = true then (plsF (ls t) ((ls t).length + 1) 0).map (kc (ls t) big) else []) := by
  unfold calamusref15_row.f
  rw [calamusref03_Split.eq t (by omega)]
  simp only [Option.bind_some]
  rcases Bool.eq_false_or_eq_true (validL (ls t)) with hv | hv
  · rw [if_pos hv]
    exact hrow_l0 t big ht ((ls t).length + 1) 0 (splitI (ls t)) [] [] (place_zero hv) (by rw [ls_len]; omega) (by rw [ls_len]; simp; omega) rfl (by rw [splitI_plsF hv]; rfl)
  · rw [if_neg (by rw [hv]; decide), splitI_bad hv]
    refine Ev.step (fun _ => (by rw [calamusref15_row.l0])) ?_
    exact Ev.neg (by simp) (Ev.ret rfl)
theorem r15_starts (t : ByteArray) (big : Bool) (ht : t.size ≤ 1000000) : Ev (fun k => calamusref15_Starts.f k t big) (startsI (ls t) big) := by
  unfold calamusref15_Starts.f
  refine Ev.bind (r15_row t big ht) ?_
  dsimp only
  rcases Bool.eq_false_or_eq_true (validL (ls t)) with hv | hv
  · rw [if_pos hv, starts_eq big hv]
    exact hst_l0 t big ht ((ls t).length + 1) 0 _ _ [] [] [] 0 (place_zero hv) (by rw [ls_len]; omega) (by rw [ls_len]; simp; omega) rfl (by simp) (fun _ => rfl) (fun h => by simp at h) (by rw [splitI_plsF hv]; rfl) rfl
  · rw [if_neg (by rw [hv]; decide), splitI_bad hv]
    refine Ev.step (fun _ => (by rw [calamusref15_Starts.l0])) ?_
    refine Ev.neg (by simp) (Ev.ret ?_)
    unfold startsI; rw [if_neg (by rw [hv]; decide)]
theorem r15_ends (t : ByteArray) (big : Bool) (ht : t.size ≤ 1000000) : Ev (fun k => calamusref15_Ends.f k t big) (endsI (ls t) big) := by
  unfold calamusref15_Ends.f
  refine Ev.bind (r15_row t big ht) ?_
  dsimp only
  rcases Bool.eq_false_or_eq_true (validL (ls t)) with hv | hv
  · rw [if_pos hv, ends_eq big hv]
    exact hen_l0 t big ht ((ls t).length + 1) 0 _ _ [] [] [] (place_zero hv) (by rw [ls_len]; omega) (by rw [ls_len]; simp; omega) rfl (by simp) (by rw [splitI_plsF hv]; rfl) rfl
  · rw [if_neg (by rw [hv]; decide), splitI_bad hv]
    refine Ev.step (fun _ => (by rw [calamusref15_Ends.l0])) ?_
    refine Ev.neg (by simp) (Ev.ret ?_)
    unfold endsI; rw [if_neg (by rw [hv]; decide)]
end Go.Proofs.Ythjlhbblflmajaa
/- Two lists of whole numbers: are they the same? -/
namespace Go.Proofs.Ythjlhbblflmajaa
open Go.RowKit
set_option linter.unusedVariables false
set_option linter.unusedSimpArgs false
open Go.RowKit Go.Proofs.Ythjlhbblflmajaa.Q Go.Proofs.YthjlhbblflmajaaW.PrintWords Go.Proofs.YthjlhbblflmajaaW.PrintMore
theorem same_l0 (xs ys : List Int) (he : xs.length = ys.length) (hn : xs.length ≤ 4611686018427387903) : ∀ (d i : Nat), xs.length - i ≤ d → i ≤ xs.length → Ev (fun k => calamusref01_Same.l0 k xs ys i) (decide (xs.drop i = ys.drop i)) := by
  intro d
  induction d with
  | zero =>
    intro i hd hi
    refine Ev.step (fun _ => rfl) (Ev.neg (by omega) (Ev.ret ?_))
    rw [List.drop_eq_nil_of_le (by omega), List.drop_eq_nil_of_le (by omega)]; rfl
  | succ d ih =>
    intro i hd hi
    by_cases hlt : i < xs.length
    · refine Ev.step (fun _ => rfl) (Ev.pos (by omega) (Ev.pos (by omega) (Ev.pos (by omega) ?_)))
      have hlt' : i < ys.length := by omega
      rw [rd_nat xs i hlt, rd_nat ys i hlt', w64 (by omega) (by omega), List.drop_eq_getElem_cons hlt, List.drop_eq_getElem_cons hlt']
      refine Ev.ite (fun hc => ?_) (fun hc => Ev.ret ?_)
      · refine Ev.eq (ih (i + 1) (by omega) (by omega)) ?_
        rw [hc]; simp only [List.cons.injEq, true_and]
      · exact (decide_eq_false (fun e => hc (List.cons.inj e).1)).symm
    · exact ih i (by omega) hi
theorem same_ev (xs ys : List Int) (hn : xs.length ≤ 4611686018427387903) : Ev (fun k => calamusref01_Same.f k xs ys) (decide (xs = ys)) := by
  unfold calamusref01_Same.f
  refine Ev.ite (fun hc => ?_) (fun hc => Ev.ret ?_)
  · exact Ev.eq (same_l0 xs ys (by omega) hn xs.length 0 (by omega) (by omega)) (by simp)
  · exact (decide_eq_false (fun e => hc (by rw [e]))).symm
theorem same_refl (xs : List Int) (hn : xs.length ≤ 4611686018427387903) : Ev (fun k => calamusref01_Same.f k xs xs) true := Ev.eq (same_ev xs xs hn) (by simp)
end Go.Proofs.Ythjlhbblflmajaa
/- The statement HopWords. -/
namespace Go.Proofs.Ythjlhbblflmajaa
open Go.RowKit
set_option linter.unusedVariables false
set_option linter.unusedSimpArgs false
open Go.RowKit Go.Proofs.Ythjlhbblflmajaa.Q Go.Proofs.YthjlhbblflmajaaW.PrintWords Go.Proofs.YthjlhbblflmajaaW.PrintMore
theorem hopWords_pure (t : ByteArray) (big : Bool) (ht : t.size ≤ 140737488351232) : ∃ k, calamuslaw15_HopWords.f k t big = some true := by
  refine Ev.at ?_
  unfold calamuslaw15_HopWords.f
  refine Ev.ite (fun h => Ev.bind lives_ev (Ev.ret rfl)) (fun h => ?_)
  have hs := startsI_len (ls t) big
  have he := endsI_len (ls t) big
  rw [ls_len] at hs he
  rw [hop_Starts.eq t big (by omega), hop_Ends.eq t big (by omega)]
  simp only [Option.bind_some]
  refine Ev.bind (r15_starts t big (by omega)) (Ev.bind (same_refl _ (by omega)) (Ev.pos rfl ?_))
  refine Ev.bind (r15_ends t big (by omega)) (Ev.bind (same_refl _ (by omega)) (Ev.pos rfl ?_))
  exact Ev.bind lives_ev (Ev.ret rfl)
end Go.Proofs.Ythjlhbblflmajaa
