/- Joined by merge.py out of this work's texts: QP5, L4, QP6, PPs, PPh, PPt. -/
import Derived.Test.YtckfdehendifoaaDoorZPL1
import Derived.Test.YtckfdehendifoaaDoorZPL0
-- Printed by this work's xp.py out of the translation. Lean checks it.
namespace Go.Proofs.YtckfdehendifoaaDoor.QP
open Go.RowKit Go.Proofs.YtckfdehendifoaaDoorW.PrintWords Go.Proofs.YtckfdehendifoaaDoorW.PrintLast Go.Proofs.YtckfdehendifoaaDoorW.PrintMore
attribute [local go_sem] max2_int min2_int max_two min_two max_three min_three max_four min_four   -- for this text's walks alone
set_option linter.unusedVariables false
set_option linter.unusedSimpArgs false


/-! ### change_front -/
mutual
def change_front.j1 : Nat → ByteArray → ByteArray → Int → Option (Int)
  | 0, _, _, _ => none
  | k + 1, x0, x1, x5 => change_front.l1 k x0 x1 x5
def change_front.l1 : Nat → ByteArray → ByteArray → Int → Option (Int)
  | 0, _, _, _ => none
  | k + 1, x0, x1, x5 => (utf_Place.f x0 x5).bind fun t178 => (if t178 = true then ((utf_Place.f x1 x5).bind fun t179 => (if t179 = true then (some x5) else (change_front.l1 k x0 x1 (wrap64 (x5 - 1))))) else (change_front.l1 k x0 x1 (wrap64 (x5 - 1))))
def change_front.l0 : Nat → ByteArray → ByteArray → Int → Option (Int)
  | 0, _, _, _ => none
  | k + 1, x0, x1, x5 => if x5 < (x0.size : Int) then (if x5 < (x1.size : Int) then (if 0 ≤ x5 then (if (bt x0 x5) = (bt x1 x5) then (change_front.l0 k x0 x1 (wrap64 (x5 + 1))) else (change_front.j1 k x0 x1 x5)) else (none)) else (change_front.j1 k x0 x1 x5)) else (change_front.j1 k x0 x1 x5)
end
def change_front.f (k : Nat) (a0 : ByteArray) (a1 : ByteArray) : Option (Int) := change_front.l0 k a0 a1 0
theorem change_front.mono_l : ∀ k, (∀ y0 y1 y2, LeO (change_front.j1 k y0 y1 y2) (change_front.j1 (k + 1) y0 y1 y2)) ∧ (∀ y0 y1 y2, LeO (change_front.l1 k y0 y1 y2) (change_front.l1 (k + 1) y0 y1 y2)) ∧ (∀ y0 y1 y2, LeO (change_front.l0 k y0 y1 y2) (change_front.l0 (k + 1) y0 y1 y2))
  | 0 => ⟨fun _ _ _ r h => by simp [change_front.j1] at h, fun _ _ _ r h => by simp [change_front.l1] at h, fun _ _ _ r h => by simp [change_front.l0] at h⟩
  | k + 1 => by
    obtain ⟨ih0, ih1, ih2⟩ := change_front.mono_l k
    refine ⟨?_, ?_, ?_⟩
    · intro y0 y1 y2
      unfold change_front.j1
      repeat' first
      | (with_reducible exact ih0 _ _ _)
      | (with_reducible exact ih1 _ _ _)
      | (with_reducible exact ih2 _ _ _)
      | (with_reducible exact LeO.refl _)
      | (with_reducible exact LeO.none _)
      | (with_reducible refine LeO.ite ?_ ?_)
      | (with_reducible refine LeO.bind ?_ (fun _ => ?_))
      | exact ih0 _ _ _
      | exact ih1 _ _ _
      | exact ih2 _ _ _
      | exact LeO.none _
      | refine LeO.ite ?_ ?_
      | refine LeO.bind ?_ (fun _ => ?_)
    · intro y0 y1 y2
      unfold change_front.l1
      repeat' first
      | (with_reducible exact ih0 _ _ _)
      | (with_reducible exact ih1 _ _ _)
      | (with_reducible exact ih2 _ _ _)
      | (with_reducible exact LeO.refl _)
      | (with_reducible exact LeO.none _)
      | (with_reducible refine LeO.ite ?_ ?_)
      | (with_reducible refine LeO.bind ?_ (fun _ => ?_))
      | exact ih0 _ _ _
      | exact ih1 _ _ _
      | exact ih2 _ _ _
      | exact LeO.none _
      | refine LeO.ite ?_ ?_
      | refine LeO.bind ?_ (fun _ => ?_)
    · intro y0 y1 y2
      unfold change_front.l0
      repeat' first
      | (with_reducible exact ih0 _ _ _)
      | (with_reducible exact ih1 _ _ _)
      | (with_reducible exact ih2 _ _ _)
      | (with_reducible exact LeO.refl _)
      | (with_reducible exact LeO.none _)
      | (with_reducible refine LeO.ite ?_ ?_)
      | (with_reducible refine LeO.bind ?_ (fun _ => ?_))
      | exact ih0 _ _ _
      | exact ih1 _ _ _
      | exact ih2 _ _ _
      | exact LeO.none _
      | refine LeO.ite ?_ ?_
      | refine LeO.bind ?_ (fun _ => ?_)
theorem change_front.mono : ∀ a0 a1 k, LeO (change_front.f k a0 a1) (change_front.f (k + 1) a0 a1) := by
  intro a0 a1 k
  obtain ⟨ih0, ih1, ih2⟩ := change_front.mono_l k
  unfold change_front.f
  repeat' first
      | (with_reducible exact ih0 _ _ _)
      | (with_reducible exact ih1 _ _ _)
      | (with_reducible exact ih2 _ _ _)
      | (with_reducible exact LeO.refl _)
      | (with_reducible exact LeO.none _)
      | (with_reducible refine LeO.ite ?_ ?_)
      | (with_reducible refine LeO.bind ?_ (fun _ => ?_))
      | exact ih0 _ _ _
      | exact ih1 _ _ _
      | exact ih2 _ _ _
      | exact LeO.none _
      | refine LeO.ite ?_ ?_
      | refine LeO.bind ?_ (fun _ => ?_)
set_option maxHeartbeats 8000000 in
set_option maxRecDepth 100000 in
theorem change_front.calls (k : Nat) (a0 : ByteArray) (a1 : ByteArray) (r : Int) (w : World) (h : change_front.f k a0 a1 = some r) :
    Calls Tryd.prog 42 #[.string a0, .string a1] w fun e w' => e = .returned (.int .i64 r) ∧ Below w.heap.size w w' := by
  have HB := Aside0.mk (Below.refl w.heap.size w)
  have H : (change_front.l0 k a0 a1 0) = some r := h
  clear h
  have HC3 := Aside0.mk H
  clear H
  go_enter Tryd.func42, Tryd.ntmps42
  go_upto_block 0 with (fail)
  repeat (go_quiet (fail); go_upto_block 0 with (fail))
  go_cut [5] (fun v5 wc => ∃ (kq : Nat) (x5_2 : Int), v5 = .int .i64 x5_2 ∧ Aside0 (change_front.j1 kq a0 a1 x5_2 = some r) ∧ Aside0 (kq ≤ k) ∧ Aside0 (Below w.heap.size w wc))
  case first =>
    have H := HC3.out
    clear HC3
    have H' := Aside0.mk H
    clear H
    go_wp2
    repeat (go_quiet (fail); try go_wp2)
    go_loopg [5] k (fun kq v5 w' => ∃ (x5_1 : Int), v5 = .int .i64 x5_1 ∧ Aside0 (change_front.l0 kq a0 a1 x5_1 = some r) ∧ Aside0 (kq ≤ k) ∧ Aside0 (Below w.heap.size w w'))
    case atStart => exact ⟨(0), (by first | rfl | (simp; done) | (simp [*]; done)), H', ⟨Nat.le_refl _⟩, ⟨by repeat (first | (with_reducible first | exact HB.out | apply below_alloc | apply pw_below_drewN | apply below_drew1) | exact HB.out)⟩⟩
    case round =>
      clear H'
      try clear p2
      obtain ⟨x5_1, rfl, HA, HK1, HB⟩ := hrel
      cases gk with
      | zero => exact absurd HA.out (by simp [change_front.l0])
      | succ k1 =>
        have H := HA.out
        clear HA
        simp only [change_front.l0] at H
        by_cases c4 : x5_1 < (a0.size : Int)
        · rw [if_pos c4] at H
          have c4b0 : decide (x5_1 < (a0.size : Int)) = true := decide_eq_true c4
          clear c4
          (first | rw [c4b0] | (simp only [i64_w, i32_w]; rw [c4b0]) | skip)
          by_cases c5 : x5_1 < (a1.size : Int)
          · rw [if_pos c5] at H
            have c5b0 : decide (x5_1 < (a1.size : Int)) = true := decide_eq_true c5
            clear c5
            by_cases c6 : 0 ≤ x5_1
            · rw [if_pos c6] at H
              have c6b0 : decide (0 ≤ x5_1) = true := decide_eq_true c6
              clear c6
              by_cases c9 : (bt a0 x5_1) = (bt a1 x5_1)
              · rw [if_pos c9] at H
                have c9b0 : ((bt a0 x5_1) == (bt a1 x5_1)) = true := beq_iff_eq.mpr c9
                have c9b1 : ((bt a0 x5_1) != (bt a1 x5_1)) = false := bne_eq_false_iff_eq.mpr c9
                clear c9
                have H' := Aside0.mk H
                clear H
                have p7 : 0 ≤ (x5_1 : Int) := of_decide_eq_true (by first | (with_reducible assumption) | assumption)
                have q7 : x5_1 < (a0.size : Int) := of_decide_eq_true (by first | (with_reducible assumption) | assumption)
                have hx7 := bt_at a0 x5_1
                replace p7 := eq_true p7
                replace q7 := eq_true q7
                have p8 : 0 ≤ (x5_1 : Int) := of_decide_eq_true (by first | (with_reducible assumption) | assumption)
                have q8 : x5_1 < (a1.size : Int) := of_decide_eq_true (by first | (with_reducible assumption) | assumption)
                have hx8 := bt_at a1 x5_1
                replace p8 := eq_true p8
                replace q8 := eq_true q8
                go_wp2
                repeat (go_quiet (fail); try go_wp2)
                go_roundg k1
                case measure => have := HK1.out; omega
                case rel => exact ⟨(wrap64 (x5_1 + 1)), (by first | rfl | (simp; done) | (simp [*]; done)), H', ⟨by have := HK1.out; omega⟩, ⟨by repeat (first | (with_reducible first | exact HB.out | apply below_alloc | apply pw_below_drewN | apply below_drew1) | exact HB.out)⟩⟩
              · rw [if_neg c9] at H
                have c9b0 : ((bt a0 x5_1) == (bt a1 x5_1)) = false := beq_eq_false_iff_ne.mpr c9
                have c9b1 : ((bt a0 x5_1) != (bt a1 x5_1)) = true := bne_iff_ne.mpr c9
                have H' := Aside0.mk H
                clear H
                have p7 : 0 ≤ (x5_1 : Int) := of_decide_eq_true (by first | (with_reducible assumption) | assumption)
                have q7 : x5_1 < (a0.size : Int) := of_decide_eq_true (by first | (with_reducible assumption) | assumption)
                have hx7 := bt_at a0 x5_1
                replace p7 := eq_true p7
                replace q7 := eq_true q7
                have p8 : 0 ≤ (x5_1 : Int) := of_decide_eq_true (by first | (with_reducible assumption) | assumption)
                have q8 : x5_1 < (a1.size : Int) := of_decide_eq_true (by first | (with_reducible assumption) | assumption)
                have hx8 := bt_at a1 x5_1
                replace p8 := eq_true p8
                replace q8 := eq_true q8
                go_wp2
                repeat (go_quiet (fail); try go_wp2)
                go_meet
                case rel => exact ⟨_, (x5_1), (by first | rfl | (simp; done) | (simp [*]; done)), H', ⟨by have := HK1.out; first | omega | exact Nat.le_refl _⟩, ⟨by repeat (first | (with_reducible first | exact HB.out | apply below_alloc | apply pw_below_drewN | apply below_drew1) | exact HB.out)⟩⟩
            · rw [if_neg c6] at H
              exact absurd H (by simp)
          · rw [if_neg c5] at H
            have c5b0 : decide (x5_1 < (a1.size : Int)) = false := decide_eq_false c5
            clear c5
            have H' := Aside0.mk H
            clear H
            go_wp2
            repeat (go_quiet (fail); try go_wp2)
            go_meet
            case rel => exact ⟨_, (x5_1), (by first | rfl | (simp; done) | (simp [*]; done)), H', ⟨by have := HK1.out; first | omega | exact Nat.le_refl _⟩, ⟨by repeat (first | (with_reducible first | exact HB.out | apply below_alloc | apply pw_below_drewN | apply below_drew1) | exact HB.out)⟩⟩
        · rw [if_neg c4] at H
          have c4b0 : decide (x5_1 < (a0.size : Int)) = false := decide_eq_false c4
          clear c4
          (first | rw [c4b0] | (simp only [i64_w, i32_w]; rw [c4b0]) | skip)
          have H' := Aside0.mk H
          clear H
          go_wp2
          repeat (go_quiet (fail); try go_wp2)
          go_meet
          case rel => exact ⟨_, (x5_1), (by first | rfl | (simp; done) | (simp [*]; done)), H', ⟨by have := HK1.out; first | omega | exact Nat.le_refl _⟩, ⟨by repeat (first | (with_reducible first | exact HB.out | apply below_alloc | apply pw_below_drewN | apply below_drew1) | exact HB.out)⟩⟩
  case rest =>
    clear HC3
    try clear p2
    try clear c4
    try clear c4b0
    try clear c5
    try clear c5b0
    try clear c6
    try clear c6b0
    try clear p6
    try clear p7
    try clear q7
    try clear hx7
    try clear p8
    try clear q8
    try clear hx8
    try clear c9
    try clear c9b0
    try clear c9b1
    try clear p2
    try clear p7
    try clear p8
    try clear q7
    try clear q8
    obtain ⟨kq, x5_2, rfl, HA, HJ2, HB⟩ := hcut
    cases kq with
    | zero => exact absurd HA.out (by simp [change_front.j1])
    | succ kj2 =>
      have H := HA.out
      clear HA
      simp only [change_front.j1] at H
      have H' := Aside0.mk H
      clear H
      go_wp2
      repeat (go_quiet (fail); try go_wp2)
      go_loopg [5] kj2 (fun kq v5 w' => ∃ (x5_2 : Int), v5 = .int .i64 x5_2 ∧ Aside0 (change_front.l1 kq a0 a1 x5_2 = some r) ∧ Aside0 (kq ≤ kj2) ∧ Aside0 (Below w.heap.size w w'))
      case atStart => exact ⟨(x5_2), (by first | rfl | (simp; done) | (simp [*]; done)), H', ⟨Nat.le_refl _⟩, ⟨by repeat (first | (with_reducible first | exact HB.out | apply below_alloc | apply pw_below_drewN | apply below_drew1) | exact HB.out)⟩⟩
      case round =>
        clear H'
        try clear p2
        try clear c4
        try clear c4b0
        try clear c5
        try clear c5b0
        try clear c6
        try clear c6b0
        try clear p6
        try clear p7
        try clear q7
        try clear hx7
        try clear p8
        try clear q8
        try clear hx8
        try clear c9
        try clear c9b0
        try clear c9b1
        try clear p2
        try clear p6
        try clear p7
        try clear p8
        try clear q7
        try clear q8
        obtain ⟨x5_2, rfl, HA, HK2, HB⟩ := hrel
        cases gk with
        | zero => exact absurd HA.out (by simp [change_front.l1])
        | succ k2 =>
          have H := HA.out
          clear HA
          simp only [change_front.l1] at H
          replace H := Option.bind_eq_some_iff.mp H
          obtain ⟨t178, A100, H⟩ := H
          replace H : (if t178 = true then ((utf_Place.f a1 x5_2).bind fun t179 => (if t179 = true then (some x5_2) else (change_front.l1 k2 a0 a1 (wrap64 (x5_2 - 1))))) else (change_front.l1 k2 a0 a1 (wrap64 (x5_2 - 1)))) = some r := H
          have A10 := Aside0.mk A100
          clear A100
          by_cases c11 : t178 = true
          · subst c11
            have H1 : ((utf_Place.f a1 x5_2).bind fun t179 => (if t179 = true then (some x5_2) else (change_front.l1 k2 a0 a1 (wrap64 (x5_2 - 1))))) = some r := by rw [if_pos rfl] at H; exact H
            clear H
            have H := H1
            clear H1
            replace H := Option.bind_eq_some_iff.mp H
            obtain ⟨t179, A120, H⟩ := H
            replace H : (if t179 = true then (some x5_2) else (change_front.l1 k2 a0 a1 (wrap64 (x5_2 - 1)))) = some r := H
            have A12 := Aside0.mk A120
            clear A120
            by_cases c13 : t179 = true
            · subst c13
              have H1 : (some x5_2) = some r := by rw [if_pos rfl] at H; exact H
              clear H
              have H := H1
              clear H1
              obtain rfl := Option.some.inj H
              go_wp2_with (first | (go_at_call 19; (with_reducible refine (utf_Place.calls a0 x5_2 true _ A10.out).mono ?_); rintro e w14 ⟨rfl, hb⟩; have n0_ := Aside0.mk (below_step (by repeat (first | (with_reducible first | exact HB.out | apply below_alloc | apply pw_below_drewN | apply below_drew1) | exact HB.out)) hb); clear HB; have HB := n0_; clear n0_; (try clear hb); (try clear hb2); (try clear hk); (try clear hi)) | (go_at_call 19; (with_reducible refine (utf_Place.calls a1 x5_2 true _ A12.out).mono ?_); rintro e w15 ⟨rfl, hb⟩; have n0_ := Aside0.mk (below_step (by repeat (first | (with_reducible first | exact HB.out | apply below_alloc | apply pw_below_drewN | apply below_drew1) | exact HB.out)) hb); clear HB; have HB := n0_; clear n0_; (try clear hb); (try clear hb2); (try clear hk); (try clear hi)))
              repeat (go_quiet (first | (go_at_call 19; (with_reducible refine (utf_Place.calls a0 x5_2 true _ A10.out).mono ?_); rintro e w14 ⟨rfl, hb⟩; have n0_ := Aside0.mk (below_step (by repeat (first | (with_reducible first | exact HB.out | apply below_alloc | apply pw_below_drewN | apply below_drew1) | exact HB.out)) hb); clear HB; have HB := n0_; clear n0_; (try clear hb); (try clear hb2); (try clear hk); (try clear hi)) | (go_at_call 19; (with_reducible refine (utf_Place.calls a1 x5_2 true _ A12.out).mono ?_); rintro e w15 ⟨rfl, hb⟩; have n0_ := Aside0.mk (below_step (by repeat (first | (with_reducible first | exact HB.out | apply below_alloc | apply pw_below_drewN | apply below_drew1) | exact HB.out)) hb); clear HB; have HB := n0_; clear n0_; (try clear hb); (try clear hb2); (try clear hk); (try clear hi))); try go_wp2_with (first | (go_at_call 19; (with_reducible refine (utf_Place.calls a0 x5_2 true _ A10.out).mono ?_); rintro e w14 ⟨rfl, hb⟩; have n0_ := Aside0.mk (below_step (by repeat (first | (with_reducible first | exact HB.out | apply below_alloc | apply pw_below_drewN | apply below_drew1) | exact HB.out)) hb); clear HB; have HB := n0_; clear n0_; (try clear hb); (try clear hb2); (try clear hk); (try clear hi)) | (go_at_call 19; (with_reducible refine (utf_Place.calls a1 x5_2 true _ A12.out).mono ?_); rintro e w15 ⟨rfl, hb⟩; have n0_ := Aside0.mk (below_step (by repeat (first | (with_reducible first | exact HB.out | apply below_alloc | apply pw_below_drewN | apply below_drew1) | exact HB.out)) hb); clear HB; have HB := n0_; clear n0_; (try clear hb); (try clear hb2); (try clear hk); (try clear hi))))
              go_ret
              exact ⟨by first | rfl | (simp [errW_none, errW_some] <;> rfl) | (simp [*, errW_none, errW_some] <;> rfl), by repeat (first | (with_reducible first | exact HB.out | apply below_alloc | apply pw_below_drewN | apply below_drew1) | exact HB.out)⟩
            · replace c13 := Bool.eq_false_iff.mpr c13
              subst c13
              have H1 : (change_front.l1 k2 a0 a1 (wrap64 (x5_2 - 1))) = some r := by rw [if_neg (show ¬ (false = true) by decide)] at H; exact H
              clear H
              have H := H1
              clear H1
              have H' := Aside0.mk H
              clear H
              go_wp2_with (first | (go_at_call 19; (with_reducible refine (utf_Place.calls a0 x5_2 true _ A10.out).mono ?_); rintro e w16 ⟨rfl, hb⟩; have n0_ := Aside0.mk (below_step (by repeat (first | (with_reducible first | exact HB.out | apply below_alloc | apply pw_below_drewN | apply below_drew1) | exact HB.out)) hb); clear HB; have HB := n0_; clear n0_; (try clear hb); (try clear hb2); (try clear hk); (try clear hi)) | (go_at_call 19; (with_reducible refine (utf_Place.calls a1 x5_2 false _ A12.out).mono ?_); rintro e w17 ⟨rfl, hb⟩; have n0_ := Aside0.mk (below_step (by repeat (first | (with_reducible first | exact HB.out | apply below_alloc | apply pw_below_drewN | apply below_drew1) | exact HB.out)) hb); clear HB; have HB := n0_; clear n0_; (try clear hb); (try clear hb2); (try clear hk); (try clear hi)))
              repeat (go_quiet (first | (go_at_call 19; (with_reducible refine (utf_Place.calls a0 x5_2 true _ A10.out).mono ?_); rintro e w16 ⟨rfl, hb⟩; have n0_ := Aside0.mk (below_step (by repeat (first | (with_reducible first | exact HB.out | apply below_alloc | apply pw_below_drewN | apply below_drew1) | exact HB.out)) hb); clear HB; have HB := n0_; clear n0_; (try clear hb); (try clear hb2); (try clear hk); (try clear hi)) | (go_at_call 19; (with_reducible refine (utf_Place.calls a1 x5_2 false _ A12.out).mono ?_); rintro e w17 ⟨rfl, hb⟩; have n0_ := Aside0.mk (below_step (by repeat (first | (with_reducible first | exact HB.out | apply below_alloc | apply pw_below_drewN | apply below_drew1) | exact HB.out)) hb); clear HB; have HB := n0_; clear n0_; (try clear hb); (try clear hb2); (try clear hk); (try clear hi))); try go_wp2_with (first | (go_at_call 19; (with_reducible refine (utf_Place.calls a0 x5_2 true _ A10.out).mono ?_); rintro e w16 ⟨rfl, hb⟩; have n0_ := Aside0.mk (below_step (by repeat (first | (with_reducible first | exact HB.out | apply below_alloc | apply pw_below_drewN | apply below_drew1) | exact HB.out)) hb); clear HB; have HB := n0_; clear n0_; (try clear hb); (try clear hb2); (try clear hk); (try clear hi)) | (go_at_call 19; (with_reducible refine (utf_Place.calls a1 x5_2 false _ A12.out).mono ?_); rintro e w17 ⟨rfl, hb⟩; have n0_ := Aside0.mk (below_step (by repeat (first | (with_reducible first | exact HB.out | apply below_alloc | apply pw_below_drewN | apply below_drew1) | exact HB.out)) hb); clear HB; have HB := n0_; clear n0_; (try clear hb); (try clear hb2); (try clear hk); (try clear hi))))
              go_roundg k2
              case measure => have := HJ2.out; have := HK2.out; omega
              case rel => exact ⟨(wrap64 (x5_2 - 1)), (by first | rfl | (simp; done) | (simp [*]; done)), H', ⟨by have := HJ2.out; have := HK2.out; omega⟩, ⟨by repeat (first | (with_reducible first | exact HB.out | apply below_alloc | apply pw_below_drewN | apply below_drew1) | exact HB.out)⟩⟩
          · replace c11 := Bool.eq_false_iff.mpr c11
            subst c11
            have H1 : (change_front.l1 k2 a0 a1 (wrap64 (x5_2 - 1))) = some r := by rw [if_neg (show ¬ (false = true) by decide)] at H; exact H
            clear H
            have H := H1
            clear H1
            have H' := Aside0.mk H
            clear H
            go_wp2_with (first | (go_at_call 19; (with_reducible refine (utf_Place.calls a0 x5_2 false _ A10.out).mono ?_); rintro e w18 ⟨rfl, hb⟩; have n0_ := Aside0.mk (below_step (by repeat (first | (with_reducible first | exact HB.out | apply below_alloc | apply pw_below_drewN | apply below_drew1) | exact HB.out)) hb); clear HB; have HB := n0_; clear n0_; (try clear hb); (try clear hb2); (try clear hk); (try clear hi)))
            repeat (go_quiet (first | (go_at_call 19; (with_reducible refine (utf_Place.calls a0 x5_2 false _ A10.out).mono ?_); rintro e w18 ⟨rfl, hb⟩; have n0_ := Aside0.mk (below_step (by repeat (first | (with_reducible first | exact HB.out | apply below_alloc | apply pw_below_drewN | apply below_drew1) | exact HB.out)) hb); clear HB; have HB := n0_; clear n0_; (try clear hb); (try clear hb2); (try clear hk); (try clear hi))); try go_wp2_with (first | (go_at_call 19; (with_reducible refine (utf_Place.calls a0 x5_2 false _ A10.out).mono ?_); rintro e w18 ⟨rfl, hb⟩; have n0_ := Aside0.mk (below_step (by repeat (first | (with_reducible first | exact HB.out | apply below_alloc | apply pw_below_drewN | apply below_drew1) | exact HB.out)) hb); clear HB; have HB := n0_; clear n0_; (try clear hb); (try clear hb2); (try clear hk); (try clear hi))))
            go_roundg k2
            case measure => have := HJ2.out; have := HK2.out; omega
            case rel => exact ⟨(wrap64 (x5_2 - 1)), (by first | rfl | (simp; done) | (simp [*]; done)), H', ⟨by have := HJ2.out; have := HK2.out; omega⟩, ⟨by repeat (first | (with_reducible first | exact HB.out | apply below_alloc | apply pw_below_drewN | apply below_drew1) | exact HB.out)⟩⟩

/-! ### change_back -/
mutual
def change_back.j1 : Nat → ByteArray → ByteArray → Int → Option (Int)
  | 0, _, _, _ => none
  | k + 1, x0, x1, x5 => change_back.l1 k x0 x1 x5
def change_back.l1 : Nat → ByteArray → ByteArray → Int → Option (Int)
  | 0, _, _, _ => none
  | k + 1, x0, x1, x5 => (utf_Place.f x0 (wrap64 ((x0.size : Int) - x5))).bind fun t180 => (if t180 = true then ((utf_Place.f x1 (wrap64 ((x1.size : Int) - x5))).bind fun t181 => (if t181 = true then (some x5) else (change_back.l1 k x0 x1 (wrap64 (x5 - 1))))) else (change_back.l1 k x0 x1 (wrap64 (x5 - 1))))
def change_back.l0 : Nat → ByteArray → ByteArray → Int → Option (Int)
  | 0, _, _, _ => none
  | k + 1, x0, x1, x5 => if x5 < (x0.size : Int) then (if x5 < (x1.size : Int) then (if 0 ≤ (wrap64 ((wrap64 ((x0.size : Int) - 1)) - x5)) then (if (wrap64 ((wrap64 ((x0.size : Int) - 1)) - x5)) < (x0.size : Int) then (if 0 ≤ (wrap64 ((wrap64 ((x1.size : Int) - 1)) - x5)) then (if (wrap64 ((wrap64 ((x1.size : Int) - 1)) - x5)) < (x1.size : Int) then (if (bt x0 (wrap64 ((wrap64 ((x0.size : Int) - 1)) - x5))) = (bt x1 (wrap64 ((wrap64 ((x1.size : Int) - 1)) - x5))) then (change_back.l0 k x0 x1 (wrap64 (x5 + 1))) else (change_back.j1 k x0 x1 x5)) else (none)) else (none)) else (none)) else (none)) else (change_back.j1 k x0 x1 x5)) else (change_back.j1 k x0 x1 x5)
end
def change_back.f (k : Nat) (a0 : ByteArray) (a1 : ByteArray) : Option (Int) := change_back.l0 k a0 a1 0
theorem change_back.mono_l : ∀ k, (∀ y0 y1 y2, LeO (change_back.j1 k y0 y1 y2) (change_back.j1 (k + 1) y0 y1 y2)) ∧ (∀ y0 y1 y2, LeO (change_back.l1 k y0 y1 y2) (change_back.l1 (k + 1) y0 y1 y2)) ∧ (∀ y0 y1 y2, LeO (change_back.l0 k y0 y1 y2) (change_back.l0 (k + 1) y0 y1 y2))
  | 0 => ⟨fun _ _ _ r h => by simp [change_back.j1] at h, fun _ _ _ r h => by simp [change_back.l1] at h, fun _ _ _ r h => by simp [change_back.l0] at h⟩
  | k + 1 => by
    obtain ⟨ih0, ih1, ih2⟩ := change_back.mono_l k
    refine ⟨?_, ?_, ?_⟩
    · intro y0 y1 y2
      unfold change_back.j1
      repeat' first
      | (with_reducible exact ih0 _ _ _)
      | (with_reducible exact ih1 _ _ _)
      | (with_reducible exact ih2 _ _ _)
      | (with_reducible exact LeO.refl _)
      | (with_reducible exact LeO.none _)
      | (with_reducible refine LeO.ite ?_ ?_)
      | (with_reducible refine LeO.bind ?_ (fun _ => ?_))
      | exact ih0 _ _ _
      | exact ih1 _ _ _
      | exact ih2 _ _ _
      | exact LeO.none _
      | refine LeO.ite ?_ ?_
      | refine LeO.bind ?_ (fun _ => ?_)
    · intro y0 y1 y2
      unfold change_back.l1
      repeat' first
      | (with_reducible exact ih0 _ _ _)
      | (with_reducible exact ih1 _ _ _)
      | (with_reducible exact ih2 _ _ _)
      | (with_reducible exact LeO.refl _)
      | (with_reducible exact LeO.none _)
      | (with_reducible refine LeO.ite ?_ ?_)
      | (with_reducible refine LeO.bind ?_ (fun _ => ?_))
      | exact ih0 _ _ _
      | exact ih1 _ _ _
      | exact ih2 _ _ _
      | exact LeO.none _
      | refine LeO.ite ?_ ?_
      | refine LeO.bind ?_ (fun _ => ?_)
    · intro y0 y1 y2
      unfold change_back.l0
      repeat' first
      | (with_reducible exact ih0 _ _ _)
      | (with_reducible exact ih1 _ _ _)
      | (with_reducible exact ih2 _ _ _)
      | (with_reducible exact LeO.refl _)
      | (with_reducible exact LeO.none _)
      | (with_reducible refine LeO.ite ?_ ?_)
      | (with_reducible refine LeO.bind ?_ (fun _ => ?_))
      | exact ih0 _ _ _
      | exact ih1 _ _ _
      | exact ih2 _ _ _
      | exact LeO.none _
      | refine LeO.ite ?_ ?_
      | refine LeO.bind ?_ (fun _ => ?_)
theorem change_back.mono : ∀ a0 a1 k, LeO (change_back.f k a0 a1) (change_back.f (k + 1) a0 a1) := by
  intro a0 a1 k
  obtain ⟨ih0, ih1, ih2⟩ := change_back.mono_l k
  unfold change_back.f
  repeat' first
      | (with_reducible exact ih0 _ _ _)
      | (with_reducible exact ih1 _ _ _)
      | (with_reducible exact ih2 _ _ _)
      | (with_reducible exact LeO.refl _)
      | (with_reducible exact LeO.none _)
      | (with_reducible refine LeO.ite ?_ ?_)
      | (with_reducible refine LeO.bind ?_ (fun _ => ?_))
      | exact ih0 _ _ _
      | exact ih1 _ _ _
      | exact ih2 _ _ _
      | exact LeO.none _
      | refine LeO.ite ?_ ?_
      | refine LeO.bind ?_ (fun _ => ?_)
set_option maxHeartbeats 8000000 in
set_option maxRecDepth 100000 in
theorem change_back.calls (k : Nat) (a0 : ByteArray) (a1 : ByteArray) (r : Int) (w : World) (h : change_back.f k a0 a1 = some r) :
    Calls Tryd.prog 43 #[.string a0, .string a1] w fun e w' => e = .returned (.int .i64 r) ∧ Below w.heap.size w w' := by
  have HB := Aside0.mk (Below.refl w.heap.size w)
  have H : (change_back.l0 k a0 a1 0) = some r := h
  clear h
  have HC3 := Aside0.mk H
  clear H
  go_enter Tryd.func43, Tryd.ntmps43
  go_upto_block 0 with (fail)
  repeat (go_quiet (fail); go_upto_block 0 with (fail))
  go_cut [5] (fun v5 wc => ∃ (kq : Nat) (x5_2 : Int), v5 = .int .i64 x5_2 ∧ Aside0 (change_back.j1 kq a0 a1 x5_2 = some r) ∧ Aside0 (kq ≤ k) ∧ Aside0 (Below w.heap.size w wc))
  case first =>
    have H := HC3.out
    clear HC3
    have H' := Aside0.mk H
    clear H
    go_wp2
    repeat (go_quiet (fail); try go_wp2)
    go_loopg [5] k (fun kq v5 w' => ∃ (x5_1 : Int), v5 = .int .i64 x5_1 ∧ Aside0 (change_back.l0 kq a0 a1 x5_1 = some r) ∧ Aside0 (kq ≤ k) ∧ Aside0 (Below w.heap.size w w'))
    case atStart => exact ⟨(0), (by first | rfl | (simp; done) | (simp [*]; done)), H', ⟨Nat.le_refl _⟩, ⟨by repeat (first | (with_reducible first | exact HB.out | apply below_alloc | apply pw_below_drewN | apply below_drew1) | exact HB.out)⟩⟩
    case round =>
      clear H'
      try clear p2
      obtain ⟨x5_1, rfl, HA, HK1, HB⟩ := hrel
      cases gk with
      | zero => exact absurd HA.out (by simp [change_back.l0])
      | succ k1 =>
        have H := HA.out
        clear HA
        simp only [change_back.l0] at H
        by_cases c4 : x5_1 < (a0.size : Int)
        · rw [if_pos c4] at H
          have c4b0 : decide (x5_1 < (a0.size : Int)) = true := decide_eq_true c4
          clear c4
          (first | rw [c4b0] | (simp only [i64_w, i32_w]; rw [c4b0]) | skip)
          by_cases c5 : x5_1 < (a1.size : Int)
          · rw [if_pos c5] at H
            have c5b0 : decide (x5_1 < (a1.size : Int)) = true := decide_eq_true c5
            clear c5
            obtain ⟨ji6, hji6⟩ : ∃ j_ : Int, (wrap64 ((wrap64 ((a0.size : Int) - 1)) - x5_1)) = j_ := ⟨_, rfl⟩
            replace H : (if 0 ≤ (ji6) then (if (ji6) < (a0.size : Int) then (if 0 ≤ (wrap64 ((wrap64 ((a1.size : Int) - 1)) - x5_1)) then (if (wrap64 ((wrap64 ((a1.size : Int) - 1)) - x5_1)) < (a1.size : Int) then (if (bt a0 (ji6)) = (bt a1 (wrap64 ((wrap64 ((a1.size : Int) - 1)) - x5_1))) then (change_back.l0 k1 a0 a1 (wrap64 (x5_1 + 1))) else (change_back.j1 k1 a0 a1 x5_1)) else (none)) else (none)) else (none)) else (none)) = some r := by first | (rw [hji6] at H; exact H) | (simp only [hji6] at H ⊢; exact H)
            have hji6w : (IntKind.i64.wrap ((wrap64 ((a0.size : Int) - 1)) - x5_1)) = ji6 := (i64_w _).trans hji6
            by_cases c7 : 0 ≤ (ji6)
            · rw [if_pos c7] at H
              have c7b0 : decide (0 ≤ (ji6)) = true := decide_eq_true c7
              clear c7
              by_cases c8 : (ji6) < (a0.size : Int)
              · rw [if_pos c8] at H
                have c8b0 : decide ((ji6) < (a0.size : Int)) = true := decide_eq_true c8
                clear c8
                obtain ⟨ji10, hji10⟩ : ∃ j_ : Int, (wrap64 ((wrap64 ((a1.size : Int) - 1)) - x5_1)) = j_ := ⟨_, rfl⟩
                replace H : (if 0 ≤ (ji10) then (if (ji10) < (a1.size : Int) then (if (bt a0 (ji6)) = (bt a1 (ji10)) then (change_back.l0 k1 a0 a1 (wrap64 (x5_1 + 1))) else (change_back.j1 k1 a0 a1 x5_1)) else (none)) else (none)) = some r := by first | (rw [hji10] at H; exact H) | (simp only [hji10] at H ⊢; exact H)
                have hji10w : (IntKind.i64.wrap ((wrap64 ((a1.size : Int) - 1)) - x5_1)) = ji10 := (i64_w _).trans hji10
                by_cases c11 : 0 ≤ (ji10)
                · rw [if_pos c11] at H
                  have c11b0 : decide (0 ≤ (ji10)) = true := decide_eq_true c11
                  clear c11
                  by_cases c12 : (ji10) < (a1.size : Int)
                  · rw [if_pos c12] at H
                    have c12b0 : decide ((ji10) < (a1.size : Int)) = true := decide_eq_true c12
                    clear c12
                    by_cases c14 : (bt a0 (ji6)) = (bt a1 (ji10))
                    · rw [if_pos c14] at H
                      have c14b0 : ((bt a0 (ji6)) == (bt a1 (ji10))) = true := beq_iff_eq.mpr c14
                      have c14b1 : ((bt a0 (ji6)) != (bt a1 (ji10))) = false := bne_eq_false_iff_eq.mpr c14
                      clear c14
                      have H' := Aside0.mk H
                      clear H
                      have p9 : 0 ≤ ((ji6) : Int) := of_decide_eq_true (by first | (with_reducible assumption) | assumption)
                      have q9 : (ji6) < (a0.size : Int) := of_decide_eq_true (by first | (with_reducible assumption) | assumption)
                      have hx9 := bt_at a0 (ji6)
                      replace p9 := eq_true p9
                      replace q9 := eq_true q9
                      have p13 : 0 ≤ ((ji10) : Int) := of_decide_eq_true (by first | (with_reducible assumption) | assumption)
                      have q13 : (ji10) < (a1.size : Int) := of_decide_eq_true (by first | (with_reducible assumption) | assumption)
                      have hx13 := bt_at a1 (ji10)
                      replace p13 := eq_true p13
                      replace q13 := eq_true q13
                      go_wp2
                      repeat (go_quiet (fail); try go_wp2)
                      go_roundg k1
                      case measure => have := HK1.out; omega
                      case rel => exact ⟨(wrap64 (x5_1 + 1)), (by first | rfl | (simp; done) | (simp [*]; done)), H', ⟨by have := HK1.out; omega⟩, ⟨by repeat (first | (with_reducible first | exact HB.out | apply below_alloc | apply pw_below_drewN | apply below_drew1) | exact HB.out)⟩⟩
                    · rw [if_neg c14] at H
                      have c14b0 : ((bt a0 (ji6)) == (bt a1 (ji10))) = false := beq_eq_false_iff_ne.mpr c14
                      have c14b1 : ((bt a0 (ji6)) != (bt a1 (ji10))) = true := bne_iff_ne.mpr c14
                      have H' := Aside0.mk H
                      clear H
                      have p9 : 0 ≤ ((ji6) : Int) := of_decide_eq_true (by first | (with_reducible assumption) | assumption)
                      have q9 : (ji6) < (a0.size : Int) := of_decide_eq_true (by first | (with_reducible assumption) | assumption)
                      have hx9 := bt_at a0 (ji6)
                      replace p9 := eq_true p9
                      replace q9 := eq_true q9
                      have p13 : 0 ≤ ((ji10) : Int) := of_decide_eq_true (by first | (with_reducible assumption) | assumption)
                      have q13 : (ji10) < (a1.size : Int) := of_decide_eq_true (by first | (with_reducible assumption) | assumption)
                      have hx13 := bt_at a1 (ji10)
                      replace p13 := eq_true p13
                      replace q13 := eq_true q13
                      go_wp2
                      repeat (go_quiet (fail); try go_wp2)
                      go_meet
                      case rel => exact ⟨_, (x5_1), (by first | rfl | (simp; done) | (simp [*]; done)), H', ⟨by have := HK1.out; first | omega | exact Nat.le_refl _⟩, ⟨by repeat (first | (with_reducible first | exact HB.out | apply below_alloc | apply pw_below_drewN | apply below_drew1) | exact HB.out)⟩⟩
                  · rw [if_neg c12] at H
                    exact absurd H (by simp)
                · rw [if_neg c11] at H
                  exact absurd H (by simp)
              · rw [if_neg c8] at H
                exact absurd H (by simp)
            · rw [if_neg c7] at H
              exact absurd H (by simp)
          · rw [if_neg c5] at H
            have c5b0 : decide (x5_1 < (a1.size : Int)) = false := decide_eq_false c5
            clear c5
            have H' := Aside0.mk H
            clear H
            go_wp2
            repeat (go_quiet (fail); try go_wp2)
            go_meet
            case rel => exact ⟨_, (x5_1), (by first | rfl | (simp; done) | (simp [*]; done)), H', ⟨by have := HK1.out; first | omega | exact Nat.le_refl _⟩, ⟨by repeat (first | (with_reducible first | exact HB.out | apply below_alloc | apply pw_below_drewN | apply below_drew1) | exact HB.out)⟩⟩
        · rw [if_neg c4] at H
          have c4b0 : decide (x5_1 < (a0.size : Int)) = false := decide_eq_false c4
          clear c4
          (first | rw [c4b0] | (simp only [i64_w, i32_w]; rw [c4b0]) | skip)
          have H' := Aside0.mk H
          clear H
          go_wp2
          repeat (go_quiet (fail); try go_wp2)
          go_meet
          case rel => exact ⟨_, (x5_1), (by first | rfl | (simp; done) | (simp [*]; done)), H', ⟨by have := HK1.out; first | omega | exact Nat.le_refl _⟩, ⟨by repeat (first | (with_reducible first | exact HB.out | apply below_alloc | apply pw_below_drewN | apply below_drew1) | exact HB.out)⟩⟩
  case rest =>
    clear HC3
    try clear c1
    try clear p1
    try clear q1
    try clear hx1
    try clear p2
    try clear c4
    try clear c4b0
    try clear c5
    try clear c5b0
    try clear p6
    try clear c7
    try clear c7b0
    try clear c8
    try clear c8b0
    try clear p9
    try clear q9
    try clear hx9
    try clear c11
    try clear c11b0
    try clear c12
    try clear c12b0
    try clear p13
    try clear q13
    try clear hx13
    try clear c14
    try clear c14b0
    try clear c14b1
    try clear p13
    try clear p2
    try clear p9
    try clear q13
    try clear q9
    obtain ⟨kq, x5_2, rfl, HA, HJ2, HB⟩ := hcut
    cases kq with
    | zero => exact absurd HA.out (by simp [change_back.j1])
    | succ kj2 =>
      have H := HA.out
      clear HA
      simp only [change_back.j1] at H
      have H' := Aside0.mk H
      clear H
      go_wp2
      repeat (go_quiet (fail); try go_wp2)
      go_loopg [5] kj2 (fun kq v5 w' => ∃ (x5_2 : Int), v5 = .int .i64 x5_2 ∧ Aside0 (change_back.l1 kq a0 a1 x5_2 = some r) ∧ Aside0 (kq ≤ kj2) ∧ Aside0 (Below w.heap.size w w'))
      case atStart => exact ⟨(x5_2), (by first | rfl | (simp; done) | (simp [*]; done)), H', ⟨Nat.le_refl _⟩, ⟨by repeat (first | (with_reducible first | exact HB.out | apply below_alloc | apply pw_below_drewN | apply below_drew1) | exact HB.out)⟩⟩
      case round =>
        clear H'
        try clear c1
        try clear p1
        try clear q1
        try clear hx1
        try clear p2
        try clear c4
        try clear c4b0
        try clear c5
        try clear c5b0
        try clear p6
        try clear c7
        try clear c7b0
        try clear c8
        try clear c8b0
        try clear p9
        try clear q9
        try clear hx9
        try clear c11
        try clear c11b0
        try clear c12
        try clear c12b0
        try clear p13
        try clear q13
        try clear hx13
        try clear c14
        try clear c14b0
        try clear c14b1
        try clear p1
        try clear p13
        try clear p2
        try clear p6
        try clear p9
        try clear q1
        try clear q13
        try clear q9
        obtain ⟨x5_2, rfl, HA, HK2, HB⟩ := hrel
        cases gk with
        | zero => exact absurd HA.out (by simp [change_back.l1])
        | succ k2 =>
          have H := HA.out
          clear HA
          simp only [change_back.l1] at H
          replace H := Option.bind_eq_some_iff.mp H
          obtain ⟨t180, A150, H⟩ := H
          replace H : (if t180 = true then ((utf_Place.f a1 (wrap64 ((a1.size : Int) - x5_2))).bind fun t181 => (if t181 = true then (some x5_2) else (change_back.l1 k2 a0 a1 (wrap64 (x5_2 - 1))))) else (change_back.l1 k2 a0 a1 (wrap64 (x5_2 - 1)))) = some r := H
          have A15 := Aside0.mk A150
          clear A150
          by_cases c16 : t180 = true
          · subst c16
            have H1 : ((utf_Place.f a1 (wrap64 ((a1.size : Int) - x5_2))).bind fun t181 => (if t181 = true then (some x5_2) else (change_back.l1 k2 a0 a1 (wrap64 (x5_2 - 1))))) = some r := by rw [if_pos rfl] at H; exact H
            clear H
            have H := H1
            clear H1
            replace H := Option.bind_eq_some_iff.mp H
            obtain ⟨t181, A170, H⟩ := H
            replace H : (if t181 = true then (some x5_2) else (change_back.l1 k2 a0 a1 (wrap64 (x5_2 - 1)))) = some r := H
            have A17 := Aside0.mk A170
            clear A170
            by_cases c18 : t181 = true
            · subst c18
              have H1 : (some x5_2) = some r := by rw [if_pos rfl] at H; exact H
              clear H
              have H := H1
              clear H1
              obtain rfl := Option.some.inj H
              go_wp2_with (first | (go_at_call 19; (with_reducible refine (utf_Place.calls a0 (wrap64 ((a0.size : Int) - x5_2)) true _ A15.out).mono ?_); rintro e w19 ⟨rfl, hb⟩; have n0_ := Aside0.mk (below_step (by repeat (first | (with_reducible first | exact HB.out | apply below_alloc | apply pw_below_drewN | apply below_drew1) | exact HB.out)) hb); clear HB; have HB := n0_; clear n0_; (try clear hb); (try clear hb2); (try clear hk); (try clear hi)) | (go_at_call 19; (with_reducible refine (utf_Place.calls a1 (wrap64 ((a1.size : Int) - x5_2)) true _ A17.out).mono ?_); rintro e w20 ⟨rfl, hb⟩; have n0_ := Aside0.mk (below_step (by repeat (first | (with_reducible first | exact HB.out | apply below_alloc | apply pw_below_drewN | apply below_drew1) | exact HB.out)) hb); clear HB; have HB := n0_; clear n0_; (try clear hb); (try clear hb2); (try clear hk); (try clear hi)))
              repeat (go_quiet (first | (go_at_call 19; (with_reducible refine (utf_Place.calls a0 (wrap64 ((a0.size : Int) - x5_2)) true _ A15.out).mono ?_); rintro e w19 ⟨rfl, hb⟩; have n0_ := Aside0.mk (below_step (by repeat (first | (with_reducible first | exact HB.out | apply below_alloc | apply pw_below_drewN | apply below_drew1) | exact HB.out)) hb); clear HB; have HB := n0_; clear n0_; (try clear hb); (try clear hb2); (try clear hk); (try clear hi)) | (go_at_call 19; (with_reducible refine (utf_Place.calls a1 (wrap64 ((a1.size : Int) - x5_2)) true _ A17.out).mono ?_); rintro e w20 ⟨rfl, hb⟩; have n0_ := Aside0.mk (below_step (by repeat (first | (with_reducible first | exact HB.out | apply below_alloc | apply pw_below_drewN | apply below_drew1) | exact HB.out)) hb); clear HB; have HB := n0_; clear n0_; (try clear hb); (try clear hb2); (try clear hk); (try clear hi))); try go_wp2_with (first | (go_at_call 19; (with_reducible refine (utf_Place.calls a0 (wrap64 ((a0.size : Int) - x5_2)) true _ A15.out).mono ?_); rintro e w19 ⟨rfl, hb⟩; have n0_ := Aside0.mk (below_step (by repeat (first | (with_reducible first | exact HB.out | apply below_alloc | apply pw_below_drewN | apply below_drew1) | exact HB.out)) hb); clear HB; have HB := n0_; clear n0_; (try clear hb); (try clear hb2); (try clear hk); (try clear hi)) | (go_at_call 19; (with_reducible refine (utf_Place.calls a1 (wrap64 ((a1.size : Int) - x5_2)) true _ A17.out).mono ?_); rintro e w20 ⟨rfl, hb⟩; have n0_ := Aside0.mk (below_step (by repeat (first | (with_reducible first | exact HB.out | apply below_alloc | apply pw_below_drewN | apply below_drew1) | exact HB.out)) hb); clear HB; have HB := n0_; clear n0_; (try clear hb); (try clear hb2); (try clear hk); (try clear hi))))
              go_ret
              exact ⟨by first | rfl | (simp [errW_none, errW_some] <;> rfl) | (simp [*, errW_none, errW_some] <;> rfl), by repeat (first | (with_reducible first | exact HB.out | apply below_alloc | apply pw_below_drewN | apply below_drew1) | exact HB.out)⟩
            · replace c18 := Bool.eq_false_iff.mpr c18
              subst c18
              have H1 : (change_back.l1 k2 a0 a1 (wrap64 (x5_2 - 1))) = some r := by rw [if_neg (show ¬ (false = true) by decide)] at H; exact H
              clear H
              have H := H1
              clear H1
              have H' := Aside0.mk H
              clear H
              go_wp2_with (first | (go_at_call 19; (with_reducible refine (utf_Place.calls a0 (wrap64 ((a0.size : Int) - x5_2)) true _ A15.out).mono ?_); rintro e w21 ⟨rfl, hb⟩; have n0_ := Aside0.mk (below_step (by repeat (first | (with_reducible first | exact HB.out | apply below_alloc | apply pw_below_drewN | apply below_drew1) | exact HB.out)) hb); clear HB; have HB := n0_; clear n0_; (try clear hb); (try clear hb2); (try clear hk); (try clear hi)) | (go_at_call 19; (with_reducible refine (utf_Place.calls a1 (wrap64 ((a1.size : Int) - x5_2)) false _ A17.out).mono ?_); rintro e w22 ⟨rfl, hb⟩; have n0_ := Aside0.mk (below_step (by repeat (first | (with_reducible first | exact HB.out | apply below_alloc | apply pw_below_drewN | apply below_drew1) | exact HB.out)) hb); clear HB; have HB := n0_; clear n0_; (try clear hb); (try clear hb2); (try clear hk); (try clear hi)))
              repeat (go_quiet (first | (go_at_call 19; (with_reducible refine (utf_Place.calls a0 (wrap64 ((a0.size : Int) - x5_2)) true _ A15.out).mono ?_); rintro e w21 ⟨rfl, hb⟩; have n0_ := Aside0.mk (below_step (by repeat (first | (with_reducible first | exact HB.out | apply below_alloc | apply pw_below_drewN | apply below_drew1) | exact HB.out)) hb); clear HB; have HB := n0_; clear n0_; (try clear hb); (try clear hb2); (try clear hk); (try clear hi)) | (go_at_call 19; (with_reducible refine (utf_Place.calls a1 (wrap64 ((a1.size : Int) - x5_2)) false _ A17.out).mono ?_); rintro e w22 ⟨rfl, hb⟩; have n0_ := Aside0.mk (below_step (by repeat (first | (with_reducible first | exact HB.out | apply below_alloc | apply pw_below_drewN | apply below_drew1) | exact HB.out)) hb); clear HB; have HB := n0_; clear n0_; (try clear hb); (try clear hb2); (try clear hk); (try clear hi))); try go_wp2_with (first | (go_at_call 19; (with_reducible refine (utf_Place.calls a0 (wrap64 ((a0.size : Int) - x5_2)) true _ A15.out).mono ?_); rintro e w21 ⟨rfl, hb⟩; have n0_ := Aside0.mk (below_step (by repeat (first | (with_reducible first | exact HB.out | apply below_alloc | apply pw_below_drewN | apply below_drew1) | exact HB.out)) hb); clear HB; have HB := n0_; clear n0_; (try clear hb); (try clear hb2); (try clear hk); (try clear hi)) | (go_at_call 19; (with_reducible refine (utf_Place.calls a1 (wrap64 ((a1.size : Int) - x5_2)) false _ A17.out).mono ?_); rintro e w22 ⟨rfl, hb⟩; have n0_ := Aside0.mk (below_step (by repeat (first | (with_reducible first | exact HB.out | apply below_alloc | apply pw_below_drewN | apply below_drew1) | exact HB.out)) hb); clear HB; have HB := n0_; clear n0_; (try clear hb); (try clear hb2); (try clear hk); (try clear hi))))
              go_roundg k2
              case measure => have := HJ2.out; have := HK2.out; omega
              case rel => exact ⟨(wrap64 (x5_2 - 1)), (by first | rfl | (simp; done) | (simp [*]; done)), H', ⟨by have := HJ2.out; have := HK2.out; omega⟩, ⟨by repeat (first | (with_reducible first | exact HB.out | apply below_alloc | apply pw_below_drewN | apply below_drew1) | exact HB.out)⟩⟩
          · replace c16 := Bool.eq_false_iff.mpr c16
            subst c16
            have H1 : (change_back.l1 k2 a0 a1 (wrap64 (x5_2 - 1))) = some r := by rw [if_neg (show ¬ (false = true) by decide)] at H; exact H
            clear H
            have H := H1
            clear H1
            have H' := Aside0.mk H
            clear H
            go_wp2_with (first | (go_at_call 19; (with_reducible refine (utf_Place.calls a0 (wrap64 ((a0.size : Int) - x5_2)) false _ A15.out).mono ?_); rintro e w23 ⟨rfl, hb⟩; have n0_ := Aside0.mk (below_step (by repeat (first | (with_reducible first | exact HB.out | apply below_alloc | apply pw_below_drewN | apply below_drew1) | exact HB.out)) hb); clear HB; have HB := n0_; clear n0_; (try clear hb); (try clear hb2); (try clear hk); (try clear hi)))
            repeat (go_quiet (first | (go_at_call 19; (with_reducible refine (utf_Place.calls a0 (wrap64 ((a0.size : Int) - x5_2)) false _ A15.out).mono ?_); rintro e w23 ⟨rfl, hb⟩; have n0_ := Aside0.mk (below_step (by repeat (first | (with_reducible first | exact HB.out | apply below_alloc | apply pw_below_drewN | apply below_drew1) | exact HB.out)) hb); clear HB; have HB := n0_; clear n0_; (try clear hb); (try clear hb2); (try clear hk); (try clear hi))); try go_wp2_with (first | (go_at_call 19; (with_reducible refine (utf_Place.calls a0 (wrap64 ((a0.size : Int) - x5_2)) false _ A15.out).mono ?_); rintro e w23 ⟨rfl, hb⟩; have n0_ := Aside0.mk (below_step (by repeat (first | (with_reducible first | exact HB.out | apply below_alloc | apply pw_below_drewN | apply below_drew1) | exact HB.out)) hb); clear HB; have HB := n0_; clear n0_; (try clear hb); (try clear hb2); (try clear hk); (try clear hi))))
            go_roundg k2
            case measure => have := HJ2.out; have := HK2.out; omega
            case rel => exact ⟨(wrap64 (x5_2 - 1)), (by first | rfl | (simp; done) | (simp [*]; done)), H', ⟨by have := HJ2.out; have := HK2.out; omega⟩, ⟨by repeat (first | (with_reducible first | exact HB.out | apply below_alloc | apply pw_below_drewN | apply below_drew1) | exact HB.out)⟩⟩

end Go.Proofs.YtckfdehendifoaaDoor.QP
/- The contract of line.Normal. -/
namespace Go.Proofs.YtckfdehendifoaaDoor
open Go.RowKit
set_option linter.unusedVariables false
set_option linter.unusedSimpArgs false
set_option maxHeartbeats 4000000 in
set_option maxRecDepth 100000 in
theorem lnormal_c (s : ByteArray) (p : Int) (w : World) (hs : s.size ≤ 1099511627775) : Calls Tryd.prog 11 #[.string s, .int .i64 p] w fun e w' => e = .returned (.bool (normalB (ls s) p)) ∧ Ext w w' := by
  rcases place_cases s p with hp | ⟨q, rfl, hq, hp, hv⟩
  · have H : Hid (normalB (ls s) p = false) := Lib.hid (by unfold normalB; rw [hp]; rfl)
    go_enter Tryd.func11, Tryd.ntmps11
    go_wp2_with (first | (go_at_call 19; refine (place_c _ _ _ (by omega)).mono ?_; rintro e w1 ⟨rfl, hx1⟩))
    go_ret
    exact ⟨retb H.out.symm, (by (repeat (first | exact Ext.refl _ | exact ‹Ext _ _› | refine Ext.alloc ?_ _ | refine Ext.drew ?_ | refine Ext.drewN ?_ _ | (refine Ext.setCell ?_ (by first | omega | (simp; done) | (simp; omega)) _) | refine Ext.trans ?_ ‹Ext _ _›)))⟩
  · have H : Hid (normalB (ls s) q = (!endsB (ls s) q || decide (lst (ls s) q = q))) := Lib.hid (by unfold normalB; rw [hp, Int.toNat_natCast, Bool.true_and])
    obtain ⟨b, hb⟩ : ∃ b, endsB (ls s) q = b := ⟨_, rfl⟩
    have Hb := Lib.hid hb
    obtain ⟨m, hm⟩ : ∃ m, lst (ls s) q = m := ⟨_, rfl⟩
    have Hm := Lib.hid hm
    have hbeg : ∀ w, Calls Tryd.prog 45 #[.string s, .int .i64 q] w fun e w' => e = .returned (.int .i64 (m : Nat)) ∧ Ext w w' := fun w => by rw [← hm]; exact begin_c s q hq w hs
    clear hm
    cases b with
    | true =>
      go_enter Tryd.func11, Tryd.ntmps11
      go_wp2_with (first | (go_at_call 19; refine (place_c _ _ _ (by omega)).mono ?_; rintro e w1 ⟨rfl, hx1⟩) | (go_at_call 44; refine (ends_c s q hq _ hs).mono ?_; rintro e w1 ⟨rfl, hx1⟩) | (go_at_call 45; refine (hbeg _).mono ?_; rintro e w1 ⟨rfl, hx1⟩))
      all_goals (go_ret; refine ⟨retb ?_, (by (repeat (first | exact Ext.refl _ | exact ‹Ext _ _› | refine Ext.alloc ?_ _ | refine Ext.drew ?_ | refine Ext.drewN ?_ _ | (refine Ext.setCell ?_ (by first | omega | (simp; done) | (simp; omega)) _) | refine Ext.trans ?_ ‹Ext _ _›)))⟩; rw [H.out, Hb.out, Hm.out]; first | rfl | (rw [Bool.eq_iff_iff]; simp <;> omega) | (simp <;> omega))
    | false =>
      go_enter Tryd.func11, Tryd.ntmps11
      go_wp2_with (first | (go_at_call 19; refine (place_c _ _ _ (by omega)).mono ?_; rintro e w1 ⟨rfl, hx1⟩) | (go_at_call 44; refine (ends_c s q hq _ hs).mono ?_; rintro e w1 ⟨rfl, hx1⟩))
      go_ret
      exact ⟨retb (by rw [H.out, Hb.out]; rfl), (by (repeat (first | exact Ext.refl _ | exact ‹Ext _ _› | refine Ext.alloc ?_ _ | refine Ext.drew ?_ | refine Ext.drewN ?_ _ | (refine Ext.setCell ?_ (by first | omega | (simp; done) | (simp; omega)) _) | refine Ext.trans ?_ ‹Ext _ _›)))⟩
def line_Normal.f (a0 : ByteArray) (a1 : Int) : Option (Bool) := if a0.size ≤ 1099511627775 then some (normalB (ls a0) a1) else none
theorem line_Normal.eq (a0 : ByteArray) (a1 : Int) (hg : a0.size ≤ 1099511627775) : line_Normal.f a0 a1 = some (normalB (ls a0) a1) := if_pos hg
theorem line_Normal.calls (a0 : ByteArray) (a1 : Int) (r : Bool) (w : World) (h : line_Normal.f a0 a1 = some r) : Calls Tryd.prog 11 #[.string a0, .int .i64 a1] w fun e w' => e = .returned (.bool r) ∧ Below w.heap.size w w' := by
  unfold line_Normal.f at h
  split at h
  · cases h; exact lnormal_c a0 a1 w (by omega)
  · cases h
end Go.Proofs.YtckfdehendifoaaDoor
-- Printed by this work's xp.py out of the translation. Lean checks it.
namespace Go.Proofs.YtckfdehendifoaaDoor.QP
open Go.RowKit Go.Proofs.YtckfdehendifoaaDoorW.PrintWords Go.Proofs.YtckfdehendifoaaDoorW.PrintLast Go.Proofs.YtckfdehendifoaaDoorW.PrintMore
attribute [local go_sem] max2_int min2_int max_two min_two max_three min_three max_four min_four   -- for this text's walks alone
set_option linter.unusedVariables false
set_option linter.unusedSimpArgs false


/-! ### change_Diff -/
def change_Diff.j0 : Nat → ByteArray → ByteArray → Bool → Option (Int × ByteArray × ByteArray)
  | 0, _, _, _ => none
  | k + 1, x0, x1, x19 => if x19 = true then (some (0, (⟨#[]⟩ : ByteArray), (⟨#[]⟩ : ByteArray))) else ((change_front.f k x0 x1).bind fun t185 => (if 0 ≤ t185 then (if t185 ≤ (x0.size : Int) then (if t185 ≤ (x1.size : Int) then ((change_back.f k (x0.extract (t185 : Int).toNat x0.size) (x1.extract (t185 : Int).toNat x1.size)).bind fun t186 => (if 0 ≤ (wrap64 (((x0.extract (t185 : Int).toNat x0.size).size : Int) - t186)) then (if (wrap64 (((x0.extract (t185 : Int).toNat x0.size).size : Int) - t186)) ≤ ((x0.extract (t185 : Int).toNat x0.size).size : Int) then (if 0 ≤ (wrap64 (((x1.extract (t185 : Int).toNat x1.size).size : Int) - t186)) then (if (wrap64 (((x1.extract (t185 : Int).toNat x1.size).size : Int) - t186)) ≤ ((x1.extract (t185 : Int).toNat x1.size).size : Int) then (some (t185, (x0.extract (t185 : Int).toNat x0.size).extract 0 ((wrap64 (((x0.extract (t185 : Int).toNat x0.size).size : Int) - t186)) : Int).toNat, (x1.extract (t185 : Int).toNat x1.size).extract 0 ((wrap64 (((x1.extract (t185 : Int).toNat x1.size).size : Int) - t186)) : Int).toNat)) else (none)) else (none)) else (none)) else (none))) else (none)) else (none)) else (none)))
def change_Diff.f (k : Nat) (a0 : ByteArray) (a1 : ByteArray) : Option (Int × ByteArray × ByteArray) := if a0.toList = a1.toList then (change_Diff.j0 k a0 a1 true) else ((utf_Valid.f a0).bind fun t183 => (if t183 = true then ((utf_Valid.f a1).bind fun t184 => (change_Diff.j0 k a0 a1 (!t184))) else (change_Diff.j0 k a0 a1 true)))
theorem change_Diff.mono_l : ∀ k, (∀ y0 y1 y2, LeO (change_Diff.j0 k y0 y1 y2) (change_Diff.j0 (k + 1) y0 y1 y2))
  | 0 => fun _ _ _ r h => by simp [change_Diff.j0] at h
  | k + 1 => by
    have ih0 := change_Diff.mono_l k
    · intro y0 y1 y2
      unfold change_Diff.j0
      repeat' first
      | (with_reducible exact ih0 _ _ _)
      | (with_reducible exact change_back.mono _ _ _)
      | (with_reducible exact change_front.mono _ _ _)
      | (with_reducible exact LeO.refl _)
      | (with_reducible exact LeO.none _)
      | (with_reducible refine LeO.ite ?_ ?_)
      | (with_reducible refine LeO.bind ?_ (fun _ => ?_))
      | exact ih0 _ _ _
      | exact change_back.mono _ _ _
      | exact change_front.mono _ _ _
      | exact LeO.none _
      | refine LeO.ite ?_ ?_
      | refine LeO.bind ?_ (fun _ => ?_)
theorem change_Diff.mono : ∀ a0 a1 k, LeO (change_Diff.f k a0 a1) (change_Diff.f (k + 1) a0 a1) := by
  intro a0 a1 k
  have ih0 := change_Diff.mono_l k
  unfold change_Diff.f
  repeat' first
      | (with_reducible exact ih0 _ _ _)
      | (with_reducible exact change_back.mono _ _ _)
      | (with_reducible exact change_front.mono _ _ _)
      | (with_reducible exact LeO.refl _)
      | (with_reducible exact LeO.none _)
      | (with_reducible refine LeO.ite ?_ ?_)
      | (with_reducible refine LeO.bind ?_ (fun _ => ?_))
      | exact ih0 _ _ _
      | exact change_back.mono _ _ _
      | exact change_front.mono _ _ _
      | exact LeO.none _
      | refine LeO.ite ?_ ?_
      | refine LeO.bind ?_ (fun _ => ?_)
def change_Diff.T4 : Bool × List (List Nat × List Nat) := (true, [([], []), ([], []), ([0, 1], [0, 1]), ([], []), ([], []), ([3, 4], [3, 4]), ([2, 0, 1, 2], [0, 2]), ([5, 6, 0, 1, 2, 3, 4, 5, 6], [3, 5])])
def change_Diff.B4 : List Nat := [0, 0, 3, 0, 0, 24, 7, 127]
theorem change_Diff.tab4 : rtab .any (opsOf Tryd.f10 4) = change_Diff.T4 := by kernel_rfl
theorem change_Diff.bits4 : waitsOk change_Diff.T4.2 change_Diff.B4 = true := by kernel_rfl
def change_Diff.T6 : Bool × List (List Nat × List Nat) := (true, [([], []), ([], []), ([], []), ([2], [2]), ([], []), ([3, 4], [3, 4]), ([1, 5], [1, 5]), ([], []), ([], []), ([8], [8]), ([], []), ([9, 10], [9, 10]), ([7, 11], [7, 11]), ([0, 6, 12], [0, 6, 12]), ([13, 0, 1, 2, 3, 4, 5, 6, 7, 8, 9, 10, 11, 12, 13], [13])])
def change_Diff.B6 : List Nat := [0, 0, 0, 4, 0, 28, 62, 0, 0, 256, 0, 1792, 3968, 8191, 16383]
theorem change_Diff.tab6 : rtab .any (opsOf Tryd.f10 6) = change_Diff.T6 := by kernel_rfl
theorem change_Diff.bits6 : waitsOk change_Diff.T6.2 change_Diff.B6 = true := by kernel_rfl
set_option maxHeartbeats 8000000 in
set_option maxRecDepth 100000 in
theorem change_Diff.calls (k : Nat) (a0 : ByteArray) (a1 : ByteArray) (r1 : Int) (r2 : ByteArray) (r3 : ByteArray) (w : World) (h : change_Diff.f k a0 a1 = some (r1, r2, r3)) :
    Calls Tryd.prog 10 #[.string a0, .string a1] w fun e w' => e = .returned (.agg #[.int .i64 r1, .string r2, .string r3]) ∧ Below w.heap.size w w' := by
  have hu32 := Tryd.underlying32
  have HB := Aside0.mk (Below.refl w.heap.size w)
  have H : (if a0.toList = a1.toList then (change_Diff.j0 k a0 a1 true) else ((utf_Valid.f a0).bind fun t183 => (if t183 = true then ((utf_Valid.f a1).bind fun t184 => (change_Diff.j0 k a0 a1 (!t184))) else (change_Diff.j0 k a0 a1 true)))) = some (r1, r2, r3) := h
  clear h
  have HC3 := Aside0.mk H
  clear H
  go_enter Tryd.func10, Tryd.ntmps10
  go_upto_region 1 with (first | ((with_reducible refine gate_dst (N := 4) rfl ?_); refine box_event ?hg (N := 4) ?hd (cs := #[.int .i64 0, .string (⟨#[]⟩ : ByteArray), .string (⟨#[]⟩ : ByteArray)]) (t := 32) ?hr ?_; (case hd => rfl); (case hg => rfl); (case hr => first | (go_simp; done) | (go_simp; rfl)); intro gb182 hg w4 hbox hb; have n0_ := Aside0.mk (below_step (by repeat (first | (with_reducible first | exact HB.out | apply below_alloc | apply pw_below_drewN | apply below_drew1) | exact HB.out)) hb); have n1_ := Aside0.mk (hbox); have n2_ := Aside0.mk ((by rw [hg]; exact (below_size (by repeat (first | (with_reducible first | exact HB.out | apply below_alloc | apply pw_below_drewN | apply below_drew1) | exact HB.out))) : w.heap.size ≤ gb182)); have n3_ := Aside0.mk ((by rw [hg]; exact (below_size (by repeat (first | (with_reducible first | exact HB.out | apply below_alloc | apply pw_below_drewN | apply below_drew1) | exact HB.out))) : w.heap.size ≤ gb182)); clear HB; have HB := n0_; have BK182 := n1_; have GW182 := n2_; have GE182 := n3_; clear n0_ n1_ n2_ n3_; clear hb hbox hg))
  (try simp only [Act.put, List.setIfInBounds_toArray, List.set_cons_zero, List.set_cons_succ])
  go_cut [19] (fun v19 wc => ∃ (kq : Nat) (x19_2 : Bool), v19 = .bool x19_2 ∧ Aside0 (change_Diff.j0 kq a0 a1 x19_2 = some (r1, r2, r3)) ∧ Aside0 (kq ≤ k) ∧ Aside0 (wc.heap[gb182]? = some (.cells #[.int .i64 0, .string (⟨#[]⟩ : ByteArray), .string (⟨#[]⟩ : ByteArray)] 32 (0, 0))) ∧ Aside0 (Below w.heap.size w wc))
  case first =>
    have H := HC3.out
    clear HC3
    by_cases c5 : a0.toList = a1.toList
    · rw [if_pos c5] at H
      have c5b0 : (a0.toList == a1.toList) = true := beq_iff_eq.mpr c5
      have c5b1 : (a0.toList != a1.toList) = false := bne_eq_false_iff_eq.mpr c5
      clear c5
      (first | rw [c5b0] | (simp only [i64_w, i32_w]; rw [c5b0]) | skip)
      have H' := Aside0.mk H
      clear H
      go_wp2
      go_meet
      case rel => exact ⟨_, (true), (by first | rfl | (simp; done) | (simp [*]; done)), H', ⟨by first | omega | exact Nat.le_refl _⟩, ⟨by (with_reducible repeat (first | refine blk_drewN ?_ _ | refine blk_drew ?_ | refine blk_alloc ?_ _)); exact BK182.out⟩, ⟨by repeat (first | (with_reducible first | exact HB.out | apply below_alloc | apply pw_below_drewN | apply below_drew1 | refine below_set ?_ GE182.out) | exact HB.out)⟩⟩
    · rw [if_neg c5] at H
      have c5b0 : (a0.toList == a1.toList) = false := beq_eq_false_iff_ne.mpr c5
      have c5b1 : (a0.toList != a1.toList) = true := bne_iff_ne.mpr c5
      (first | rw [c5b0] | (simp only [i64_w, i32_w]; rw [c5b0]) | skip)
      replace H := Option.bind_eq_some_iff.mp H
      obtain ⟨t183, A60, H⟩ := H
      replace H : (if t183 = true then ((utf_Valid.f a1).bind fun t184 => (change_Diff.j0 k a0 a1 (!t184))) else (change_Diff.j0 k a0 a1 true)) = some (r1, r2, r3) := H
      have A6 := Aside0.mk A60
      clear A60
      by_cases c7 : t183 = true
      · subst c7
        have H1 : ((utf_Valid.f a1).bind fun t184 => (change_Diff.j0 k a0 a1 (!t184))) = some (r1, r2, r3) := by rw [if_pos rfl] at H; exact H
        clear H
        have H := H1
        clear H1
        replace H := Option.bind_eq_some_iff.mp H
        obtain ⟨t184, A80, H⟩ := H
        replace H : (change_Diff.j0 k a0 a1 (!t184)) = some (r1, r2, r3) := H
        have A8 := Aside0.mk A80
        clear A80
        have H' := Aside0.mk H
        clear H
        go_wp2_with (first | (go_at_call 20; (with_reducible refine (utf_Valid.calls a0 true _ A6.out).mono ?_); rintro e w9 ⟨rfl, hb⟩; have n0_ := Aside0.mk (blk_below (g := gb182) (o := .cells #[.int .i64 0, .string (⟨#[]⟩ : ByteArray), .string (⟨#[]⟩ : ByteArray)] 32 (0, 0)) (by (with_reducible repeat (first | refine blk_drewN ?_ _ | refine blk_drew ?_ | refine blk_alloc ?_ _)); exact BK182.out) hb); have n1_ := Aside0.mk (below_step (by repeat (first | (with_reducible first | exact HB.out | apply below_alloc | apply pw_below_drewN | apply below_drew1 | refine below_set ?_ GE182.out) | exact HB.out)) hb); clear BK182; clear HB; have BK182 := n0_; have HB := n1_; clear n0_ n1_; (try clear hb); (try clear hb2); (try clear hk); (try clear hi)) | (go_at_call 20; (with_reducible refine (utf_Valid.calls a1 t184 _ A8.out).mono ?_); rintro e w10 ⟨rfl, hb⟩; have n0_ := Aside0.mk (blk_below (g := gb182) (o := .cells #[.int .i64 0, .string (⟨#[]⟩ : ByteArray), .string (⟨#[]⟩ : ByteArray)] 32 (0, 0)) (by (with_reducible repeat (first | refine blk_drewN ?_ _ | refine blk_drew ?_ | refine blk_alloc ?_ _)); exact BK182.out) hb); have n1_ := Aside0.mk (below_step (by repeat (first | (with_reducible first | exact HB.out | apply below_alloc | apply pw_below_drewN | apply below_drew1 | refine below_set ?_ GE182.out) | exact HB.out)) hb); clear BK182; clear HB; have BK182 := n0_; have HB := n1_; clear n0_ n1_; (try clear hb); (try clear hb2); (try clear hk); (try clear hi)))
        go_meet
        case rel => exact ⟨_, (!t184), (by first | rfl | (simp; done) | (simp [*]; done)), H', ⟨by first | omega | exact Nat.le_refl _⟩, ⟨by (with_reducible repeat (first | refine blk_drewN ?_ _ | refine blk_drew ?_ | refine blk_alloc ?_ _)); exact BK182.out⟩, ⟨by repeat (first | (with_reducible first | exact HB.out | apply below_alloc | apply pw_below_drewN | apply below_drew1 | refine below_set ?_ GE182.out) | exact HB.out)⟩⟩
      · replace c7 := Bool.eq_false_iff.mpr c7
        subst c7
        have H1 : (change_Diff.j0 k a0 a1 true) = some (r1, r2, r3) := by rw [if_neg (show ¬ (false = true) by decide)] at H; exact H
        clear H
        have H := H1
        clear H1
        have H' := Aside0.mk H
        clear H
        go_wp2_with (first | (go_at_call 20; (with_reducible refine (utf_Valid.calls a0 false _ A6.out).mono ?_); rintro e w11 ⟨rfl, hb⟩; have n0_ := Aside0.mk (blk_below (g := gb182) (o := .cells #[.int .i64 0, .string (⟨#[]⟩ : ByteArray), .string (⟨#[]⟩ : ByteArray)] 32 (0, 0)) (by (with_reducible repeat (first | refine blk_drewN ?_ _ | refine blk_drew ?_ | refine blk_alloc ?_ _)); exact BK182.out) hb); have n1_ := Aside0.mk (below_step (by repeat (first | (with_reducible first | exact HB.out | apply below_alloc | apply pw_below_drewN | apply below_drew1 | refine below_set ?_ GE182.out) | exact HB.out)) hb); clear BK182; clear HB; have BK182 := n0_; have HB := n1_; clear n0_ n1_; (try clear hb); (try clear hb2); (try clear hk); (try clear hi)))
        go_meet
        case rel => exact ⟨_, (true), (by first | rfl | (simp; done) | (simp [*]; done)), H', ⟨by first | omega | exact Nat.le_refl _⟩, ⟨by (with_reducible repeat (first | refine blk_drewN ?_ _ | refine blk_drew ?_ | refine blk_alloc ?_ _)); exact BK182.out⟩, ⟨by repeat (first | (with_reducible first | exact HB.out | apply below_alloc | apply pw_below_drewN | apply below_drew1 | refine below_set ?_ GE182.out) | exact HB.out)⟩⟩
  case rest =>
    clear HC3
    try clear c1
    try clear p2
    try clear c5
    try clear c5b0
    try clear c5b1
    try clear c7
    try clear c10
    obtain ⟨kq, x19_2, rfl, HA, HJ2, BK182, HB⟩ := hcut
    cases kq with
    | zero => exact absurd HA.out (by simp [change_Diff.j0])
    | succ kj2 =>
      have H := HA.out
      clear HA
      simp only [change_Diff.j0] at H
      by_cases c12 : x19_2 = true
      · subst c12
        have H1 : (some (0, (⟨#[]⟩ : ByteArray), (⟨#[]⟩ : ByteArray))) = some (r1, r2, r3) := by rw [if_pos rfl] at H; exact H
        clear H
        have H := H1
        clear H1
        simp only [Option.some.injEq, Prod.mk.injEq] at H
        obtain ⟨rfl, rfl, rfl⟩ := H
        have hcz13_0 : wc.cell? ⟨gb182, 0, none⟩ = some (.int .i64 0) := (blk_cell BK182.out 0).trans rfl
        have hcz13_1 : wc.cell? ⟨gb182, 1, none⟩ = some (.string (⟨#[]⟩ : ByteArray)) := (blk_cell BK182.out 1).trans rfl
        have hcz13_2 : wc.cell? ⟨gb182, 2, none⟩ = some (.string (⟨#[]⟩ : ByteArray)) := (blk_cell BK182.out 2).trans rfl
        have hfz13_0 := blk_frozen BK182.out 0
        have hfz13_1 := blk_frozen BK182.out 1
        have hfz13_2 := blk_frozen BK182.out 2
        go_wp2
        refine bodyPost_ret (results_cell_row rfl _ _ gb182 32 #[.int .i64 0, .string (⟨#[]⟩ : ByteArray), .string (⟨#[]⟩ : ByteArray)] (0, 0) _ rfl (by (with_reducible repeat (first | refine blk_drewN ?_ _ | refine blk_drew ?_ | refine blk_alloc ?_ _)); refine blk_put (cs := #[.int .i64 0, .string (⟨#[]⟩ : ByteArray), .string (⟨#[]⟩ : ByteArray)]) ?_ 2 _ rfl; (with_reducible repeat (first | refine blk_drewN ?_ _ | refine blk_drew ?_ | refine blk_alloc ?_ _)); refine blk_put (cs := #[.int .i64 0, .string (⟨#[]⟩ : ByteArray), .string (⟨#[]⟩ : ByteArray)]) ?_ 1 _ rfl; (with_reducible repeat (first | refine blk_drewN ?_ _ | refine blk_drew ?_ | refine blk_alloc ?_ _)); refine blk_put (cs := #[.int .i64 0, .string (⟨#[]⟩ : ByteArray), .string (⟨#[]⟩ : ByteArray)]) ?_ 0 _ rfl; (with_reducible repeat (first | refine blk_drewN ?_ _ | refine blk_drew ?_ | refine blk_alloc ?_ _)); exact BK182.out) Tryd.underlying32 rfl (by kernel_rfl)) rfl ?_
        exact ⟨by first | rfl | (simp [errW_none, errW_some] <;> rfl) | (simp [*, errW_none, errW_some] <;> rfl), by repeat (first | (with_reducible first | exact HB.out | apply below_alloc | apply pw_below_drewN | apply below_drew1 | refine below_set ?_ GE182.out) | exact HB.out)⟩
      · replace c12 := Bool.eq_false_iff.mpr c12
        subst c12
        have H1 : ((change_front.f kj2 a0 a1).bind fun t185 => (if 0 ≤ t185 then (if t185 ≤ (a0.size : Int) then (if t185 ≤ (a1.size : Int) then ((change_back.f kj2 (a0.extract (t185 : Int).toNat a0.size) (a1.extract (t185 : Int).toNat a1.size)).bind fun t186 => (if 0 ≤ (wrap64 (((a0.extract (t185 : Int).toNat a0.size).size : Int) - t186)) then (if (wrap64 (((a0.extract (t185 : Int).toNat a0.size).size : Int) - t186)) ≤ ((a0.extract (t185 : Int).toNat a0.size).size : Int) then (if 0 ≤ (wrap64 (((a1.extract (t185 : Int).toNat a1.size).size : Int) - t186)) then (if (wrap64 (((a1.extract (t185 : Int).toNat a1.size).size : Int) - t186)) ≤ ((a1.extract (t185 : Int).toNat a1.size).size : Int) then (some (t185, (a0.extract (t185 : Int).toNat a0.size).extract 0 ((wrap64 (((a0.extract (t185 : Int).toNat a0.size).size : Int) - t186)) : Int).toNat, (a1.extract (t185 : Int).toNat a1.size).extract 0 ((wrap64 (((a1.extract (t185 : Int).toNat a1.size).size : Int) - t186)) : Int).toNat)) else (none)) else (none)) else (none)) else (none))) else (none)) else (none)) else (none))) = some (r1, r2, r3) := by rw [if_neg (show ¬ (false = true) by decide)] at H; exact H
        clear H
        have H := H1
        clear H1
        replace H := Option.bind_eq_some_iff.mp H
        obtain ⟨t185, A140, H⟩ := H
        replace H : (if 0 ≤ t185 then (if t185 ≤ (a0.size : Int) then (if t185 ≤ (a1.size : Int) then ((change_back.f kj2 (a0.extract (t185 : Int).toNat a0.size) (a1.extract (t185 : Int).toNat a1.size)).bind fun t186 => (if 0 ≤ (wrap64 (((a0.extract (t185 : Int).toNat a0.size).size : Int) - t186)) then (if (wrap64 (((a0.extract (t185 : Int).toNat a0.size).size : Int) - t186)) ≤ ((a0.extract (t185 : Int).toNat a0.size).size : Int) then (if 0 ≤ (wrap64 (((a1.extract (t185 : Int).toNat a1.size).size : Int) - t186)) then (if (wrap64 (((a1.extract (t185 : Int).toNat a1.size).size : Int) - t186)) ≤ ((a1.extract (t185 : Int).toNat a1.size).size : Int) then (some (t185, (a0.extract (t185 : Int).toNat a0.size).extract 0 ((wrap64 (((a0.extract (t185 : Int).toNat a0.size).size : Int) - t186)) : Int).toNat, (a1.extract (t185 : Int).toNat a1.size).extract 0 ((wrap64 (((a1.extract (t185 : Int).toNat a1.size).size : Int) - t186)) : Int).toNat)) else (none)) else (none)) else (none)) else (none))) else (none)) else (none)) else (none)) = some (r1, r2, r3) := H
        have A14 := Aside0.mk A140
        clear A140
        by_cases c15 : 0 ≤ t185
        · rw [if_pos c15] at H
          have c15b0 := eq_true c15
          have c15b1 : decide (0 ≤ t185) = true := decide_eq_true c15
          clear c15
          by_cases c16 : t185 ≤ (a0.size : Int)
          · rw [if_pos c16] at H
            have c16b0 := eq_true c16
            have c16b1 : decide (t185 ≤ (a0.size : Int)) = true := decide_eq_true c16
            clear c16
            have c17b0 := eq_true (of_decide_eq_true (by first | (with_reducible assumption) | assumption) : 0 ≤ t185)
            by_cases c18 : t185 ≤ (a1.size : Int)
            · rw [if_pos c18] at H
              have c18b0 := eq_true c18
              have c18b1 : decide (t185 ≤ (a1.size : Int)) = true := decide_eq_true c18
              clear c18
              replace H := Option.bind_eq_some_iff.mp H
              obtain ⟨t186, A190, H⟩ := H
              replace H : (if 0 ≤ (wrap64 (((a0.extract (t185 : Int).toNat a0.size).size : Int) - t186)) then (if (wrap64 (((a0.extract (t185 : Int).toNat a0.size).size : Int) - t186)) ≤ ((a0.extract (t185 : Int).toNat a0.size).size : Int) then (if 0 ≤ (wrap64 (((a1.extract (t185 : Int).toNat a1.size).size : Int) - t186)) then (if (wrap64 (((a1.extract (t185 : Int).toNat a1.size).size : Int) - t186)) ≤ ((a1.extract (t185 : Int).toNat a1.size).size : Int) then (some (t185, (a0.extract (t185 : Int).toNat a0.size).extract 0 ((wrap64 (((a0.extract (t185 : Int).toNat a0.size).size : Int) - t186)) : Int).toNat, (a1.extract (t185 : Int).toNat a1.size).extract 0 ((wrap64 (((a1.extract (t185 : Int).toNat a1.size).size : Int) - t186)) : Int).toNat)) else (none)) else (none)) else (none)) else (none)) = some (r1, r2, r3) := H
              have A19 := Aside0.mk A190
              clear A190
              obtain ⟨ji20, hji20⟩ : ∃ j_ : Int, (wrap64 (((a0.extract (t185 : Int).toNat a0.size).size : Int) - t186)) = j_ := ⟨_, rfl⟩
              replace H : (if 0 ≤ (ji20) then (if (ji20) ≤ ((a0.extract (t185 : Int).toNat a0.size).size : Int) then (if 0 ≤ (wrap64 (((a1.extract (t185 : Int).toNat a1.size).size : Int) - t186)) then (if (wrap64 (((a1.extract (t185 : Int).toNat a1.size).size : Int) - t186)) ≤ ((a1.extract (t185 : Int).toNat a1.size).size : Int) then (some (t185, (a0.extract (t185 : Int).toNat a0.size).extract 0 ((ji20) : Int).toNat, (a1.extract (t185 : Int).toNat a1.size).extract 0 ((wrap64 (((a1.extract (t185 : Int).toNat a1.size).size : Int) - t186)) : Int).toNat)) else (none)) else (none)) else (none)) else (none)) = some (r1, r2, r3) := by first | (rw [hji20] at H; exact H) | (simp only [hji20] at H ⊢; exact H)
              (try rw [hji20] at A14)
              (try rw [hji20] at A19)
              have hji20w : (IntKind.i64.wrap (((a0.extract (t185 : Int).toNat a0.size).size : Int) - t186)) = ji20 := (i64_w _).trans hji20
              by_cases c21 : 0 ≤ (ji20)
              · rw [if_pos c21] at H
                have c21b0 := eq_true c21
                have c21b1 : decide (0 ≤ (ji20)) = true := decide_eq_true c21
                clear c21
                by_cases c22 : (ji20) ≤ ((a0.extract (t185 : Int).toNat a0.size).size : Int)
                · rw [if_pos c22] at H
                  have c22b0 := eq_true c22
                  have c22b1 : decide ((ji20) ≤ ((a0.extract (t185 : Int).toNat a0.size).size : Int)) = true := decide_eq_true c22
                  clear c22
                  obtain ⟨ji23, hji23⟩ : ∃ j_ : Int, (wrap64 (((a1.extract (t185 : Int).toNat a1.size).size : Int) - t186)) = j_ := ⟨_, rfl⟩
                  replace H : (if 0 ≤ (ji23) then (if (ji23) ≤ ((a1.extract (t185 : Int).toNat a1.size).size : Int) then (some (t185, (a0.extract (t185 : Int).toNat a0.size).extract 0 ((ji20) : Int).toNat, (a1.extract (t185 : Int).toNat a1.size).extract 0 ((ji23) : Int).toNat)) else (none)) else (none)) = some (r1, r2, r3) := by first | (rw [hji23] at H; exact H) | (simp only [hji23] at H ⊢; exact H)
                  (try rw [hji23] at A14)
                  (try rw [hji23] at A19)
                  have hji23w : (IntKind.i64.wrap (((a1.extract (t185 : Int).toNat a1.size).size : Int) - t186)) = ji23 := (i64_w _).trans hji23
                  by_cases c24 : 0 ≤ (ji23)
                  · rw [if_pos c24] at H
                    have c24b0 := eq_true c24
                    have c24b1 : decide (0 ≤ (ji23)) = true := decide_eq_true c24
                    clear c24
                    by_cases c25 : (ji23) ≤ ((a1.extract (t185 : Int).toNat a1.size).size : Int)
                    · rw [if_pos c25] at H
                      have c25b0 := eq_true c25
                      have c25b1 : decide ((ji23) ≤ ((a1.extract (t185 : Int).toNat a1.size).size : Int)) = true := decide_eq_true c25
                      clear c25
                      simp only [Option.some.injEq, Prod.mk.injEq] at H
                      obtain ⟨rfl, rfl, rfl⟩ := H
                      try go_wp2_with (first | ((with_reducible refine gate_callee (f := 42) rfl ?_); refine goesL_ (some 23) rfl rfl Tryd.func42 (by kernel_rfl) rfl #[.string a0, .string a1] rfl (by (try simp only [List.map_toArray, List.map_cons, List.map_nil]); first | done | rfl | (simp only [List.length_drop, List.length_take]; rfl)) ?_; (with_reducible refine (change_front.calls kj2 a0 a1 t185 _ A14.out).mono ?_); rintro e w26 ⟨rfl, hb⟩; refine ⟨_, rfl, ?_⟩; have n0_ := Aside0.mk (blk_below (g := gb182) (o := .cells #[.int .i64 0, .string (⟨#[]⟩ : ByteArray), .string (⟨#[]⟩ : ByteArray)] 32 (0, 0)) (by (with_reducible repeat (first | refine blk_drewN ?_ _ | refine blk_drew ?_ | refine blk_alloc ?_ _)); exact BK182.out) hb); have n1_ := Aside0.mk (below_step (by repeat (first | (with_reducible first | exact HB.out | apply below_alloc | apply pw_below_drewN | apply below_drew1 | refine below_set ?_ GE182.out) | exact HB.out)) hb); clear BK182; clear HB; have BK182 := n0_; have HB := n1_; clear n0_ n1_; (try clear hb); (try clear hb2); (try clear hk); (try clear hi)))
                      have n0_ := Aside0.mk (blk_drew BK182.out)
                      have n1_ := Aside0.mk (below_drew1 HB.out)
                      clear BK182
                      clear HB
                      have BK182 := n0_
                      have HB := n1_
                      clear n0_ n1_
                      refine start_ (n := 8) (S := fun w' => True) (ds := []) #[false, false, false, false, false, false, false, false] (by kernel_rfl) rfl rfl trivial (fun hHeld => ?_); refine with_tabW change_Diff.tab4 change_Diff.bits4 (fun HT_ HW_ => ?_)
                      generalize w26.drew = w27 at BK182 HB hHeld ⊢
                      refine pure_ (i := 0) (N := some 24) (v := ?_) (a' := ?_) #[true, false, false, false, false, false, false, false] rfl rfl (any_of HT_.out (by kernel_rfl)) (fun _ _ _ h => h) (Or.inl ⟨by rfl, ?_⟩) ?_ ?_
                      rotate_left
                      · intro w'
                        go_simp
                        with_reducible rfl
                      rotate_left
                      · simp only [Act.put, List.setIfInBounds_toArray, List.set_cons_zero, List.set_cons_succ, i64_w, i32_w]
                        rfl
                      refine pure_ (i := 1) (N := some 25) (v := ?_) (a' := ?_) #[true, true, false, false, false, false, false, false] rfl rfl (any_of HT_.out (by kernel_rfl)) (fun _ _ _ h => h) (Or.inl ⟨by rfl, ?_⟩) ?_ ?_
                      rotate_left
                      · intro w'
                        go_simp
                        with_reducible rfl
                      rotate_left
                      · simp only [Act.put, List.setIfInBounds_toArray, List.set_cons_zero, List.set_cons_succ, i64_w, i32_w]
                        rfl
                      refine pure_ (i := 2) (N := some 26) (v := ?_) (a' := ?_) #[true, true, true, false, false, false, false, false] rfl rfl (any_of HT_.out (by kernel_rfl)) (fun _ _ _ h => h) (Or.inl ⟨by rfl, ?_⟩) ?_ ?_
                      rotate_left
                      · intro w'
                        go_simp
                        with_reducible rfl
                      rotate_left
                      · simp only [Act.put, List.setIfInBounds_toArray, List.set_cons_zero, List.set_cons_succ, i64_w, i32_w]
                        rfl
                      refine pure_ (i := 3) (N := some 27) (v := ?_) (a' := ?_) #[true, true, true, true, false, false, false, false] rfl rfl (any_of HT_.out (by kernel_rfl)) (fun _ _ _ h => h) (Or.inl ⟨by rfl, ?_⟩) ?_ ?_
                      rotate_left
                      · intro w'
                        go_simp
                        with_reducible rfl
                      rotate_left
                      · simp only [Act.put, List.setIfInBounds_toArray, List.set_cons_zero, List.set_cons_succ, i64_w, i32_w]
                        rfl
                      refine pure_ (i := 4) (N := some 28) (v := ?_) (a' := ?_) #[true, true, true, true, true, false, false, false] rfl rfl (any_of HT_.out (by kernel_rfl)) (fun _ _ _ h => h) (Or.inl ⟨by rfl, ?_⟩) ?_ ?_
                      rotate_left
                      · intro w'
                        go_simp
                        with_reducible rfl
                      rotate_left
                      · simp only [Act.put, List.setIfInBounds_toArray, List.set_cons_zero, List.set_cons_succ, i64_w, i32_w]
                        rfl
                      refine pure_ (i := 5) (N := some 29) (v := ?_) (a' := ?_) #[true, true, true, true, true, true, false, false] rfl rfl (any_of HT_.out (by kernel_rfl)) (fun _ _ _ h => h) (Or.inl ⟨by rfl, ?_⟩) ?_ ?_
                      rotate_left
                      · intro w'
                        go_simp
                        with_reducible rfl
                      rotate_left
                      · simp only [Act.put, List.setIfInBounds_toArray, List.set_cons_zero, List.set_cons_succ, i64_w, i32_w]
                        rfl
                      refine pure_ (i := 6) (N := some 0) (v := ?_) (a' := ?_) #[true, true, true, true, true, true, true, false] rfl rfl (any_of HT_.out (by kernel_rfl)) (fun _ _ _ h => h) (Or.inl ⟨by rfl, ?_⟩) ?_ ?_
                      rotate_left
                      · intro w'
                        go_simp
                        with_reducible rfl
                      rotate_left
                      · simp only [Act.put, List.setIfInBounds_toArray, List.set_cons_zero, List.set_cons_succ, i64_w, i32_w]
                        rfl
                      refine pure_ (i := 7) (N := some 1) (v := ?_) (a' := ?_) #[true, true, true, true, true, true, true, true] rfl rfl (any_of HT_.out (by kernel_rfl)) (fun _ _ _ h => h) (Or.inl ⟨by rfl, ?_⟩) ?_ ?_
                      rotate_left
                      · intro w'
                        go_simp
                        with_reducible rfl
                      rotate_left
                      · simp only [Act.put, List.setIfInBounds_toArray, List.set_cons_zero, List.set_cons_succ, i64_w, i32_w]
                        rfl
                      refine done_ (done_of HT_.out (by kernel_rfl)) ?_
                      try go_wp2_with (first | ((with_reducible refine gate_callee (f := 43) rfl ?_); refine goesL_ (some 32) rfl rfl Tryd.func43 (by kernel_rfl) rfl #[.string (a0.extract (t185 : Int).toNat a0.size), .string (a1.extract (t185 : Int).toNat a1.size)] rfl (by (try simp only [List.map_toArray, List.map_cons, List.map_nil]); first | done | rfl | (simp only [List.length_drop, List.length_take]; rfl)) ?_; (with_reducible refine (change_back.calls kj2 (a0.extract (t185 : Int).toNat a0.size) (a1.extract (t185 : Int).toNat a1.size) t186 _ A19.out).mono ?_); rintro e w28 ⟨rfl, hb⟩; refine ⟨_, rfl, ?_⟩; have n0_ := Aside0.mk (blk_below (g := gb182) (o := .cells #[.int .i64 0, .string (⟨#[]⟩ : ByteArray), .string (⟨#[]⟩ : ByteArray)] 32 (0, 0)) (by (with_reducible repeat (first | refine blk_drewN ?_ _ | refine blk_drew ?_ | refine blk_alloc ?_ _)); exact BK182.out) hb); have n1_ := Aside0.mk (below_step (by repeat (first | (with_reducible first | exact HB.out | apply below_alloc | apply pw_below_drewN | apply below_drew1 | refine below_set ?_ GE182.out) | exact HB.out)) hb); clear BK182; clear HB; have BK182 := n0_; have HB := n1_; clear n0_ n1_; (try clear hb); (try clear hb2); (try clear hk); (try clear hi)))
                      have n0_ := Aside0.mk (blk_drew BK182.out)
                      have n1_ := Aside0.mk (below_drew1 HB.out)
                      clear BK182
                      clear HB
                      have BK182 := n0_
                      have HB := n1_
                      clear n0_ n1_
                      have lhji20 : (ji20 ≤ ((a0.size - t185.toNat : Nat) : Int)) = True := by have q : (ji20 : Int) ≤ ((a0.extract (t185 : Int).toNat a0.size).size : Int) := of_decide_eq_true (by assumption); rw [ByteArray.size_extract, Nat.min_self] at q; exact eq_true q
                      have khji20 : wrap64 (((a0.size - t185.toNat : Nat) : Int) - t186) = ji20 := by rw [← hji20, ByteArray.size_extract, Nat.min_self]
                      have lhji23 : (ji23 ≤ ((a1.size - t185.toNat : Nat) : Int)) = True := by have q : (ji23 : Int) ≤ ((a1.extract (t185 : Int).toNat a1.size).size : Int) := of_decide_eq_true (by assumption); rw [ByteArray.size_extract, Nat.min_self] at q; exact eq_true q
                      have khji23 : wrap64 (((a1.size - t185.toNat : Nat) : Int) - t186) = ji23 := by rw [← hji23, ByteArray.size_extract, Nat.min_self]
                      refine start_ (n := 15) (S := fun w' => True) (ds := []) #[false, false, false, false, false, false, false, false, false, false, false, false, false, false, false] (by kernel_rfl) rfl rfl trivial (fun hHeld => ?_); refine with_tabW change_Diff.tab6 change_Diff.bits6 (fun HT_ HW_ => ?_)
                      generalize w28.drew = w29 at BK182 HB hHeld ⊢
                      refine pure_ (i := 0) (N := some 33) (v := ?_) (a' := ?_) #[true, false, false, false, false, false, false, false, false, false, false, false, false, false, false] rfl rfl (any_of HT_.out (by kernel_rfl)) (fun _ _ _ h => h) (Or.inl ⟨by rfl, ?_⟩) ?_ ?_
                      rotate_left
                      · intro w'
                        go_simp
                        with_reducible rfl
                      rotate_left
                      · simp only [Act.put, List.setIfInBounds_toArray, List.set_cons_zero, List.set_cons_succ, i64_w, i32_w]
                        rfl
                      refine pure_ (i := 1) (N := some 34) (v := ?_) (a' := ?_) #[true, true, false, false, false, false, false, false, false, false, false, false, false, false, false] rfl rfl (any_of HT_.out (by kernel_rfl)) (fun _ _ _ h => h) (Or.inl ⟨by rfl, ?_⟩) ?_ ?_
                      rotate_left
                      · intro w'
                        go_simp
                        with_reducible rfl
                      rotate_left
                      · simp only [Act.put, List.setIfInBounds_toArray, List.set_cons_zero, List.set_cons_succ, i64_w, i32_w]
                        rfl
                      refine pure_ (i := 2) (N := some 35) (v := ?_) (a' := ?_) #[true, true, true, false, false, false, false, false, false, false, false, false, false, false, false] rfl rfl (any_of HT_.out (by kernel_rfl)) (fun _ _ _ h => h) (Or.inl ⟨by rfl, ?_⟩) ?_ ?_
                      rotate_left
                      · intro w'
                        go_simp
                        with_reducible rfl
                      rotate_left
                      · simp only [Act.put, List.setIfInBounds_toArray, List.set_cons_zero, List.set_cons_succ, i64_w, i32_w]
                        rfl
                      refine pure_ (i := 3) (N := some 36) (v := ?_) (a' := ?_) #[true, true, true, true, false, false, false, false, false, false, false, false, false, false, false] rfl rfl (any_of HT_.out (by kernel_rfl)) (fun _ _ _ h => h) (Or.inl ⟨by rfl, ?_⟩) ?_ ?_
                      rotate_left
                      · intro w'
                        go_simp
                        with_reducible rfl
                      rotate_left
                      · simp only [Act.put, List.setIfInBounds_toArray, List.set_cons_zero, List.set_cons_succ, i64_w, i32_w]
                        rfl
                      refine pure_ (i := 4) (N := some 37) (v := ?_) (a' := ?_) #[true, true, true, true, true, false, false, false, false, false, false, false, false, false, false] rfl rfl (any_of HT_.out (by kernel_rfl)) (fun _ _ _ h => h) (Or.inl ⟨by rfl, ?_⟩) ?_ ?_
                      rotate_left
                      · intro w'
                        go_simp
                        with_reducible rfl
                      rotate_left
                      · simp only [Act.put, List.setIfInBounds_toArray, List.set_cons_zero, List.set_cons_succ, i64_w, i32_w]
                        rfl
                      refine pure_ (i := 5) (N := some 38) (v := ?_) (a' := ?_) #[true, true, true, true, true, true, false, false, false, false, false, false, false, false, false] rfl rfl (any_of HT_.out (by kernel_rfl)) (fun _ _ _ h => h) (Or.inl ⟨by rfl, ?_⟩) ?_ ?_
                      rotate_left
                      · intro w'
                        go_simp
                        with_reducible rfl
                      rotate_left
                      · simp only [Act.put, List.setIfInBounds_toArray, List.set_cons_zero, List.set_cons_succ, i64_w, i32_w]
                        rfl
                      refine pure_ (i := 6) (N := some 39) (v := ?_) (a' := ?_) #[true, true, true, true, true, true, true, false, false, false, false, false, false, false, false] rfl rfl (any_of HT_.out (by kernel_rfl)) (fun _ _ _ h => h) (Or.inl ⟨by rfl, ?_⟩) ?_ ?_
                      rotate_left
                      · intro w'
                        go_simp
                        with_reducible rfl
                      rotate_left
                      · simp only [Act.put, List.setIfInBounds_toArray, List.set_cons_zero, List.set_cons_succ, i64_w, i32_w]
                        rfl
                      refine pure_ (i := 7) (N := some 40) (v := ?_) (a' := ?_) #[true, true, true, true, true, true, true, true, false, false, false, false, false, false, false] rfl rfl (any_of HT_.out (by kernel_rfl)) (fun _ _ _ h => h) (Or.inl ⟨by rfl, ?_⟩) ?_ ?_
                      rotate_left
                      · intro w'
                        go_simp
                        with_reducible rfl
                      rotate_left
                      · simp only [Act.put, List.setIfInBounds_toArray, List.set_cons_zero, List.set_cons_succ, i64_w, i32_w]
                        rfl
                      refine pure_ (i := 8) (N := some 41) (v := ?_) (a' := ?_) #[true, true, true, true, true, true, true, true, true, false, false, false, false, false, false] rfl rfl (any_of HT_.out (by kernel_rfl)) (fun _ _ _ h => h) (Or.inl ⟨by rfl, ?_⟩) ?_ ?_
                      rotate_left
                      · intro w'
                        go_simp
                        with_reducible rfl
                      rotate_left
                      · simp only [Act.put, List.setIfInBounds_toArray, List.set_cons_zero, List.set_cons_succ, i64_w, i32_w]
                        rfl
                      refine pure_ (i := 9) (N := some 42) (v := ?_) (a' := ?_) #[true, true, true, true, true, true, true, true, true, true, false, false, false, false, false] rfl rfl (any_of HT_.out (by kernel_rfl)) (fun _ _ _ h => h) (Or.inl ⟨by rfl, ?_⟩) ?_ ?_
                      rotate_left
                      · intro w'
                        go_simp
                        with_reducible rfl
                      rotate_left
                      · simp only [Act.put, List.setIfInBounds_toArray, List.set_cons_zero, List.set_cons_succ, i64_w, i32_w]
                        rfl
                      refine pure_ (i := 10) (N := some 43) (v := ?_) (a' := ?_) #[true, true, true, true, true, true, true, true, true, true, true, false, false, false, false] rfl rfl (any_of HT_.out (by kernel_rfl)) (fun _ _ _ h => h) (Or.inl ⟨by rfl, ?_⟩) ?_ ?_
                      rotate_left
                      · intro w'
                        go_simp
                        with_reducible rfl
                      rotate_left
                      · simp only [Act.put, List.setIfInBounds_toArray, List.set_cons_zero, List.set_cons_succ, i64_w, i32_w]
                        rfl
                      refine pure_ (i := 11) (N := some 44) (v := ?_) (a' := ?_) #[true, true, true, true, true, true, true, true, true, true, true, true, false, false, false] rfl rfl (any_of HT_.out (by kernel_rfl)) (fun _ _ _ h => h) (Or.inl ⟨by rfl, ?_⟩) ?_ ?_
                      rotate_left
                      · intro w'
                        go_simp
                        with_reducible rfl
                      rotate_left
                      · simp only [Act.put, List.setIfInBounds_toArray, List.set_cons_zero, List.set_cons_succ, i64_w, i32_w]
                        rfl
                      refine pure_ (i := 12) (N := some 45) (v := ?_) (a' := ?_) #[true, true, true, true, true, true, true, true, true, true, true, true, true, false, false] rfl rfl (any_of HT_.out (by kernel_rfl)) (fun _ _ _ h => h) (Or.inl ⟨by rfl, ?_⟩) ?_ ?_
                      rotate_left
                      · intro w'
                        go_simp
                        with_reducible rfl
                      rotate_left
                      · simp only [Act.put, List.setIfInBounds_toArray, List.set_cons_zero, List.set_cons_succ, i64_w, i32_w]
                        rfl
                      refine pure_ (i := 13) (N := some 46) (v := ?_) (a' := ?_) #[true, true, true, true, true, true, true, true, true, true, true, true, true, true, false] rfl rfl (any_of HT_.out (by kernel_rfl)) (fun _ _ _ h => h) (Or.inl ⟨by rfl, ?_⟩) ?_ ?_
                      rotate_left
                      · intro w'
                        go_simp
                        with_reducible rfl
                      rotate_left
                      · simp only [Act.put, List.setIfInBounds_toArray, List.set_cons_zero, List.set_cons_succ, i64_w, i32_w]
                        rfl
                      refine one_ (i := 14) (N := none) #[true, true, true, true, true, true, true, true, true, true, true, true, true, true, true] rfl rfl (one_of HT_.out (by kernel_rfl)) (by decide) (fun K hK => ?_)
                      have hs30 : w29.cell? ⟨gb182, 0, none⟩ = some (.int .i64 0) := (blk_cell BK182.out 0).trans rfl
                      have hfs30 := blk_frozen BK182.out 0
                      have hs31 : w29.cell? ⟨gb182, 1, none⟩ = some (.string (⟨#[]⟩ : ByteArray)) := (blk_cell BK182.out 1).trans rfl
                      have hfs31 := blk_frozen BK182.out 1
                      have hs32 : w29.cell? ⟨gb182, 2, none⟩ = some (.string (⟨#[]⟩ : ByteArray)) := (blk_cell BK182.out 2).trans rfl
                      have hfs32 := blk_frozen BK182.out 2
                      refine skip_ (w1 := ?_) (by rfl) rfl ?_ ?_
                      rotate_left
                      · go_simp
                        rfl
                      refine hK.out _ _ trivial (fun hHeld => ?_)
                      clear hK K
                      refine done_ (done_of HT_.out (by kernel_rfl)) ?_
                      try go_wp2
                      refine bodyPost_ret (results_cell_row rfl _ _ gb182 32 #[.int .i64 t185, .string ((a0.extract (t185 : Int).toNat a0.size).extract 0 ((ji20) : Int).toNat), .string ((a1.extract (t185 : Int).toNat a1.size).extract 0 ((ji23) : Int).toNat)] (0, 0) _ rfl (by (with_reducible repeat (first | refine blk_drewN ?_ _ | refine blk_drew ?_ | refine blk_alloc ?_ _)); refine blk_put (cs := #[.int .i64 t185, .string ((a0.extract (t185 : Int).toNat a0.size).extract 0 ((ji20) : Int).toNat), .string (⟨#[]⟩ : ByteArray)]) ?_ 2 _ rfl; (with_reducible repeat (first | refine blk_drewN ?_ _ | refine blk_drew ?_ | refine blk_alloc ?_ _)); refine blk_put (cs := #[.int .i64 t185, .string (⟨#[]⟩ : ByteArray), .string (⟨#[]⟩ : ByteArray)]) ?_ 1 _ rfl; (with_reducible repeat (first | refine blk_drewN ?_ _ | refine blk_drew ?_ | refine blk_alloc ?_ _)); refine blk_put (cs := #[.int .i64 0, .string (⟨#[]⟩ : ByteArray), .string (⟨#[]⟩ : ByteArray)]) ?_ 0 _ rfl; (with_reducible repeat (first | refine blk_drewN ?_ _ | refine blk_drew ?_ | refine blk_alloc ?_ _)); exact BK182.out) Tryd.underlying32 rfl (by kernel_rfl)) rfl ?_
                      exact ⟨by first | rfl | (simp [errW_none, errW_some] <;> rfl) | (simp only [← hji20, ← hji23]; first | rfl | (simp [errW_none, errW_some] <;> rfl)) | (simp [*, errW_none, errW_some] <;> rfl), by repeat (first | (with_reducible first | exact HB.out | apply below_alloc | apply pw_below_drewN | apply below_drew1 | refine below_set ?_ GE182.out) | exact HB.out)⟩
                    · rw [if_neg c25] at H
                      exact absurd H (by simp)
                  · rw [if_neg c24] at H
                    exact absurd H (by simp)
                · rw [if_neg c22] at H
                  exact absurd H (by simp)
              · rw [if_neg c21] at H
                exact absurd H (by simp)
            · rw [if_neg c18] at H
              exact absurd H (by simp)
          · rw [if_neg c16] at H
            exact absurd H (by simp)
        · rw [if_neg c15] at H
          exact absurd H (by simp)


/-! ### calamuslaw24_PasteLess -/
def calamuslaw24_PasteLess.j0 : Nat → ByteArray → Int → Bool → Int → Bool → Int → Bool → ByteArray → Option (Bool)
  | 0, _, _, _, _, _, _, _, _ => none
  | k + 1, x0, x1, x3, x4, x25, x188000, x188001, x188002 => if x25 = true then ((calamuslaw24_lives.f k).bind fun t188 => (some t188)) else ((paste_Put.f k x0 x1 x188000 x188001 x188002 x3 x4).bind fun bt189 => (if bt189.2.2 = 0 then (if x188001 = true then ((change_Diff.f k x0 bt189.1).bind fun bt193 => (if (bt189.1.size : Int) = (wrap64 ((x0.size : Int) + (wrap64 ((wrap64 ((mx x4 1) * (x188002.size : Int))) + (mx x4 1))))) then (if bt193.2.1.toList = ([] : List UInt8) then (if (bt193.2.2.size : Int) = (wrap64 ((wrap64 ((mx x4 1) * (x188002.size : Int))) + (mx x4 1))) then ((line_Normal.f bt189.1 bt189.2.1).bind fun t197 => (if t197 = true then ((calamuslaw24_lives.f k).bind fun t198 => (some t198)) else (some false))) else (some false)) else (some false)) else (some false))) else ((change_Diff.f k x0 bt189.1).bind fun bt199 => (if (bt189.1.size : Int) = (wrap64 ((x0.size : Int) + (wrap64 ((mx x4 1) * (x188002.size : Int))))) then (if bt199.2.1.toList = ([] : List UInt8) then (if (bt199.2.2.size : Int) = (wrap64 ((mx x4 1) * (x188002.size : Int))) then ((line_Normal.f bt189.1 bt189.2.1).bind fun t203 => (if t203 = true then ((calamuslaw24_lives.f k).bind fun t204 => (some t204)) else (some false))) else (some false)) else (some false)) else (some false)))) else (if bt189.1.toList = ([] : List UInt8) then (if bt189.2.1 = 0 then ((calamuslaw24_lives.f k).bind fun t192 => (some t192)) else (some false)) else (some false))))
def calamuslaw24_PasteLess.f (k : Nat) (a0 : ByteArray) (a1 : Int) (a2_0 : Int) (a2_1 : Bool) (a2_2 : ByteArray) (a3 : Bool) (a4 : Int) : Option (Bool) := if (a0.size : Int) > 500 then (calamuslaw24_PasteLess.j0 k a0 a1 a3 a4 true a2_0 a2_1 a2_2) else (calamuslaw24_PasteLess.j0 k a0 a1 a3 a4 (decide ((a2_2.size : Int) > 5000)) a2_0 a2_1 a2_2)
theorem calamuslaw24_PasteLess.mono_l : ∀ k, (∀ y0 y1 y2 y3 y4 y5 y6 y7, LeO (calamuslaw24_PasteLess.j0 k y0 y1 y2 y3 y4 y5 y6 y7) (calamuslaw24_PasteLess.j0 (k + 1) y0 y1 y2 y3 y4 y5 y6 y7))
  | 0 => fun _ _ _ _ _ _ _ _ r h => by simp [calamuslaw24_PasteLess.j0] at h
  | k + 1 => by
    have ih0 := calamuslaw24_PasteLess.mono_l k
    · intro y0 y1 y2 y3 y4 y5 y6 y7
      unfold calamuslaw24_PasteLess.j0
      repeat' first
      | (with_reducible exact ih0 _ _ _ _ _ _ _ _)
      | (with_reducible exact calamuslaw24_lives.mono _)
      | (with_reducible exact change_Diff.mono _ _ _)
      | (with_reducible exact paste_Put.mono _ _ _ _ _ _ _ _)
      | (with_reducible exact LeO.refl _)
      | (with_reducible exact LeO.none _)
      | (with_reducible refine LeO.ite ?_ ?_)
      | (with_reducible refine LeO.bind ?_ (fun _ => ?_))
      | exact ih0 _ _ _ _ _ _ _ _
      | exact calamuslaw24_lives.mono _
      | exact change_Diff.mono _ _ _
      | exact paste_Put.mono _ _ _ _ _ _ _ _
      | exact LeO.none _
      | refine LeO.ite ?_ ?_
      | refine LeO.bind ?_ (fun _ => ?_)
theorem calamuslaw24_PasteLess.mono : ∀ a0 a1 a2 a3 a4 a5 a6 k, LeO (calamuslaw24_PasteLess.f k a0 a1 a2 a3 a4 a5 a6) (calamuslaw24_PasteLess.f (k + 1) a0 a1 a2 a3 a4 a5 a6) := by
  intro a0 a1 a2 a3 a4 a5 a6 k
  have ih0 := calamuslaw24_PasteLess.mono_l k
  unfold calamuslaw24_PasteLess.f
  repeat' first
      | (with_reducible exact ih0 _ _ _ _ _ _ _ _)
      | (with_reducible exact calamuslaw24_lives.mono _)
      | (with_reducible exact change_Diff.mono _ _ _)
      | (with_reducible exact paste_Put.mono _ _ _ _ _ _ _ _)
      | (with_reducible exact LeO.refl _)
      | (with_reducible exact LeO.none _)
      | (with_reducible refine LeO.ite ?_ ?_)
      | (with_reducible refine LeO.bind ?_ (fun _ => ?_))
      | exact ih0 _ _ _ _ _ _ _ _
      | exact calamuslaw24_lives.mono _
      | exact change_Diff.mono _ _ _
      | exact paste_Put.mono _ _ _ _ _ _ _ _
      | exact LeO.none _
      | refine LeO.ite ?_ ?_
      | refine LeO.bind ?_ (fun _ => ?_)
set_option maxHeartbeats 8000000 in
set_option maxRecDepth 100000 in
theorem calamuslaw24_PasteLess.calls (k : Nat) (a0 : ByteArray) (a1 : Int) (a2_0 : Int) (a2_1 : Bool) (a2_2 : ByteArray) (a3 : Bool) (a4 : Int) (r : Bool) (w : World) (h : calamuslaw24_PasteLess.f k a0 a1 a2_0 a2_1 a2_2 a3 a4 = some r) :
    Calls Tryd.prog 4 #[.string a0, .int .i64 a1, .agg #[.int .i64 a2_0, .bool a2_1, .string a2_2], .bool a3, .int .i64 a4] w fun e w' => e = .returned (.bool r) ∧ Below w.heap.size w w' := by
  have hu23 := Tryd.underlying23
  have hu32 := Tryd.underlying32
  have HB := Aside0.mk (Below.refl w.heap.size w)
  have H : (if (a0.size : Int) > 500 then (calamuslaw24_PasteLess.j0 k a0 a1 a3 a4 true a2_0 a2_1 a2_2) else (calamuslaw24_PasteLess.j0 k a0 a1 a3 a4 (decide ((a2_2.size : Int) > 5000)) a2_0 a2_1 a2_2)) = some r := h
  clear h
  have HC6 := Aside0.mk H
  clear H
  go_enter Tryd.func4, Tryd.ntmps4
  go_upto_region 1 with (first | ((with_reducible refine gate_dst (N := 7) rfl ?_); refine box_event ?hg (N := 7) ?hd (cs := #[.int .i64 a2_0, .bool a2_1, .string a2_2]) (t := 23) ?hr ?_; (case hd => rfl); (case hg => rfl); (case hr => first | (go_simp; done) | (go_simp; rfl)); intro gb187 hg w7 hbox hb; have n0_ := Aside0.mk (below_step (by repeat (first | (with_reducible first | exact HB.out | apply below_alloc | apply pw_below_drewN | apply below_drew1) | exact HB.out)) hb); have n1_ := Aside0.mk (hbox); have n2_ := Aside0.mk ((by rw [hg]; exact (below_size (by repeat (first | (with_reducible first | exact HB.out | apply below_alloc | apply pw_below_drewN | apply below_drew1) | exact HB.out))) : w.heap.size ≤ gb187)); have n3_ := Aside0.mk ((by rw [hg]; exact (below_size (by repeat (first | (with_reducible first | exact HB.out | apply below_alloc | apply pw_below_drewN | apply below_drew1) | exact HB.out))) : w.heap.size ≤ gb187)); clear HB; have HB := n0_; have BK187 := n1_; have GW187 := n2_; have GE187 := n3_; clear n0_ n1_ n2_ n3_; clear hb hbox hg))
  (try simp only [Act.put, List.setIfInBounds_toArray, List.set_cons_zero, List.set_cons_succ])
  go_cut [25] (fun v25 wc => ∃ (kq : Nat) (x25_5 : Bool), v25 = .bool x25_5 ∧ Aside0 (calamuslaw24_PasteLess.j0 kq a0 a1 a3 a4 x25_5 a2_0 a2_1 a2_2 = some r) ∧ Aside0 (kq ≤ k) ∧ Aside0 (wc.heap[gb187]? = some (.cells #[.int .i64 a2_0, .bool a2_1, .string a2_2] 23 (0, 0))) ∧ Aside0 (Below w.heap.size w wc))
  case first =>
    have H := HC6.out
    clear HC6
    by_cases c8 : (a0.size : Int) > 500
    · rw [if_pos c8] at H
      have c8b0 : decide (500 < (a0.size : Int)) = true := decide_eq_true c8
      have c8b1 : decide (500 < a0.size) = true := decide_eq_true (by omega)
      clear c8
      (first | rw [c8b0] | (simp only [i64_w, i32_w]; rw [c8b0]) | skip)
      have H' := Aside0.mk H
      clear H
      go_wp2
      go_meet
      case rel => exact ⟨_, (true), (by first | rfl | (simp; done) | (simp [*]; done)), H', ⟨by first | omega | exact Nat.le_refl _⟩, ⟨by (with_reducible repeat (first | refine blk_drewN ?_ _ | refine blk_drew ?_ | refine blk_alloc ?_ _)); exact BK187.out⟩, ⟨by repeat (first | (with_reducible first | exact HB.out | apply below_alloc | apply pw_below_drewN | apply below_drew1 | refine below_set ?_ GE187.out) | exact HB.out)⟩⟩
    · rw [if_neg c8] at H
      have c8b0 : decide (500 < (a0.size : Int)) = false := decide_eq_false c8
      have c8b1 : decide (500 < a0.size) = false := decide_eq_false (by omega)
      clear c8
      (first | rw [c8b0] | (simp only [i64_w, i32_w]; rw [c8b0]) | skip)
      have H' := Aside0.mk H
      clear H
      have hcz9_0 : w7.cell? ⟨gb187, 0, none⟩ = some (.int .i64 a2_0) := (blk_cell BK187.out 0).trans rfl
      have hcz9_1 : w7.cell? ⟨gb187, 1, none⟩ = some (.bool a2_1) := (blk_cell BK187.out 1).trans rfl
      have hcz9_2 : w7.cell? ⟨gb187, 2, none⟩ = some (.string a2_2) := (blk_cell BK187.out 2).trans rfl
      have hfz9_0 := blk_frozen BK187.out 0
      have hfz9_1 := blk_frozen BK187.out 1
      have hfz9_2 := blk_frozen BK187.out 2
      go_wp2
      go_meet
      case rel => exact ⟨_, (decide ((a2_2.size : Int) > 5000)), (by first | rfl | (simp; done) | (simp [*]; done)), H', ⟨by first | omega | exact Nat.le_refl _⟩, ⟨by (with_reducible repeat (first | refine blk_drewN ?_ _ | refine blk_drew ?_ | refine blk_alloc ?_ _)); exact BK187.out⟩, ⟨by repeat (first | (with_reducible first | exact HB.out | apply below_alloc | apply pw_below_drewN | apply below_drew1 | refine below_set ?_ GE187.out) | exact HB.out)⟩⟩
  case rest =>
    clear HC6
    try clear p2
    try clear c4
    try clear c8
    try clear c8b0
    try clear c8b1
    try clear hcz9_0
    try clear hcz9_1
    try clear hcz9_2
    try clear hfz9_0
    try clear hfz9_1
    try clear hfz9_2
    obtain ⟨kq, x25_5, rfl, HA, HJ5, BK187, HB⟩ := hcut
    cases kq with
    | zero => exact absurd HA.out (by simp [calamuslaw24_PasteLess.j0])
    | succ kj5 =>
      have H := HA.out
      clear HA
      simp only [calamuslaw24_PasteLess.j0] at H
      by_cases c10 : x25_5 = true
      · subst c10
        have H1 : ((calamuslaw24_lives.f kj5).bind fun t188 => (some t188)) = some r := by rw [if_pos rfl] at H; exact H
        clear H
        have H := H1
        clear H1
        replace H := Option.bind_eq_some_iff.mp H
        obtain ⟨t188, A110, H⟩ := H
        replace H : (some t188) = some r := H
        have A11 := Aside0.mk A110
        clear A110
        obtain rfl := Option.some.inj H
        go_wp2_with (first | ((with_reducible refine gate_callee (f := 7) rfl ?_); refine goesL_ (some 26) rfl rfl Tryd.func7 (by kernel_rfl) rfl #[] rfl (by (try simp only [List.map_toArray, List.map_cons, List.map_nil]); first | done | rfl | (simp only [List.length_drop, List.length_take]; rfl)) ?_; (with_reducible refine (calamuslaw24_lives.calls kj5  t188 _ A11.out).mono ?_); rintro e w12 ⟨rfl, hb⟩; refine ⟨_, rfl, ?_⟩; have n0_ := Aside0.mk (blk_below (g := gb187) (o := .cells #[.int .i64 a2_0, .bool a2_1, .string a2_2] 23 (0, 0)) (by (with_reducible repeat (first | refine blk_drewN ?_ _ | refine blk_drew ?_ | refine blk_alloc ?_ _)); exact BK187.out) hb); have n1_ := Aside0.mk (below_step (by repeat (first | (with_reducible first | exact HB.out | apply below_alloc | apply pw_below_drewN | apply below_drew1 | refine below_set ?_ GE187.out) | exact HB.out)) hb); clear BK187; clear HB; have BK187 := n0_; have HB := n1_; clear n0_ n1_; (try clear hb); (try clear hb2); (try clear hk); (try clear hi)))
        go_ret
        exact ⟨by first | rfl | (simp [errW_none, errW_some] <;> rfl) | (simp [*, errW_none, errW_some] <;> rfl), by repeat (first | (with_reducible first | exact HB.out | apply below_alloc | apply pw_below_drewN | apply below_drew1 | refine below_set ?_ GE187.out) | exact HB.out)⟩
      · replace c10 := Bool.eq_false_iff.mpr c10
        subst c10
        have H1 : ((paste_Put.f kj5 a0 a1 a2_0 a2_1 a2_2 a3 a4).bind fun bt189 => (if bt189.2.2 = 0 then (if a2_1 = true then ((change_Diff.f kj5 a0 bt189.1).bind fun bt193 => (if (bt189.1.size : Int) = (wrap64 ((a0.size : Int) + (wrap64 ((wrap64 ((mx a4 1) * (a2_2.size : Int))) + (mx a4 1))))) then (if bt193.2.1.toList = ([] : List UInt8) then (if (bt193.2.2.size : Int) = (wrap64 ((wrap64 ((mx a4 1) * (a2_2.size : Int))) + (mx a4 1))) then ((line_Normal.f bt189.1 bt189.2.1).bind fun t197 => (if t197 = true then ((calamuslaw24_lives.f kj5).bind fun t198 => (some t198)) else (some false))) else (some false)) else (some false)) else (some false))) else ((change_Diff.f kj5 a0 bt189.1).bind fun bt199 => (if (bt189.1.size : Int) = (wrap64 ((a0.size : Int) + (wrap64 ((mx a4 1) * (a2_2.size : Int))))) then (if bt199.2.1.toList = ([] : List UInt8) then (if (bt199.2.2.size : Int) = (wrap64 ((mx a4 1) * (a2_2.size : Int))) then ((line_Normal.f bt189.1 bt189.2.1).bind fun t203 => (if t203 = true then ((calamuslaw24_lives.f kj5).bind fun t204 => (some t204)) else (some false))) else (some false)) else (some false)) else (some false)))) else (if bt189.1.toList = ([] : List UInt8) then (if bt189.2.1 = 0 then ((calamuslaw24_lives.f kj5).bind fun t192 => (some t192)) else (some false)) else (some false)))) = some r := by rw [if_neg (show ¬ (false = true) by decide)] at H; exact H
        clear H
        have H := H1
        clear H1
        replace H := Option.bind_eq_some_iff.mp H
        obtain ⟨⟨t189, t190, t191⟩, A130, H⟩ := H
        replace H : (if t191 = 0 then (if a2_1 = true then ((change_Diff.f kj5 a0 t189).bind fun bt193 => (if (t189.size : Int) = (wrap64 ((a0.size : Int) + (wrap64 ((wrap64 ((mx a4 1) * (a2_2.size : Int))) + (mx a4 1))))) then (if bt193.2.1.toList = ([] : List UInt8) then (if (bt193.2.2.size : Int) = (wrap64 ((wrap64 ((mx a4 1) * (a2_2.size : Int))) + (mx a4 1))) then ((line_Normal.f t189 t190).bind fun t197 => (if t197 = true then ((calamuslaw24_lives.f kj5).bind fun t198 => (some t198)) else (some false))) else (some false)) else (some false)) else (some false))) else ((change_Diff.f kj5 a0 t189).bind fun bt199 => (if (t189.size : Int) = (wrap64 ((a0.size : Int) + (wrap64 ((mx a4 1) * (a2_2.size : Int))))) then (if bt199.2.1.toList = ([] : List UInt8) then (if (bt199.2.2.size : Int) = (wrap64 ((mx a4 1) * (a2_2.size : Int))) then ((line_Normal.f t189 t190).bind fun t203 => (if t203 = true then ((calamuslaw24_lives.f kj5).bind fun t204 => (some t204)) else (some false))) else (some false)) else (some false)) else (some false)))) else (if t189.toList = ([] : List UInt8) then (if t190 = 0 then ((calamuslaw24_lives.f kj5).bind fun t192 => (some t192)) else (some false)) else (some false))) = some r := H
        have A13 := Aside0.mk A130
        clear A130
        by_cases c14 : t191 = 0
        · rw [if_pos c14] at H
          have c14b0 : (t191 == 0) = true := beq_iff_eq.mpr c14
          have c14b1 : (t191 != 0) = false := bne_eq_false_iff_eq.mpr c14
          clear c14
          obtain ⟨ji15, hji15⟩ : ∃ j_ : Int, (mx a4 1) = j_ := ⟨_, rfl⟩
          replace H : (if a2_1 = true then ((change_Diff.f kj5 a0 t189).bind fun bt193 => (if (t189.size : Int) = (wrap64 ((a0.size : Int) + (wrap64 ((wrap64 ((ji15) * (a2_2.size : Int))) + (ji15))))) then (if bt193.2.1.toList = ([] : List UInt8) then (if (bt193.2.2.size : Int) = (wrap64 ((wrap64 ((ji15) * (a2_2.size : Int))) + (ji15))) then ((line_Normal.f t189 t190).bind fun t197 => (if t197 = true then ((calamuslaw24_lives.f kj5).bind fun t198 => (some t198)) else (some false))) else (some false)) else (some false)) else (some false))) else ((change_Diff.f kj5 a0 t189).bind fun bt199 => (if (t189.size : Int) = (wrap64 ((a0.size : Int) + (wrap64 ((ji15) * (a2_2.size : Int))))) then (if bt199.2.1.toList = ([] : List UInt8) then (if (bt199.2.2.size : Int) = (wrap64 ((ji15) * (a2_2.size : Int))) then ((line_Normal.f t189 t190).bind fun t203 => (if t203 = true then ((calamuslaw24_lives.f kj5).bind fun t204 => (some t204)) else (some false))) else (some false)) else (some false)) else (some false)))) = some r := by first | (rw [hji15] at H; exact H) | (simp only [hji15] at H ⊢; exact H)
          (try rw [hji15] at A13)
          have hji15_ : (if a4 < 1 then 1 else a4) = ji15 := hji15
          by_cases c16 : a2_1 = true
          · subst c16
            have H1 : ((change_Diff.f kj5 a0 t189).bind fun bt193 => (if (t189.size : Int) = (wrap64 ((a0.size : Int) + (wrap64 ((wrap64 ((ji15) * (a2_2.size : Int))) + (ji15))))) then (if bt193.2.1.toList = ([] : List UInt8) then (if (bt193.2.2.size : Int) = (wrap64 ((wrap64 ((ji15) * (a2_2.size : Int))) + (ji15))) then ((line_Normal.f t189 t190).bind fun t197 => (if t197 = true then ((calamuslaw24_lives.f kj5).bind fun t198 => (some t198)) else (some false))) else (some false)) else (some false)) else (some false))) = some r := by rw [if_pos rfl] at H; exact H
            clear H
            have H := H1
            clear H1
            replace H := Option.bind_eq_some_iff.mp H
            obtain ⟨⟨t193, t194, t195⟩, A170, H⟩ := H
            replace H : (if (t189.size : Int) = (wrap64 ((a0.size : Int) + (wrap64 ((wrap64 ((ji15) * (a2_2.size : Int))) + (ji15))))) then (if t194.toList = ([] : List UInt8) then (if (t195.size : Int) = (wrap64 ((wrap64 ((ji15) * (a2_2.size : Int))) + (ji15))) then ((line_Normal.f t189 t190).bind fun t197 => (if t197 = true then ((calamuslaw24_lives.f kj5).bind fun t198 => (some t198)) else (some false))) else (some false)) else (some false)) else (some false)) = some r := H
            have A17 := Aside0.mk A170
            clear A170
            by_cases c18 : (t189.size : Int) = (wrap64 ((a0.size : Int) + (wrap64 ((wrap64 ((ji15) * (a2_2.size : Int))) + (ji15)))))
            · rw [if_pos c18] at H
              have c18b0 : ((t189.size : Int) == (wrap64 ((a0.size : Int) + (wrap64 ((wrap64 ((ji15) * (a2_2.size : Int))) + (ji15)))))) = true := beq_iff_eq.mpr c18
              have c18b1 : ((t189.size : Int) != (wrap64 ((a0.size : Int) + (wrap64 ((wrap64 ((ji15) * (a2_2.size : Int))) + (ji15)))))) = false := bne_eq_false_iff_eq.mpr c18
              clear c18
              by_cases c19 : t194.toList = ([] : List UInt8)
              · rw [if_pos c19] at H
                have c19b0 : (t194.toList == ([] : List UInt8)) = true := beq_iff_eq.mpr c19
                have c19b1 : (t194.toList != ([] : List UInt8)) = false := bne_eq_false_iff_eq.mpr c19
                clear c19
                by_cases c20 : (t195.size : Int) = (wrap64 ((wrap64 ((ji15) * (a2_2.size : Int))) + (ji15)))
                · rw [if_pos c20] at H
                  have c20b0 : ((t195.size : Int) == (wrap64 ((wrap64 ((ji15) * (a2_2.size : Int))) + (ji15)))) = true := beq_iff_eq.mpr c20
                  have c20b1 : ((t195.size : Int) != (wrap64 ((wrap64 ((ji15) * (a2_2.size : Int))) + (ji15)))) = false := bne_eq_false_iff_eq.mpr c20
                  clear c20
                  replace H := Option.bind_eq_some_iff.mp H
                  obtain ⟨t197, A210, H⟩ := H
                  replace H : (if t197 = true then ((calamuslaw24_lives.f kj5).bind fun t198 => (some t198)) else (some false)) = some r := H
                  have A21 := Aside0.mk A210
                  clear A210
                  by_cases c22 : t197 = true
                  · subst c22
                    have H1 : ((calamuslaw24_lives.f kj5).bind fun t198 => (some t198)) = some r := by rw [if_pos rfl] at H; exact H
                    clear H
                    have H := H1
                    clear H1
                    replace H := Option.bind_eq_some_iff.mp H
                    obtain ⟨t198, A230, H⟩ := H
                    replace H : (some t198) = some r := H
                    have A23 := Aside0.mk A230
                    clear A230
                    obtain rfl := Option.some.inj H
                    have hcz24_0 : wc.cell? ⟨gb187, 0, none⟩ = some (.int .i64 a2_0) := (blk_cell BK187.out 0).trans rfl
                    have hcz24_1 : wc.cell? ⟨gb187, 1, none⟩ = some (.bool true) := (blk_cell BK187.out 1).trans rfl
                    have hcz24_2 : wc.cell? ⟨gb187, 2, none⟩ = some (.string a2_2) := (blk_cell BK187.out 2).trans rfl
                    have hfz24_0 := blk_frozen BK187.out 0
                    have hfz24_1 := blk_frozen BK187.out 1
                    have hfz24_2 := blk_frozen BK187.out 2
                    go_wp2_with (first | ((with_reducible refine gate_callee (f := 8) rfl ?_); refine goesL_ (some 33) rfl rfl Tryd.func8 (by kernel_rfl) rfl #[.string a0, .int .i64 a1, .agg #[.int .i64 a2_0, .bool true, .string a2_2], .bool a3, .int .i64 a4] rfl (by (try simp only [List.map_toArray, List.map_cons, List.map_nil]); first | done | rfl | (simp only [List.length_drop, List.length_take]; rfl)) ?_; (with_reducible refine (paste_Put.calls kj5 a0 a1 a2_0 true a2_2 a3 a4 t189 t190 t191 _ A13.out).mono ?_); rintro e w25 ⟨rfl, hb⟩; refine ⟨_, rfl, ?_⟩; have n0_ := Aside0.mk (blk_below (g := gb187) (o := .cells #[.int .i64 a2_0, .bool true, .string a2_2] 23 (0, 0)) (by (with_reducible repeat (first | refine blk_drewN ?_ _ | refine blk_drew ?_ | refine blk_alloc ?_ _)); exact BK187.out) hb); have n1_ := Aside0.mk (below_step (by repeat (first | (with_reducible first | exact HB.out | apply below_alloc | apply pw_below_drewN | apply below_drew1 | refine below_set ?_ GE187.out) | exact HB.out)) hb); clear BK187; clear HB; have BK187 := n0_; have HB := n1_; clear n0_ n1_; (try clear hb); (try clear hb2); (try clear hk); (try clear hi); have hcz26_0 : w25.cell? ⟨gb187, 0, none⟩ = some (.int .i64 a2_0) := (blk_cell BK187.out 0).trans rfl; have hcz26_1 : w25.cell? ⟨gb187, 1, none⟩ = some (.bool true) := (blk_cell BK187.out 1).trans rfl; have hcz26_2 : w25.cell? ⟨gb187, 2, none⟩ = some (.string a2_2) := (blk_cell BK187.out 2).trans rfl; have hfz26_0 := blk_frozen BK187.out 0; have hfz26_1 := blk_frozen BK187.out 1; have hfz26_2 := blk_frozen BK187.out 2) | ((with_reducible refine gate_callee (f := 10) rfl ?_); refine goesL_ (some 62) rfl rfl Tryd.func10 (by kernel_rfl) rfl #[.string a0, .string t189] rfl (by (try simp only [List.map_toArray, List.map_cons, List.map_nil]); first | done | rfl | (simp only [List.length_drop, List.length_take]; rfl)) ?_; (with_reducible refine (change_Diff.calls kj5 a0 t189 t193 t194 t195 _ A17.out).mono ?_); rintro e w27 ⟨rfl, hb⟩; refine ⟨_, rfl, ?_⟩; have n0_ := Aside0.mk (blk_below (g := gb187) (o := .cells #[.int .i64 a2_0, .bool true, .string a2_2] 23 (0, 0)) (by (with_reducible repeat (first | refine blk_drewN ?_ _ | refine blk_drew ?_ | refine blk_alloc ?_ _)); exact BK187.out) hb); have n1_ := Aside0.mk (below_step (by repeat (first | (with_reducible first | exact HB.out | apply below_alloc | apply pw_below_drewN | apply below_drew1 | refine below_set ?_ GE187.out) | exact HB.out)) hb); clear BK187; clear HB; have BK187 := n0_; have HB := n1_; clear n0_ n1_; (try clear hb); (try clear hb2); (try clear hk); (try clear hi)) | ((with_reducible refine gate_dst (N := 16) rfl ?_); refine box_event ?hg (N := 16) ?hd (cs := #[.int .i64 0, .string (⟨#[]⟩ : ByteArray), .string (⟨#[]⟩ : ByteArray)]) (t := 32) ?hr ?_; (case hd => rfl); (case hg => rfl); (case hr => first | (go_simp; done) | (go_simp; rfl)); intro gb196 hg w28 hbox hb; have n0_ := Aside0.mk (blk_below (g := gb187) (o := .cells #[.int .i64 a2_0, .bool true, .string a2_2] 23 (0, 0)) (by (with_reducible repeat (first | refine blk_drewN ?_ _ | refine blk_drew ?_ | refine blk_alloc ?_ _)); exact BK187.out) hb); have n1_ := Aside0.mk (below_step (by repeat (first | (with_reducible first | exact HB.out | apply below_alloc | apply pw_below_drewN | apply below_drew1 | refine below_set ?_ GE187.out) | exact HB.out)) hb); have n2_ := Aside0.mk (hbox); have n3_ := Aside0.mk ((by rw [hg]; exact (below_size (by repeat (first | (with_reducible first | exact HB.out | apply below_alloc | apply pw_below_drewN | apply below_drew1 | refine below_set ?_ GE187.out) | exact HB.out))) : w.heap.size ≤ gb196)); have n4_ := Aside0.mk ((by rw [hg]; exact (below_size (by repeat (first | (with_reducible first | exact HB.out | apply below_alloc | apply pw_below_drewN | apply below_drew1 | refine below_set ?_ GE187.out) | exact HB.out))) : w.heap.size ≤ gb196)); have n5_ := Aside0.mk ((by rw [hg]; exact Nat.ne_of_lt (blk_lt (g := gb187) (o := .cells #[.int .i64 a2_0, .bool true, .string a2_2] 23 (0, 0)) (by (with_reducible repeat (first | refine blk_drewN ?_ _ | refine blk_drew ?_ | refine blk_alloc ?_ _)); exact BK187.out)) : gb187 ≠ gb196)); have n6_ := Aside0.mk ((by rw [hg]; exact Nat.ne_of_gt (blk_lt (g := gb187) (o := .cells #[.int .i64 a2_0, .bool true, .string a2_2] 23 (0, 0)) (by (with_reducible repeat (first | refine blk_drewN ?_ _ | refine blk_drew ?_ | refine blk_alloc ?_ _)); exact BK187.out)) : gb196 ≠ gb187)); clear BK187; clear HB; have BK187 := n0_; have HB := n1_; have BK196 := n2_; have GW196 := n3_; have GE196 := n4_; have NB187_196 := n5_; have NB196_187 := n6_; clear n0_ n1_ n2_ n3_ n4_ n5_ n6_; clear hb hbox hg; have hnb29 := NB196_187.out; have hnc29 := NB187_196.out; have hcz30_0 : w28.cell? ⟨gb196, 0, none⟩ = some (.int .i64 0) := (blk_cell BK196.out 0).trans rfl; have hcz30_1 : w28.cell? ⟨gb196, 1, none⟩ = some (.string (⟨#[]⟩ : ByteArray)) := (blk_cell BK196.out 1).trans rfl; have hcz30_2 : w28.cell? ⟨gb196, 2, none⟩ = some (.string (⟨#[]⟩ : ByteArray)) := (blk_cell BK196.out 2).trans rfl; have hfz30_0 := blk_frozen BK196.out 0; have hfz30_1 := blk_frozen BK196.out 1; have hfz30_2 := blk_frozen BK196.out 2) | (go_at_call 11; (with_reducible refine (line_Normal.calls t189 t190 true _ A21.out).mono ?_); rintro e w31 ⟨rfl, hb⟩; have n0_ := Aside0.mk (blk_below (g := gb187) (o := .cells #[.int .i64 a2_0, .bool true, .string a2_2] 23 (0, 0)) (by (with_reducible repeat (first | refine blk_drewN ?_ _ | refine blk_drew ?_ | refine blk_alloc ?_ _)); refine blk_far ?_ NB187_196.out _; (with_reducible repeat (first | refine blk_drewN ?_ _ | refine blk_drew ?_ | refine blk_alloc ?_ _)); refine blk_far ?_ NB187_196.out _; (with_reducible repeat (first | refine blk_drewN ?_ _ | refine blk_drew ?_ | refine blk_alloc ?_ _)); refine blk_far ?_ NB187_196.out _; (with_reducible repeat (first | refine blk_drewN ?_ _ | refine blk_drew ?_ | refine blk_alloc ?_ _)); exact BK187.out) hb); have n1_ := Aside0.mk (blk_below (g := gb196) (o := .cells #[.int .i64 t193, .string t194, .string t195] 32 (0, 0)) (by (with_reducible repeat (first | refine blk_drewN ?_ _ | refine blk_drew ?_ | refine blk_alloc ?_ _)); refine blk_put (cs := #[.int .i64 t193, .string t194, .string (⟨#[]⟩ : ByteArray)]) ?_ 2 _ rfl; (with_reducible repeat (first | refine blk_drewN ?_ _ | refine blk_drew ?_ | refine blk_alloc ?_ _)); refine blk_put (cs := #[.int .i64 t193, .string (⟨#[]⟩ : ByteArray), .string (⟨#[]⟩ : ByteArray)]) ?_ 1 _ rfl; (with_reducible repeat (first | refine blk_drewN ?_ _ | refine blk_drew ?_ | refine blk_alloc ?_ _)); refine blk_put (cs := #[.int .i64 0, .string (⟨#[]⟩ : ByteArray), .string (⟨#[]⟩ : ByteArray)]) ?_ 0 _ rfl; (with_reducible repeat (first | refine blk_drewN ?_ _ | refine blk_drew ?_ | refine blk_alloc ?_ _)); exact BK196.out) hb); have n2_ := Aside0.mk (below_step (by repeat (first | (with_reducible first | exact HB.out | apply below_alloc | apply pw_below_drewN | apply below_drew1 | refine below_set ?_ GE187.out | refine below_set ?_ GE196.out) | exact HB.out)) hb); clear BK187; clear BK196; clear HB; have BK187 := n0_; have BK196 := n1_; have HB := n2_; clear n0_ n1_ n2_; (try clear hb); (try clear hb2); (try clear hk); (try clear hi)) | (go_at_call 7; (with_reducible refine (calamuslaw24_lives.calls kj5  t198 _ A23.out).mono ?_); rintro e w32 ⟨rfl, hb⟩; have n0_ := Aside0.mk (blk_below (g := gb187) (o := .cells #[.int .i64 a2_0, .bool true, .string a2_2] 23 (0, 0)) (by (with_reducible repeat (first | refine blk_drewN ?_ _ | refine blk_drew ?_ | refine blk_alloc ?_ _)); exact BK187.out) hb); have n1_ := Aside0.mk (blk_below (g := gb196) (o := .cells #[.int .i64 t193, .string t194, .string t195] 32 (0, 0)) (by (with_reducible repeat (first | refine blk_drewN ?_ _ | refine blk_drew ?_ | refine blk_alloc ?_ _)); exact BK196.out) hb); have n2_ := Aside0.mk (below_step (by repeat (first | (with_reducible first | exact HB.out | apply below_alloc | apply pw_below_drewN | apply below_drew1 | refine below_set ?_ GE187.out | refine below_set ?_ GE196.out) | exact HB.out)) hb); clear BK187; clear BK196; clear HB; have BK187 := n0_; have BK196 := n1_; have HB := n2_; clear n0_ n1_ n2_; (try clear hb); (try clear hb2); (try clear hk); (try clear hi)))
                    go_ret
                    exact ⟨by first | rfl | (simp [errW_none, errW_some] <;> rfl) | (simp only [← hji15]; first | rfl | (simp [errW_none, errW_some] <;> rfl)) | (simp [*, errW_none, errW_some] <;> rfl), by repeat (first | (with_reducible first | exact HB.out | apply below_alloc | apply pw_below_drewN | apply below_drew1 | refine below_set ?_ GE187.out | refine below_set ?_ GE196.out) | exact HB.out)⟩
                  · replace c22 := Bool.eq_false_iff.mpr c22
                    subst c22
                    have H1 : (some false) = some r := by rw [if_neg (show ¬ (false = true) by decide)] at H; exact H
                    clear H
                    have H := H1
                    clear H1
                    obtain rfl := Option.some.inj H
                    have hcz33_0 : wc.cell? ⟨gb187, 0, none⟩ = some (.int .i64 a2_0) := (blk_cell BK187.out 0).trans rfl
                    have hcz33_1 : wc.cell? ⟨gb187, 1, none⟩ = some (.bool true) := (blk_cell BK187.out 1).trans rfl
                    have hcz33_2 : wc.cell? ⟨gb187, 2, none⟩ = some (.string a2_2) := (blk_cell BK187.out 2).trans rfl
                    have hfz33_0 := blk_frozen BK187.out 0
                    have hfz33_1 := blk_frozen BK187.out 1
                    have hfz33_2 := blk_frozen BK187.out 2
                    go_wp2_with (first | ((with_reducible refine gate_callee (f := 8) rfl ?_); refine goesL_ (some 33) rfl rfl Tryd.func8 (by kernel_rfl) rfl #[.string a0, .int .i64 a1, .agg #[.int .i64 a2_0, .bool true, .string a2_2], .bool a3, .int .i64 a4] rfl (by (try simp only [List.map_toArray, List.map_cons, List.map_nil]); first | done | rfl | (simp only [List.length_drop, List.length_take]; rfl)) ?_; (with_reducible refine (paste_Put.calls kj5 a0 a1 a2_0 true a2_2 a3 a4 t189 t190 t191 _ A13.out).mono ?_); rintro e w34 ⟨rfl, hb⟩; refine ⟨_, rfl, ?_⟩; have n0_ := Aside0.mk (blk_below (g := gb187) (o := .cells #[.int .i64 a2_0, .bool true, .string a2_2] 23 (0, 0)) (by (with_reducible repeat (first | refine blk_drewN ?_ _ | refine blk_drew ?_ | refine blk_alloc ?_ _)); exact BK187.out) hb); have n1_ := Aside0.mk (below_step (by repeat (first | (with_reducible first | exact HB.out | apply below_alloc | apply pw_below_drewN | apply below_drew1 | refine below_set ?_ GE187.out) | exact HB.out)) hb); clear BK187; clear HB; have BK187 := n0_; have HB := n1_; clear n0_ n1_; (try clear hb); (try clear hb2); (try clear hk); (try clear hi); have hcz35_0 : w34.cell? ⟨gb187, 0, none⟩ = some (.int .i64 a2_0) := (blk_cell BK187.out 0).trans rfl; have hcz35_1 : w34.cell? ⟨gb187, 1, none⟩ = some (.bool true) := (blk_cell BK187.out 1).trans rfl; have hcz35_2 : w34.cell? ⟨gb187, 2, none⟩ = some (.string a2_2) := (blk_cell BK187.out 2).trans rfl; have hfz35_0 := blk_frozen BK187.out 0; have hfz35_1 := blk_frozen BK187.out 1; have hfz35_2 := blk_frozen BK187.out 2) | ((with_reducible refine gate_callee (f := 10) rfl ?_); refine goesL_ (some 62) rfl rfl Tryd.func10 (by kernel_rfl) rfl #[.string a0, .string t189] rfl (by (try simp only [List.map_toArray, List.map_cons, List.map_nil]); first | done | rfl | (simp only [List.length_drop, List.length_take]; rfl)) ?_; (with_reducible refine (change_Diff.calls kj5 a0 t189 t193 t194 t195 _ A17.out).mono ?_); rintro e w36 ⟨rfl, hb⟩; refine ⟨_, rfl, ?_⟩; have n0_ := Aside0.mk (blk_below (g := gb187) (o := .cells #[.int .i64 a2_0, .bool true, .string a2_2] 23 (0, 0)) (by (with_reducible repeat (first | refine blk_drewN ?_ _ | refine blk_drew ?_ | refine blk_alloc ?_ _)); exact BK187.out) hb); have n1_ := Aside0.mk (below_step (by repeat (first | (with_reducible first | exact HB.out | apply below_alloc | apply pw_below_drewN | apply below_drew1 | refine below_set ?_ GE187.out) | exact HB.out)) hb); clear BK187; clear HB; have BK187 := n0_; have HB := n1_; clear n0_ n1_; (try clear hb); (try clear hb2); (try clear hk); (try clear hi)) | ((with_reducible refine gate_dst (N := 16) rfl ?_); refine box_event ?hg (N := 16) ?hd (cs := #[.int .i64 0, .string (⟨#[]⟩ : ByteArray), .string (⟨#[]⟩ : ByteArray)]) (t := 32) ?hr ?_; (case hd => rfl); (case hg => rfl); (case hr => first | (go_simp; done) | (go_simp; rfl)); intro gb196 hg w37 hbox hb; have n0_ := Aside0.mk (blk_below (g := gb187) (o := .cells #[.int .i64 a2_0, .bool true, .string a2_2] 23 (0, 0)) (by (with_reducible repeat (first | refine blk_drewN ?_ _ | refine blk_drew ?_ | refine blk_alloc ?_ _)); exact BK187.out) hb); have n1_ := Aside0.mk (below_step (by repeat (first | (with_reducible first | exact HB.out | apply below_alloc | apply pw_below_drewN | apply below_drew1 | refine below_set ?_ GE187.out) | exact HB.out)) hb); have n2_ := Aside0.mk (hbox); have n3_ := Aside0.mk ((by rw [hg]; exact (below_size (by repeat (first | (with_reducible first | exact HB.out | apply below_alloc | apply pw_below_drewN | apply below_drew1 | refine below_set ?_ GE187.out) | exact HB.out))) : w.heap.size ≤ gb196)); have n4_ := Aside0.mk ((by rw [hg]; exact (below_size (by repeat (first | (with_reducible first | exact HB.out | apply below_alloc | apply pw_below_drewN | apply below_drew1 | refine below_set ?_ GE187.out) | exact HB.out))) : w.heap.size ≤ gb196)); have n5_ := Aside0.mk ((by rw [hg]; exact Nat.ne_of_lt (blk_lt (g := gb187) (o := .cells #[.int .i64 a2_0, .bool true, .string a2_2] 23 (0, 0)) (by (with_reducible repeat (first | refine blk_drewN ?_ _ | refine blk_drew ?_ | refine blk_alloc ?_ _)); exact BK187.out)) : gb187 ≠ gb196)); have n6_ := Aside0.mk ((by rw [hg]; exact Nat.ne_of_gt (blk_lt (g := gb187) (o := .cells #[.int .i64 a2_0, .bool true, .string a2_2] 23 (0, 0)) (by (with_reducible repeat (first | refine blk_drewN ?_ _ | refine blk_drew ?_ | refine blk_alloc ?_ _)); exact BK187.out)) : gb196 ≠ gb187)); clear BK187; clear HB; have BK187 := n0_; have HB := n1_; have BK196 := n2_; have GW196 := n3_; have GE196 := n4_; have NB187_196 := n5_; have NB196_187 := n6_; clear n0_ n1_ n2_ n3_ n4_ n5_ n6_; clear hb hbox hg; have hnb38 := NB196_187.out; have hnc38 := NB187_196.out; have hcz39_0 : w37.cell? ⟨gb196, 0, none⟩ = some (.int .i64 0) := (blk_cell BK196.out 0).trans rfl; have hcz39_1 : w37.cell? ⟨gb196, 1, none⟩ = some (.string (⟨#[]⟩ : ByteArray)) := (blk_cell BK196.out 1).trans rfl; have hcz39_2 : w37.cell? ⟨gb196, 2, none⟩ = some (.string (⟨#[]⟩ : ByteArray)) := (blk_cell BK196.out 2).trans rfl; have hfz39_0 := blk_frozen BK196.out 0; have hfz39_1 := blk_frozen BK196.out 1; have hfz39_2 := blk_frozen BK196.out 2) | (go_at_call 11; (with_reducible refine (line_Normal.calls t189 t190 false _ A21.out).mono ?_); rintro e w40 ⟨rfl, hb⟩; have n0_ := Aside0.mk (blk_below (g := gb187) (o := .cells #[.int .i64 a2_0, .bool true, .string a2_2] 23 (0, 0)) (by (with_reducible repeat (first | refine blk_drewN ?_ _ | refine blk_drew ?_ | refine blk_alloc ?_ _)); refine blk_far ?_ NB187_196.out _; (with_reducible repeat (first | refine blk_drewN ?_ _ | refine blk_drew ?_ | refine blk_alloc ?_ _)); refine blk_far ?_ NB187_196.out _; (with_reducible repeat (first | refine blk_drewN ?_ _ | refine blk_drew ?_ | refine blk_alloc ?_ _)); refine blk_far ?_ NB187_196.out _; (with_reducible repeat (first | refine blk_drewN ?_ _ | refine blk_drew ?_ | refine blk_alloc ?_ _)); exact BK187.out) hb); have n1_ := Aside0.mk (blk_below (g := gb196) (o := .cells #[.int .i64 t193, .string t194, .string t195] 32 (0, 0)) (by (with_reducible repeat (first | refine blk_drewN ?_ _ | refine blk_drew ?_ | refine blk_alloc ?_ _)); refine blk_put (cs := #[.int .i64 t193, .string t194, .string (⟨#[]⟩ : ByteArray)]) ?_ 2 _ rfl; (with_reducible repeat (first | refine blk_drewN ?_ _ | refine blk_drew ?_ | refine blk_alloc ?_ _)); refine blk_put (cs := #[.int .i64 t193, .string (⟨#[]⟩ : ByteArray), .string (⟨#[]⟩ : ByteArray)]) ?_ 1 _ rfl; (with_reducible repeat (first | refine blk_drewN ?_ _ | refine blk_drew ?_ | refine blk_alloc ?_ _)); refine blk_put (cs := #[.int .i64 0, .string (⟨#[]⟩ : ByteArray), .string (⟨#[]⟩ : ByteArray)]) ?_ 0 _ rfl; (with_reducible repeat (first | refine blk_drewN ?_ _ | refine blk_drew ?_ | refine blk_alloc ?_ _)); exact BK196.out) hb); have n2_ := Aside0.mk (below_step (by repeat (first | (with_reducible first | exact HB.out | apply below_alloc | apply pw_below_drewN | apply below_drew1 | refine below_set ?_ GE187.out | refine below_set ?_ GE196.out) | exact HB.out)) hb); clear BK187; clear BK196; clear HB; have BK187 := n0_; have BK196 := n1_; have HB := n2_; clear n0_ n1_ n2_; (try clear hb); (try clear hb2); (try clear hk); (try clear hi)))
                    go_ret
                    exact ⟨by first | rfl | (simp [errW_none, errW_some] <;> rfl) | (simp only [← hji15]; first | rfl | (simp [errW_none, errW_some] <;> rfl)) | (simp [*, errW_none, errW_some] <;> rfl), by repeat (first | (with_reducible first | exact HB.out | apply below_alloc | apply pw_below_drewN | apply below_drew1 | refine below_set ?_ GE187.out | refine below_set ?_ GE196.out) | exact HB.out)⟩
                · rw [if_neg c20] at H
                  have c20b0 : ((t195.size : Int) == (wrap64 ((wrap64 ((ji15) * (a2_2.size : Int))) + (ji15)))) = false := beq_eq_false_iff_ne.mpr c20
                  have c20b1 : ((t195.size : Int) != (wrap64 ((wrap64 ((ji15) * (a2_2.size : Int))) + (ji15)))) = true := bne_iff_ne.mpr c20
                  obtain rfl := Option.some.inj H
                  have hcz41_0 : wc.cell? ⟨gb187, 0, none⟩ = some (.int .i64 a2_0) := (blk_cell BK187.out 0).trans rfl
                  have hcz41_1 : wc.cell? ⟨gb187, 1, none⟩ = some (.bool true) := (blk_cell BK187.out 1).trans rfl
                  have hcz41_2 : wc.cell? ⟨gb187, 2, none⟩ = some (.string a2_2) := (blk_cell BK187.out 2).trans rfl
                  have hfz41_0 := blk_frozen BK187.out 0
                  have hfz41_1 := blk_frozen BK187.out 1
                  have hfz41_2 := blk_frozen BK187.out 2
                  go_wp2_with (first | ((with_reducible refine gate_callee (f := 8) rfl ?_); refine goesL_ (some 33) rfl rfl Tryd.func8 (by kernel_rfl) rfl #[.string a0, .int .i64 a1, .agg #[.int .i64 a2_0, .bool true, .string a2_2], .bool a3, .int .i64 a4] rfl (by (try simp only [List.map_toArray, List.map_cons, List.map_nil]); first | done | rfl | (simp only [List.length_drop, List.length_take]; rfl)) ?_; (with_reducible refine (paste_Put.calls kj5 a0 a1 a2_0 true a2_2 a3 a4 t189 t190 t191 _ A13.out).mono ?_); rintro e w42 ⟨rfl, hb⟩; refine ⟨_, rfl, ?_⟩; have n0_ := Aside0.mk (blk_below (g := gb187) (o := .cells #[.int .i64 a2_0, .bool true, .string a2_2] 23 (0, 0)) (by (with_reducible repeat (first | refine blk_drewN ?_ _ | refine blk_drew ?_ | refine blk_alloc ?_ _)); exact BK187.out) hb); have n1_ := Aside0.mk (below_step (by repeat (first | (with_reducible first | exact HB.out | apply below_alloc | apply pw_below_drewN | apply below_drew1 | refine below_set ?_ GE187.out) | exact HB.out)) hb); clear BK187; clear HB; have BK187 := n0_; have HB := n1_; clear n0_ n1_; (try clear hb); (try clear hb2); (try clear hk); (try clear hi); have hcz43_0 : w42.cell? ⟨gb187, 0, none⟩ = some (.int .i64 a2_0) := (blk_cell BK187.out 0).trans rfl; have hcz43_1 : w42.cell? ⟨gb187, 1, none⟩ = some (.bool true) := (blk_cell BK187.out 1).trans rfl; have hcz43_2 : w42.cell? ⟨gb187, 2, none⟩ = some (.string a2_2) := (blk_cell BK187.out 2).trans rfl; have hfz43_0 := blk_frozen BK187.out 0; have hfz43_1 := blk_frozen BK187.out 1; have hfz43_2 := blk_frozen BK187.out 2) | ((with_reducible refine gate_callee (f := 10) rfl ?_); refine goesL_ (some 62) rfl rfl Tryd.func10 (by kernel_rfl) rfl #[.string a0, .string t189] rfl (by (try simp only [List.map_toArray, List.map_cons, List.map_nil]); first | done | rfl | (simp only [List.length_drop, List.length_take]; rfl)) ?_; (with_reducible refine (change_Diff.calls kj5 a0 t189 t193 t194 t195 _ A17.out).mono ?_); rintro e w44 ⟨rfl, hb⟩; refine ⟨_, rfl, ?_⟩; have n0_ := Aside0.mk (blk_below (g := gb187) (o := .cells #[.int .i64 a2_0, .bool true, .string a2_2] 23 (0, 0)) (by (with_reducible repeat (first | refine blk_drewN ?_ _ | refine blk_drew ?_ | refine blk_alloc ?_ _)); exact BK187.out) hb); have n1_ := Aside0.mk (below_step (by repeat (first | (with_reducible first | exact HB.out | apply below_alloc | apply pw_below_drewN | apply below_drew1 | refine below_set ?_ GE187.out) | exact HB.out)) hb); clear BK187; clear HB; have BK187 := n0_; have HB := n1_; clear n0_ n1_; (try clear hb); (try clear hb2); (try clear hk); (try clear hi)) | ((with_reducible refine gate_dst (N := 16) rfl ?_); refine box_event ?hg (N := 16) ?hd (cs := #[.int .i64 0, .string (⟨#[]⟩ : ByteArray), .string (⟨#[]⟩ : ByteArray)]) (t := 32) ?hr ?_; (case hd => rfl); (case hg => rfl); (case hr => first | (go_simp; done) | (go_simp; rfl)); intro gb196 hg w45 hbox hb; have n0_ := Aside0.mk (blk_below (g := gb187) (o := .cells #[.int .i64 a2_0, .bool true, .string a2_2] 23 (0, 0)) (by (with_reducible repeat (first | refine blk_drewN ?_ _ | refine blk_drew ?_ | refine blk_alloc ?_ _)); exact BK187.out) hb); have n1_ := Aside0.mk (below_step (by repeat (first | (with_reducible first | exact HB.out | apply below_alloc | apply pw_below_drewN | apply below_drew1 | refine below_set ?_ GE187.out) | exact HB.out)) hb); have n2_ := Aside0.mk (hbox); have n3_ := Aside0.mk ((by rw [hg]; exact (below_size (by repeat (first | (with_reducible first | exact HB.out | apply below_alloc | apply pw_below_drewN | apply below_drew1 | refine below_set ?_ GE187.out) | exact HB.out))) : w.heap.size ≤ gb196)); have n4_ := Aside0.mk ((by rw [hg]; exact (below_size (by repeat (first | (with_reducible first | exact HB.out | apply below_alloc | apply pw_below_drewN | apply below_drew1 | refine below_set ?_ GE187.out) | exact HB.out))) : w.heap.size ≤ gb196)); have n5_ := Aside0.mk ((by rw [hg]; exact Nat.ne_of_lt (blk_lt (g := gb187) (o := .cells #[.int .i64 a2_0, .bool true, .string a2_2] 23 (0, 0)) (by (with_reducible repeat (first | refine blk_drewN ?_ _ | refine blk_drew ?_ | refine blk_alloc ?_ _)); exact BK187.out)) : gb187 ≠ gb196)); have n6_ := Aside0.mk ((by rw [hg]; exact Nat.ne_of_gt (blk_lt (g := gb187) (o := .cells #[.int .i64 a2_0, .bool true, .string a2_2] 23 (0, 0)) (by (with_reducible repeat (first | refine blk_drewN ?_ _ | refine blk_drew ?_ | refine blk_alloc ?_ _)); exact BK187.out)) : gb196 ≠ gb187)); clear BK187; clear HB; have BK187 := n0_; have HB := n1_; have BK196 := n2_; have GW196 := n3_; have GE196 := n4_; have NB187_196 := n5_; have NB196_187 := n6_; clear n0_ n1_ n2_ n3_ n4_ n5_ n6_; clear hb hbox hg; have hnb46 := NB196_187.out; have hnc46 := NB187_196.out; have hcz47_0 : w45.cell? ⟨gb196, 0, none⟩ = some (.int .i64 0) := (blk_cell BK196.out 0).trans rfl; have hcz47_1 : w45.cell? ⟨gb196, 1, none⟩ = some (.string (⟨#[]⟩ : ByteArray)) := (blk_cell BK196.out 1).trans rfl; have hcz47_2 : w45.cell? ⟨gb196, 2, none⟩ = some (.string (⟨#[]⟩ : ByteArray)) := (blk_cell BK196.out 2).trans rfl; have hfz47_0 := blk_frozen BK196.out 0; have hfz47_1 := blk_frozen BK196.out 1; have hfz47_2 := blk_frozen BK196.out 2))
                  go_ret
                  exact ⟨by first | rfl | (simp [errW_none, errW_some] <;> rfl) | (simp only [← hji15]; first | rfl | (simp [errW_none, errW_some] <;> rfl)) | (simp [*, errW_none, errW_some] <;> rfl), by repeat (first | (with_reducible first | exact HB.out | apply below_alloc | apply pw_below_drewN | apply below_drew1 | refine below_set ?_ GE187.out | refine below_set ?_ GE196.out) | exact HB.out)⟩
              · rw [if_neg c19] at H
                have c19b0 : (t194.toList == ([] : List UInt8)) = false := beq_eq_false_iff_ne.mpr c19
                have c19b1 : (t194.toList != ([] : List UInt8)) = true := bne_iff_ne.mpr c19
                obtain rfl := Option.some.inj H
                have hcz48_0 : wc.cell? ⟨gb187, 0, none⟩ = some (.int .i64 a2_0) := (blk_cell BK187.out 0).trans rfl
                have hcz48_1 : wc.cell? ⟨gb187, 1, none⟩ = some (.bool true) := (blk_cell BK187.out 1).trans rfl
                have hcz48_2 : wc.cell? ⟨gb187, 2, none⟩ = some (.string a2_2) := (blk_cell BK187.out 2).trans rfl
                have hfz48_0 := blk_frozen BK187.out 0
                have hfz48_1 := blk_frozen BK187.out 1
                have hfz48_2 := blk_frozen BK187.out 2
                go_wp2_with (first | ((with_reducible refine gate_callee (f := 8) rfl ?_); refine goesL_ (some 33) rfl rfl Tryd.func8 (by kernel_rfl) rfl #[.string a0, .int .i64 a1, .agg #[.int .i64 a2_0, .bool true, .string a2_2], .bool a3, .int .i64 a4] rfl (by (try simp only [List.map_toArray, List.map_cons, List.map_nil]); first | done | rfl | (simp only [List.length_drop, List.length_take]; rfl)) ?_; (with_reducible refine (paste_Put.calls kj5 a0 a1 a2_0 true a2_2 a3 a4 t189 t190 t191 _ A13.out).mono ?_); rintro e w49 ⟨rfl, hb⟩; refine ⟨_, rfl, ?_⟩; have n0_ := Aside0.mk (blk_below (g := gb187) (o := .cells #[.int .i64 a2_0, .bool true, .string a2_2] 23 (0, 0)) (by (with_reducible repeat (first | refine blk_drewN ?_ _ | refine blk_drew ?_ | refine blk_alloc ?_ _)); exact BK187.out) hb); have n1_ := Aside0.mk (below_step (by repeat (first | (with_reducible first | exact HB.out | apply below_alloc | apply pw_below_drewN | apply below_drew1 | refine below_set ?_ GE187.out) | exact HB.out)) hb); clear BK187; clear HB; have BK187 := n0_; have HB := n1_; clear n0_ n1_; (try clear hb); (try clear hb2); (try clear hk); (try clear hi); have hcz50_0 : w49.cell? ⟨gb187, 0, none⟩ = some (.int .i64 a2_0) := (blk_cell BK187.out 0).trans rfl; have hcz50_1 : w49.cell? ⟨gb187, 1, none⟩ = some (.bool true) := (blk_cell BK187.out 1).trans rfl; have hcz50_2 : w49.cell? ⟨gb187, 2, none⟩ = some (.string a2_2) := (blk_cell BK187.out 2).trans rfl; have hfz50_0 := blk_frozen BK187.out 0; have hfz50_1 := blk_frozen BK187.out 1; have hfz50_2 := blk_frozen BK187.out 2) | ((with_reducible refine gate_callee (f := 10) rfl ?_); refine goesL_ (some 62) rfl rfl Tryd.func10 (by kernel_rfl) rfl #[.string a0, .string t189] rfl (by (try simp only [List.map_toArray, List.map_cons, List.map_nil]); first | done | rfl | (simp only [List.length_drop, List.length_take]; rfl)) ?_; (with_reducible refine (change_Diff.calls kj5 a0 t189 t193 t194 t195 _ A17.out).mono ?_); rintro e w51 ⟨rfl, hb⟩; refine ⟨_, rfl, ?_⟩; have n0_ := Aside0.mk (blk_below (g := gb187) (o := .cells #[.int .i64 a2_0, .bool true, .string a2_2] 23 (0, 0)) (by (with_reducible repeat (first | refine blk_drewN ?_ _ | refine blk_drew ?_ | refine blk_alloc ?_ _)); exact BK187.out) hb); have n1_ := Aside0.mk (below_step (by repeat (first | (with_reducible first | exact HB.out | apply below_alloc | apply pw_below_drewN | apply below_drew1 | refine below_set ?_ GE187.out) | exact HB.out)) hb); clear BK187; clear HB; have BK187 := n0_; have HB := n1_; clear n0_ n1_; (try clear hb); (try clear hb2); (try clear hk); (try clear hi)) | ((with_reducible refine gate_dst (N := 16) rfl ?_); refine box_event ?hg (N := 16) ?hd (cs := #[.int .i64 0, .string (⟨#[]⟩ : ByteArray), .string (⟨#[]⟩ : ByteArray)]) (t := 32) ?hr ?_; (case hd => rfl); (case hg => rfl); (case hr => first | (go_simp; done) | (go_simp; rfl)); intro gb196 hg w52 hbox hb; have n0_ := Aside0.mk (blk_below (g := gb187) (o := .cells #[.int .i64 a2_0, .bool true, .string a2_2] 23 (0, 0)) (by (with_reducible repeat (first | refine blk_drewN ?_ _ | refine blk_drew ?_ | refine blk_alloc ?_ _)); exact BK187.out) hb); have n1_ := Aside0.mk (below_step (by repeat (first | (with_reducible first | exact HB.out | apply below_alloc | apply pw_below_drewN | apply below_drew1 | refine below_set ?_ GE187.out) | exact HB.out)) hb); have n2_ := Aside0.mk (hbox); have n3_ := Aside0.mk ((by rw [hg]; exact (below_size (by repeat (first | (with_reducible first | exact HB.out | apply below_alloc | apply pw_below_drewN | apply below_drew1 | refine below_set ?_ GE187.out) | exact HB.out))) : w.heap.size ≤ gb196)); have n4_ := Aside0.mk ((by rw [hg]; exact (below_size (by repeat (first | (with_reducible first | exact HB.out | apply below_alloc | apply pw_below_drewN | apply below_drew1 | refine below_set ?_ GE187.out) | exact HB.out))) : w.heap.size ≤ gb196)); have n5_ := Aside0.mk ((by rw [hg]; exact Nat.ne_of_lt (blk_lt (g := gb187) (o := .cells #[.int .i64 a2_0, .bool true, .string a2_2] 23 (0, 0)) (by (with_reducible repeat (first | refine blk_drewN ?_ _ | refine blk_drew ?_ | refine blk_alloc ?_ _)); exact BK187.out)) : gb187 ≠ gb196)); have n6_ := Aside0.mk ((by rw [hg]; exact Nat.ne_of_gt (blk_lt (g := gb187) (o := .cells #[.int .i64 a2_0, .bool true, .string a2_2] 23 (0, 0)) (by (with_reducible repeat (first | refine blk_drewN ?_ _ | refine blk_drew ?_ | refine blk_alloc ?_ _)); exact BK187.out)) : gb196 ≠ gb187)); clear BK187; clear HB; have BK187 := n0_; have HB := n1_; have BK196 := n2_; have GW196 := n3_; have GE196 := n4_; have NB187_196 := n5_; have NB196_187 := n6_; clear n0_ n1_ n2_ n3_ n4_ n5_ n6_; clear hb hbox hg; have hnb53 := NB196_187.out; have hnc53 := NB187_196.out; have hcz54_0 : w52.cell? ⟨gb196, 0, none⟩ = some (.int .i64 0) := (blk_cell BK196.out 0).trans rfl; have hcz54_1 : w52.cell? ⟨gb196, 1, none⟩ = some (.string (⟨#[]⟩ : ByteArray)) := (blk_cell BK196.out 1).trans rfl; have hcz54_2 : w52.cell? ⟨gb196, 2, none⟩ = some (.string (⟨#[]⟩ : ByteArray)) := (blk_cell BK196.out 2).trans rfl; have hfz54_0 := blk_frozen BK196.out 0; have hfz54_1 := blk_frozen BK196.out 1; have hfz54_2 := blk_frozen BK196.out 2))
                go_ret
                exact ⟨by first | rfl | (simp [errW_none, errW_some] <;> rfl) | (simp only [← hji15]; first | rfl | (simp [errW_none, errW_some] <;> rfl)) | (simp [*, errW_none, errW_some] <;> rfl), by repeat (first | (with_reducible first | exact HB.out | apply below_alloc | apply pw_below_drewN | apply below_drew1 | refine below_set ?_ GE187.out | refine below_set ?_ GE196.out) | exact HB.out)⟩
            · rw [if_neg c18] at H
              have c18b0 : ((t189.size : Int) == (wrap64 ((a0.size : Int) + (wrap64 ((wrap64 ((ji15) * (a2_2.size : Int))) + (ji15)))))) = false := beq_eq_false_iff_ne.mpr c18
              have c18b1 : ((t189.size : Int) != (wrap64 ((a0.size : Int) + (wrap64 ((wrap64 ((ji15) * (a2_2.size : Int))) + (ji15)))))) = true := bne_iff_ne.mpr c18
              obtain rfl := Option.some.inj H
              have hcz55_0 : wc.cell? ⟨gb187, 0, none⟩ = some (.int .i64 a2_0) := (blk_cell BK187.out 0).trans rfl
              have hcz55_1 : wc.cell? ⟨gb187, 1, none⟩ = some (.bool true) := (blk_cell BK187.out 1).trans rfl
              have hcz55_2 : wc.cell? ⟨gb187, 2, none⟩ = some (.string a2_2) := (blk_cell BK187.out 2).trans rfl
              have hfz55_0 := blk_frozen BK187.out 0
              have hfz55_1 := blk_frozen BK187.out 1
              have hfz55_2 := blk_frozen BK187.out 2
              go_wp2_with (first | ((with_reducible refine gate_callee (f := 8) rfl ?_); refine goesL_ (some 33) rfl rfl Tryd.func8 (by kernel_rfl) rfl #[.string a0, .int .i64 a1, .agg #[.int .i64 a2_0, .bool true, .string a2_2], .bool a3, .int .i64 a4] rfl (by (try simp only [List.map_toArray, List.map_cons, List.map_nil]); first | done | rfl | (simp only [List.length_drop, List.length_take]; rfl)) ?_; (with_reducible refine (paste_Put.calls kj5 a0 a1 a2_0 true a2_2 a3 a4 t189 t190 t191 _ A13.out).mono ?_); rintro e w56 ⟨rfl, hb⟩; refine ⟨_, rfl, ?_⟩; have n0_ := Aside0.mk (blk_below (g := gb187) (o := .cells #[.int .i64 a2_0, .bool true, .string a2_2] 23 (0, 0)) (by (with_reducible repeat (first | refine blk_drewN ?_ _ | refine blk_drew ?_ | refine blk_alloc ?_ _)); exact BK187.out) hb); have n1_ := Aside0.mk (below_step (by repeat (first | (with_reducible first | exact HB.out | apply below_alloc | apply pw_below_drewN | apply below_drew1 | refine below_set ?_ GE187.out) | exact HB.out)) hb); clear BK187; clear HB; have BK187 := n0_; have HB := n1_; clear n0_ n1_; (try clear hb); (try clear hb2); (try clear hk); (try clear hi); have hcz57_0 : w56.cell? ⟨gb187, 0, none⟩ = some (.int .i64 a2_0) := (blk_cell BK187.out 0).trans rfl; have hcz57_1 : w56.cell? ⟨gb187, 1, none⟩ = some (.bool true) := (blk_cell BK187.out 1).trans rfl; have hcz57_2 : w56.cell? ⟨gb187, 2, none⟩ = some (.string a2_2) := (blk_cell BK187.out 2).trans rfl; have hfz57_0 := blk_frozen BK187.out 0; have hfz57_1 := blk_frozen BK187.out 1; have hfz57_2 := blk_frozen BK187.out 2) | ((with_reducible refine gate_callee (f := 10) rfl ?_); refine goesL_ (some 62) rfl rfl Tryd.func10 (by kernel_rfl) rfl #[.string a0, .string t189] rfl (by (try simp only [List.map_toArray, List.map_cons, List.map_nil]); first | done | rfl | (simp only [List.length_drop, List.length_take]; rfl)) ?_; (with_reducible refine (change_Diff.calls kj5 a0 t189 t193 t194 t195 _ A17.out).mono ?_); rintro e w58 ⟨rfl, hb⟩; refine ⟨_, rfl, ?_⟩; have n0_ := Aside0.mk (blk_below (g := gb187) (o := .cells #[.int .i64 a2_0, .bool true, .string a2_2] 23 (0, 0)) (by (with_reducible repeat (first | refine blk_drewN ?_ _ | refine blk_drew ?_ | refine blk_alloc ?_ _)); exact BK187.out) hb); have n1_ := Aside0.mk (below_step (by repeat (first | (with_reducible first | exact HB.out | apply below_alloc | apply pw_below_drewN | apply below_drew1 | refine below_set ?_ GE187.out) | exact HB.out)) hb); clear BK187; clear HB; have BK187 := n0_; have HB := n1_; clear n0_ n1_; (try clear hb); (try clear hb2); (try clear hk); (try clear hi)) | ((with_reducible refine gate_dst (N := 16) rfl ?_); refine box_event ?hg (N := 16) ?hd (cs := #[.int .i64 0, .string (⟨#[]⟩ : ByteArray), .string (⟨#[]⟩ : ByteArray)]) (t := 32) ?hr ?_; (case hd => rfl); (case hg => rfl); (case hr => first | (go_simp; done) | (go_simp; rfl)); intro gb196 hg w59 hbox hb; have n0_ := Aside0.mk (blk_below (g := gb187) (o := .cells #[.int .i64 a2_0, .bool true, .string a2_2] 23 (0, 0)) (by (with_reducible repeat (first | refine blk_drewN ?_ _ | refine blk_drew ?_ | refine blk_alloc ?_ _)); exact BK187.out) hb); have n1_ := Aside0.mk (below_step (by repeat (first | (with_reducible first | exact HB.out | apply below_alloc | apply pw_below_drewN | apply below_drew1 | refine below_set ?_ GE187.out) | exact HB.out)) hb); have n2_ := Aside0.mk (hbox); have n3_ := Aside0.mk ((by rw [hg]; exact (below_size (by repeat (first | (with_reducible first | exact HB.out | apply below_alloc | apply pw_below_drewN | apply below_drew1 | refine below_set ?_ GE187.out) | exact HB.out))) : w.heap.size ≤ gb196)); have n4_ := Aside0.mk ((by rw [hg]; exact (below_size (by repeat (first | (with_reducible first | exact HB.out | apply below_alloc | apply pw_below_drewN | apply below_drew1 | refine below_set ?_ GE187.out) | exact HB.out))) : w.heap.size ≤ gb196)); have n5_ := Aside0.mk ((by rw [hg]; exact Nat.ne_of_lt (blk_lt (g := gb187) (o := .cells #[.int .i64 a2_0, .bool true, .string a2_2] 23 (0, 0)) (by (with_reducible repeat (first | refine blk_drewN ?_ _ | refine blk_drew ?_ | refine blk_alloc ?_ _)); exact BK187.out)) : gb187 ≠ gb196)); have n6_ := Aside0.mk ((by rw [hg]; exact Nat.ne_of_gt (blk_lt (g := gb187) (o := .cells #[.int .i64 a2_0, .bool true, .string a2_2] 23 (0, 0)) (by (with_reducible repeat (first | refine blk_drewN ?_ _ | refine blk_drew ?_ | refine blk_alloc ?_ _)); exact BK187.out)) : gb196 ≠ gb187)); clear BK187; clear HB; have BK187 := n0_; have HB := n1_; have BK196 := n2_; have GW196 := n3_; have GE196 := n4_; have NB187_196 := n5_; have NB196_187 := n6_; clear n0_ n1_ n2_ n3_ n4_ n5_ n6_; clear hb hbox hg; have hnb60 := NB196_187.out; have hnc60 := NB187_196.out; have hcz61_0 : w59.cell? ⟨gb196, 0, none⟩ = some (.int .i64 0) := (blk_cell BK196.out 0).trans rfl; have hcz61_1 : w59.cell? ⟨gb196, 1, none⟩ = some (.string (⟨#[]⟩ : ByteArray)) := (blk_cell BK196.out 1).trans rfl; have hcz61_2 : w59.cell? ⟨gb196, 2, none⟩ = some (.string (⟨#[]⟩ : ByteArray)) := (blk_cell BK196.out 2).trans rfl; have hfz61_0 := blk_frozen BK196.out 0; have hfz61_1 := blk_frozen BK196.out 1; have hfz61_2 := blk_frozen BK196.out 2))
              go_ret
              exact ⟨by first | rfl | (simp [errW_none, errW_some] <;> rfl) | (simp only [← hji15]; first | rfl | (simp [errW_none, errW_some] <;> rfl)) | (simp [*, errW_none, errW_some] <;> rfl), by repeat (first | (with_reducible first | exact HB.out | apply below_alloc | apply pw_below_drewN | apply below_drew1 | refine below_set ?_ GE187.out | refine below_set ?_ GE196.out) | exact HB.out)⟩
          · replace c16 := Bool.eq_false_iff.mpr c16
            subst c16
            have H1 : ((change_Diff.f kj5 a0 t189).bind fun bt199 => (if (t189.size : Int) = (wrap64 ((a0.size : Int) + (wrap64 ((ji15) * (a2_2.size : Int))))) then (if bt199.2.1.toList = ([] : List UInt8) then (if (bt199.2.2.size : Int) = (wrap64 ((ji15) * (a2_2.size : Int))) then ((line_Normal.f t189 t190).bind fun t203 => (if t203 = true then ((calamuslaw24_lives.f kj5).bind fun t204 => (some t204)) else (some false))) else (some false)) else (some false)) else (some false))) = some r := by rw [if_neg (show ¬ (false = true) by decide)] at H; exact H
            clear H
            have H := H1
            clear H1
            replace H := Option.bind_eq_some_iff.mp H
            obtain ⟨⟨t199, t200, t201⟩, A620, H⟩ := H
            replace H : (if (t189.size : Int) = (wrap64 ((a0.size : Int) + (wrap64 ((ji15) * (a2_2.size : Int))))) then (if t200.toList = ([] : List UInt8) then (if (t201.size : Int) = (wrap64 ((ji15) * (a2_2.size : Int))) then ((line_Normal.f t189 t190).bind fun t203 => (if t203 = true then ((calamuslaw24_lives.f kj5).bind fun t204 => (some t204)) else (some false))) else (some false)) else (some false)) else (some false)) = some r := H
            have A62 := Aside0.mk A620
            clear A620
            by_cases c63 : (t189.size : Int) = (wrap64 ((a0.size : Int) + (wrap64 ((ji15) * (a2_2.size : Int)))))
            · rw [if_pos c63] at H
              have c63b0 : ((t189.size : Int) == (wrap64 ((a0.size : Int) + (wrap64 ((ji15) * (a2_2.size : Int)))))) = true := beq_iff_eq.mpr c63
              have c63b1 : ((t189.size : Int) != (wrap64 ((a0.size : Int) + (wrap64 ((ji15) * (a2_2.size : Int)))))) = false := bne_eq_false_iff_eq.mpr c63
              clear c63
              by_cases c64 : t200.toList = ([] : List UInt8)
              · rw [if_pos c64] at H
                have c64b0 : (t200.toList == ([] : List UInt8)) = true := beq_iff_eq.mpr c64
                have c64b1 : (t200.toList != ([] : List UInt8)) = false := bne_eq_false_iff_eq.mpr c64
                clear c64
                by_cases c65 : (t201.size : Int) = (wrap64 ((ji15) * (a2_2.size : Int)))
                · rw [if_pos c65] at H
                  have c65b0 : ((t201.size : Int) == (wrap64 ((ji15) * (a2_2.size : Int)))) = true := beq_iff_eq.mpr c65
                  have c65b1 : ((t201.size : Int) != (wrap64 ((ji15) * (a2_2.size : Int)))) = false := bne_eq_false_iff_eq.mpr c65
                  clear c65
                  replace H := Option.bind_eq_some_iff.mp H
                  obtain ⟨t203, A660, H⟩ := H
                  replace H : (if t203 = true then ((calamuslaw24_lives.f kj5).bind fun t204 => (some t204)) else (some false)) = some r := H
                  have A66 := Aside0.mk A660
                  clear A660
                  by_cases c67 : t203 = true
                  · subst c67
                    have H1 : ((calamuslaw24_lives.f kj5).bind fun t204 => (some t204)) = some r := by rw [if_pos rfl] at H; exact H
                    clear H
                    have H := H1
                    clear H1
                    replace H := Option.bind_eq_some_iff.mp H
                    obtain ⟨t204, A680, H⟩ := H
                    replace H : (some t204) = some r := H
                    have A68 := Aside0.mk A680
                    clear A680
                    obtain rfl := Option.some.inj H
                    have hcz69_0 : wc.cell? ⟨gb187, 0, none⟩ = some (.int .i64 a2_0) := (blk_cell BK187.out 0).trans rfl
                    have hcz69_1 : wc.cell? ⟨gb187, 1, none⟩ = some (.bool false) := (blk_cell BK187.out 1).trans rfl
                    have hcz69_2 : wc.cell? ⟨gb187, 2, none⟩ = some (.string a2_2) := (blk_cell BK187.out 2).trans rfl
                    have hfz69_0 := blk_frozen BK187.out 0
                    have hfz69_1 := blk_frozen BK187.out 1
                    have hfz69_2 := blk_frozen BK187.out 2
                    go_wp2_with (first | ((with_reducible refine gate_callee (f := 8) rfl ?_); refine goesL_ (some 33) rfl rfl Tryd.func8 (by kernel_rfl) rfl #[.string a0, .int .i64 a1, .agg #[.int .i64 a2_0, .bool false, .string a2_2], .bool a3, .int .i64 a4] rfl (by (try simp only [List.map_toArray, List.map_cons, List.map_nil]); first | done | rfl | (simp only [List.length_drop, List.length_take]; rfl)) ?_; (with_reducible refine (paste_Put.calls kj5 a0 a1 a2_0 false a2_2 a3 a4 t189 t190 t191 _ A13.out).mono ?_); rintro e w70 ⟨rfl, hb⟩; refine ⟨_, rfl, ?_⟩; have n0_ := Aside0.mk (blk_below (g := gb187) (o := .cells #[.int .i64 a2_0, .bool false, .string a2_2] 23 (0, 0)) (by (with_reducible repeat (first | refine blk_drewN ?_ _ | refine blk_drew ?_ | refine blk_alloc ?_ _)); exact BK187.out) hb); have n1_ := Aside0.mk (below_step (by repeat (first | (with_reducible first | exact HB.out | apply below_alloc | apply pw_below_drewN | apply below_drew1 | refine below_set ?_ GE187.out) | exact HB.out)) hb); clear BK187; clear HB; have BK187 := n0_; have HB := n1_; clear n0_ n1_; (try clear hb); (try clear hb2); (try clear hk); (try clear hi); have hcz71_0 : w70.cell? ⟨gb187, 0, none⟩ = some (.int .i64 a2_0) := (blk_cell BK187.out 0).trans rfl; have hcz71_1 : w70.cell? ⟨gb187, 1, none⟩ = some (.bool false) := (blk_cell BK187.out 1).trans rfl; have hcz71_2 : w70.cell? ⟨gb187, 2, none⟩ = some (.string a2_2) := (blk_cell BK187.out 2).trans rfl; have hfz71_0 := blk_frozen BK187.out 0; have hfz71_1 := blk_frozen BK187.out 1; have hfz71_2 := blk_frozen BK187.out 2) | ((with_reducible refine gate_callee (f := 10) rfl ?_); refine goesL_ (some 62) rfl rfl Tryd.func10 (by kernel_rfl) rfl #[.string a0, .string t189] rfl (by (try simp only [List.map_toArray, List.map_cons, List.map_nil]); first | done | rfl | (simp only [List.length_drop, List.length_take]; rfl)) ?_; (with_reducible refine (change_Diff.calls kj5 a0 t189 t199 t200 t201 _ A62.out).mono ?_); rintro e w72 ⟨rfl, hb⟩; refine ⟨_, rfl, ?_⟩; have n0_ := Aside0.mk (blk_below (g := gb187) (o := .cells #[.int .i64 a2_0, .bool false, .string a2_2] 23 (0, 0)) (by (with_reducible repeat (first | refine blk_drewN ?_ _ | refine blk_drew ?_ | refine blk_alloc ?_ _)); exact BK187.out) hb); have n1_ := Aside0.mk (below_step (by repeat (first | (with_reducible first | exact HB.out | apply below_alloc | apply pw_below_drewN | apply below_drew1 | refine below_set ?_ GE187.out) | exact HB.out)) hb); clear BK187; clear HB; have BK187 := n0_; have HB := n1_; clear n0_ n1_; (try clear hb); (try clear hb2); (try clear hk); (try clear hi)) | ((with_reducible refine gate_dst (N := 16) rfl ?_); refine box_event ?hg (N := 16) ?hd (cs := #[.int .i64 0, .string (⟨#[]⟩ : ByteArray), .string (⟨#[]⟩ : ByteArray)]) (t := 32) ?hr ?_; (case hd => rfl); (case hg => rfl); (case hr => first | (go_simp; done) | (go_simp; rfl)); intro gb202 hg w73 hbox hb; have n0_ := Aside0.mk (blk_below (g := gb187) (o := .cells #[.int .i64 a2_0, .bool false, .string a2_2] 23 (0, 0)) (by (with_reducible repeat (first | refine blk_drewN ?_ _ | refine blk_drew ?_ | refine blk_alloc ?_ _)); exact BK187.out) hb); have n1_ := Aside0.mk (below_step (by repeat (first | (with_reducible first | exact HB.out | apply below_alloc | apply pw_below_drewN | apply below_drew1 | refine below_set ?_ GE187.out) | exact HB.out)) hb); have n2_ := Aside0.mk (hbox); have n3_ := Aside0.mk ((by rw [hg]; exact (below_size (by repeat (first | (with_reducible first | exact HB.out | apply below_alloc | apply pw_below_drewN | apply below_drew1 | refine below_set ?_ GE187.out) | exact HB.out))) : w.heap.size ≤ gb202)); have n4_ := Aside0.mk ((by rw [hg]; exact (below_size (by repeat (first | (with_reducible first | exact HB.out | apply below_alloc | apply pw_below_drewN | apply below_drew1 | refine below_set ?_ GE187.out) | exact HB.out))) : w.heap.size ≤ gb202)); have n5_ := Aside0.mk ((by rw [hg]; exact Nat.ne_of_lt (blk_lt (g := gb187) (o := .cells #[.int .i64 a2_0, .bool false, .string a2_2] 23 (0, 0)) (by (with_reducible repeat (first | refine blk_drewN ?_ _ | refine blk_drew ?_ | refine blk_alloc ?_ _)); exact BK187.out)) : gb187 ≠ gb202)); have n6_ := Aside0.mk ((by rw [hg]; exact Nat.ne_of_gt (blk_lt (g := gb187) (o := .cells #[.int .i64 a2_0, .bool false, .string a2_2] 23 (0, 0)) (by (with_reducible repeat (first | refine blk_drewN ?_ _ | refine blk_drew ?_ | refine blk_alloc ?_ _)); exact BK187.out)) : gb202 ≠ gb187)); clear BK187; clear HB; have BK187 := n0_; have HB := n1_; have BK202 := n2_; have GW202 := n3_; have GE202 := n4_; have NB187_202 := n5_; have NB202_187 := n6_; clear n0_ n1_ n2_ n3_ n4_ n5_ n6_; clear hb hbox hg; have hnb74 := NB202_187.out; have hnc74 := NB187_202.out; have hcz75_0 : w73.cell? ⟨gb202, 0, none⟩ = some (.int .i64 0) := (blk_cell BK202.out 0).trans rfl; have hcz75_1 : w73.cell? ⟨gb202, 1, none⟩ = some (.string (⟨#[]⟩ : ByteArray)) := (blk_cell BK202.out 1).trans rfl; have hcz75_2 : w73.cell? ⟨gb202, 2, none⟩ = some (.string (⟨#[]⟩ : ByteArray)) := (blk_cell BK202.out 2).trans rfl; have hfz75_0 := blk_frozen BK202.out 0; have hfz75_1 := blk_frozen BK202.out 1; have hfz75_2 := blk_frozen BK202.out 2) | (go_at_call 11; (with_reducible refine (line_Normal.calls t189 t190 true _ A66.out).mono ?_); rintro e w76 ⟨rfl, hb⟩; have n0_ := Aside0.mk (blk_below (g := gb187) (o := .cells #[.int .i64 a2_0, .bool false, .string a2_2] 23 (0, 0)) (by (with_reducible repeat (first | refine blk_drewN ?_ _ | refine blk_drew ?_ | refine blk_alloc ?_ _)); refine blk_far ?_ NB187_202.out _; (with_reducible repeat (first | refine blk_drewN ?_ _ | refine blk_drew ?_ | refine blk_alloc ?_ _)); refine blk_far ?_ NB187_202.out _; (with_reducible repeat (first | refine blk_drewN ?_ _ | refine blk_drew ?_ | refine blk_alloc ?_ _)); refine blk_far ?_ NB187_202.out _; (with_reducible repeat (first | refine blk_drewN ?_ _ | refine blk_drew ?_ | refine blk_alloc ?_ _)); exact BK187.out) hb); have n1_ := Aside0.mk (blk_below (g := gb202) (o := .cells #[.int .i64 t199, .string t200, .string t201] 32 (0, 0)) (by (with_reducible repeat (first | refine blk_drewN ?_ _ | refine blk_drew ?_ | refine blk_alloc ?_ _)); refine blk_put (cs := #[.int .i64 t199, .string t200, .string (⟨#[]⟩ : ByteArray)]) ?_ 2 _ rfl; (with_reducible repeat (first | refine blk_drewN ?_ _ | refine blk_drew ?_ | refine blk_alloc ?_ _)); refine blk_put (cs := #[.int .i64 t199, .string (⟨#[]⟩ : ByteArray), .string (⟨#[]⟩ : ByteArray)]) ?_ 1 _ rfl; (with_reducible repeat (first | refine blk_drewN ?_ _ | refine blk_drew ?_ | refine blk_alloc ?_ _)); refine blk_put (cs := #[.int .i64 0, .string (⟨#[]⟩ : ByteArray), .string (⟨#[]⟩ : ByteArray)]) ?_ 0 _ rfl; (with_reducible repeat (first | refine blk_drewN ?_ _ | refine blk_drew ?_ | refine blk_alloc ?_ _)); exact BK202.out) hb); have n2_ := Aside0.mk (below_step (by repeat (first | (with_reducible first | exact HB.out | apply below_alloc | apply pw_below_drewN | apply below_drew1 | refine below_set ?_ GE187.out | refine below_set ?_ GE202.out) | exact HB.out)) hb); clear BK187; clear BK202; clear HB; have BK187 := n0_; have BK202 := n1_; have HB := n2_; clear n0_ n1_ n2_; (try clear hb); (try clear hb2); (try clear hk); (try clear hi)) | (go_at_call 7; (with_reducible refine (calamuslaw24_lives.calls kj5  t204 _ A68.out).mono ?_); rintro e w77 ⟨rfl, hb⟩; have n0_ := Aside0.mk (blk_below (g := gb187) (o := .cells #[.int .i64 a2_0, .bool false, .string a2_2] 23 (0, 0)) (by (with_reducible repeat (first | refine blk_drewN ?_ _ | refine blk_drew ?_ | refine blk_alloc ?_ _)); exact BK187.out) hb); have n1_ := Aside0.mk (blk_below (g := gb202) (o := .cells #[.int .i64 t199, .string t200, .string t201] 32 (0, 0)) (by (with_reducible repeat (first | refine blk_drewN ?_ _ | refine blk_drew ?_ | refine blk_alloc ?_ _)); exact BK202.out) hb); have n2_ := Aside0.mk (below_step (by repeat (first | (with_reducible first | exact HB.out | apply below_alloc | apply pw_below_drewN | apply below_drew1 | refine below_set ?_ GE187.out | refine below_set ?_ GE202.out) | exact HB.out)) hb); clear BK187; clear BK202; clear HB; have BK187 := n0_; have BK202 := n1_; have HB := n2_; clear n0_ n1_ n2_; (try clear hb); (try clear hb2); (try clear hk); (try clear hi)))
                    go_ret
                    exact ⟨by first | rfl | (simp [errW_none, errW_some] <;> rfl) | (simp only [← hji15]; first | rfl | (simp [errW_none, errW_some] <;> rfl)) | (simp [*, errW_none, errW_some] <;> rfl), by repeat (first | (with_reducible first | exact HB.out | apply below_alloc | apply pw_below_drewN | apply below_drew1 | refine below_set ?_ GE187.out | refine below_set ?_ GE202.out) | exact HB.out)⟩
                  · replace c67 := Bool.eq_false_iff.mpr c67
                    subst c67
                    have H1 : (some false) = some r := by rw [if_neg (show ¬ (false = true) by decide)] at H; exact H
                    clear H
                    have H := H1
                    clear H1
                    obtain rfl := Option.some.inj H
                    have hcz78_0 : wc.cell? ⟨gb187, 0, none⟩ = some (.int .i64 a2_0) := (blk_cell BK187.out 0).trans rfl
                    have hcz78_1 : wc.cell? ⟨gb187, 1, none⟩ = some (.bool false) := (blk_cell BK187.out 1).trans rfl
                    have hcz78_2 : wc.cell? ⟨gb187, 2, none⟩ = some (.string a2_2) := (blk_cell BK187.out 2).trans rfl
                    have hfz78_0 := blk_frozen BK187.out 0
                    have hfz78_1 := blk_frozen BK187.out 1
                    have hfz78_2 := blk_frozen BK187.out 2
                    go_wp2_with (first | ((with_reducible refine gate_callee (f := 8) rfl ?_); refine goesL_ (some 33) rfl rfl Tryd.func8 (by kernel_rfl) rfl #[.string a0, .int .i64 a1, .agg #[.int .i64 a2_0, .bool false, .string a2_2], .bool a3, .int .i64 a4] rfl (by (try simp only [List.map_toArray, List.map_cons, List.map_nil]); first | done | rfl | (simp only [List.length_drop, List.length_take]; rfl)) ?_; (with_reducible refine (paste_Put.calls kj5 a0 a1 a2_0 false a2_2 a3 a4 t189 t190 t191 _ A13.out).mono ?_); rintro e w79 ⟨rfl, hb⟩; refine ⟨_, rfl, ?_⟩; have n0_ := Aside0.mk (blk_below (g := gb187) (o := .cells #[.int .i64 a2_0, .bool false, .string a2_2] 23 (0, 0)) (by (with_reducible repeat (first | refine blk_drewN ?_ _ | refine blk_drew ?_ | refine blk_alloc ?_ _)); exact BK187.out) hb); have n1_ := Aside0.mk (below_step (by repeat (first | (with_reducible first | exact HB.out | apply below_alloc | apply pw_below_drewN | apply below_drew1 | refine below_set ?_ GE187.out) | exact HB.out)) hb); clear BK187; clear HB; have BK187 := n0_; have HB := n1_; clear n0_ n1_; (try clear hb); (try clear hb2); (try clear hk); (try clear hi); have hcz80_0 : w79.cell? ⟨gb187, 0, none⟩ = some (.int .i64 a2_0) := (blk_cell BK187.out 0).trans rfl; have hcz80_1 : w79.cell? ⟨gb187, 1, none⟩ = some (.bool false) := (blk_cell BK187.out 1).trans rfl; have hcz80_2 : w79.cell? ⟨gb187, 2, none⟩ = some (.string a2_2) := (blk_cell BK187.out 2).trans rfl; have hfz80_0 := blk_frozen BK187.out 0; have hfz80_1 := blk_frozen BK187.out 1; have hfz80_2 := blk_frozen BK187.out 2) | ((with_reducible refine gate_callee (f := 10) rfl ?_); refine goesL_ (some 62) rfl rfl Tryd.func10 (by kernel_rfl) rfl #[.string a0, .string t189] rfl (by (try simp only [List.map_toArray, List.map_cons, List.map_nil]); first | done | rfl | (simp only [List.length_drop, List.length_take]; rfl)) ?_; (with_reducible refine (change_Diff.calls kj5 a0 t189 t199 t200 t201 _ A62.out).mono ?_); rintro e w81 ⟨rfl, hb⟩; refine ⟨_, rfl, ?_⟩; have n0_ := Aside0.mk (blk_below (g := gb187) (o := .cells #[.int .i64 a2_0, .bool false, .string a2_2] 23 (0, 0)) (by (with_reducible repeat (first | refine blk_drewN ?_ _ | refine blk_drew ?_ | refine blk_alloc ?_ _)); exact BK187.out) hb); have n1_ := Aside0.mk (below_step (by repeat (first | (with_reducible first | exact HB.out | apply below_alloc | apply pw_below_drewN | apply below_drew1 | refine below_set ?_ GE187.out) | exact HB.out)) hb); clear BK187; clear HB; have BK187 := n0_; have HB := n1_; clear n0_ n1_; (try clear hb); (try clear hb2); (try clear hk); (try clear hi)) | ((with_reducible refine gate_dst (N := 16) rfl ?_); refine box_event ?hg (N := 16) ?hd (cs := #[.int .i64 0, .string (⟨#[]⟩ : ByteArray), .string (⟨#[]⟩ : ByteArray)]) (t := 32) ?hr ?_; (case hd => rfl); (case hg => rfl); (case hr => first | (go_simp; done) | (go_simp; rfl)); intro gb202 hg w82 hbox hb; have n0_ := Aside0.mk (blk_below (g := gb187) (o := .cells #[.int .i64 a2_0, .bool false, .string a2_2] 23 (0, 0)) (by (with_reducible repeat (first | refine blk_drewN ?_ _ | refine blk_drew ?_ | refine blk_alloc ?_ _)); exact BK187.out) hb); have n1_ := Aside0.mk (below_step (by repeat (first | (with_reducible first | exact HB.out | apply below_alloc | apply pw_below_drewN | apply below_drew1 | refine below_set ?_ GE187.out) | exact HB.out)) hb); have n2_ := Aside0.mk (hbox); have n3_ := Aside0.mk ((by rw [hg]; exact (below_size (by repeat (first | (with_reducible first | exact HB.out | apply below_alloc | apply pw_below_drewN | apply below_drew1 | refine below_set ?_ GE187.out) | exact HB.out))) : w.heap.size ≤ gb202)); have n4_ := Aside0.mk ((by rw [hg]; exact (below_size (by repeat (first | (with_reducible first | exact HB.out | apply below_alloc | apply pw_below_drewN | apply below_drew1 | refine below_set ?_ GE187.out) | exact HB.out))) : w.heap.size ≤ gb202)); have n5_ := Aside0.mk ((by rw [hg]; exact Nat.ne_of_lt (blk_lt (g := gb187) (o := .cells #[.int .i64 a2_0, .bool false, .string a2_2] 23 (0, 0)) (by (with_reducible repeat (first | refine blk_drewN ?_ _ | refine blk_drew ?_ | refine blk_alloc ?_ _)); exact BK187.out)) : gb187 ≠ gb202)); have n6_ := Aside0.mk ((by rw [hg]; exact Nat.ne_of_gt (blk_lt (g := gb187) (o := .cells #[.int .i64 a2_0, .bool false, .string a2_2] 23 (0, 0)) (by (with_reducible repeat (first | refine blk_drewN ?_ _ | refine blk_drew ?_ | refine blk_alloc ?_ _)); exact BK187.out)) : gb202 ≠ gb187)); clear BK187; clear HB; have BK187 := n0_; have HB := n1_; have BK202 := n2_; have GW202 := n3_; have GE202 := n4_; have NB187_202 := n5_; have NB202_187 := n6_; clear n0_ n1_ n2_ n3_ n4_ n5_ n6_; clear hb hbox hg; have hnb83 := NB202_187.out; have hnc83 := NB187_202.out; have hcz84_0 : w82.cell? ⟨gb202, 0, none⟩ = some (.int .i64 0) := (blk_cell BK202.out 0).trans rfl; have hcz84_1 : w82.cell? ⟨gb202, 1, none⟩ = some (.string (⟨#[]⟩ : ByteArray)) := (blk_cell BK202.out 1).trans rfl; have hcz84_2 : w82.cell? ⟨gb202, 2, none⟩ = some (.string (⟨#[]⟩ : ByteArray)) := (blk_cell BK202.out 2).trans rfl; have hfz84_0 := blk_frozen BK202.out 0; have hfz84_1 := blk_frozen BK202.out 1; have hfz84_2 := blk_frozen BK202.out 2) | (go_at_call 11; (with_reducible refine (line_Normal.calls t189 t190 false _ A66.out).mono ?_); rintro e w85 ⟨rfl, hb⟩; have n0_ := Aside0.mk (blk_below (g := gb187) (o := .cells #[.int .i64 a2_0, .bool false, .string a2_2] 23 (0, 0)) (by (with_reducible repeat (first | refine blk_drewN ?_ _ | refine blk_drew ?_ | refine blk_alloc ?_ _)); refine blk_far ?_ NB187_202.out _; (with_reducible repeat (first | refine blk_drewN ?_ _ | refine blk_drew ?_ | refine blk_alloc ?_ _)); refine blk_far ?_ NB187_202.out _; (with_reducible repeat (first | refine blk_drewN ?_ _ | refine blk_drew ?_ | refine blk_alloc ?_ _)); refine blk_far ?_ NB187_202.out _; (with_reducible repeat (first | refine blk_drewN ?_ _ | refine blk_drew ?_ | refine blk_alloc ?_ _)); exact BK187.out) hb); have n1_ := Aside0.mk (blk_below (g := gb202) (o := .cells #[.int .i64 t199, .string t200, .string t201] 32 (0, 0)) (by (with_reducible repeat (first | refine blk_drewN ?_ _ | refine blk_drew ?_ | refine blk_alloc ?_ _)); refine blk_put (cs := #[.int .i64 t199, .string t200, .string (⟨#[]⟩ : ByteArray)]) ?_ 2 _ rfl; (with_reducible repeat (first | refine blk_drewN ?_ _ | refine blk_drew ?_ | refine blk_alloc ?_ _)); refine blk_put (cs := #[.int .i64 t199, .string (⟨#[]⟩ : ByteArray), .string (⟨#[]⟩ : ByteArray)]) ?_ 1 _ rfl; (with_reducible repeat (first | refine blk_drewN ?_ _ | refine blk_drew ?_ | refine blk_alloc ?_ _)); refine blk_put (cs := #[.int .i64 0, .string (⟨#[]⟩ : ByteArray), .string (⟨#[]⟩ : ByteArray)]) ?_ 0 _ rfl; (with_reducible repeat (first | refine blk_drewN ?_ _ | refine blk_drew ?_ | refine blk_alloc ?_ _)); exact BK202.out) hb); have n2_ := Aside0.mk (below_step (by repeat (first | (with_reducible first | exact HB.out | apply below_alloc | apply pw_below_drewN | apply below_drew1 | refine below_set ?_ GE187.out | refine below_set ?_ GE202.out) | exact HB.out)) hb); clear BK187; clear BK202; clear HB; have BK187 := n0_; have BK202 := n1_; have HB := n2_; clear n0_ n1_ n2_; (try clear hb); (try clear hb2); (try clear hk); (try clear hi)))
                    go_ret
                    exact ⟨by first | rfl | (simp [errW_none, errW_some] <;> rfl) | (simp only [← hji15]; first | rfl | (simp [errW_none, errW_some] <;> rfl)) | (simp [*, errW_none, errW_some] <;> rfl), by repeat (first | (with_reducible first | exact HB.out | apply below_alloc | apply pw_below_drewN | apply below_drew1 | refine below_set ?_ GE187.out | refine below_set ?_ GE202.out) | exact HB.out)⟩
                · rw [if_neg c65] at H
                  have c65b0 : ((t201.size : Int) == (wrap64 ((ji15) * (a2_2.size : Int)))) = false := beq_eq_false_iff_ne.mpr c65
                  have c65b1 : ((t201.size : Int) != (wrap64 ((ji15) * (a2_2.size : Int)))) = true := bne_iff_ne.mpr c65
                  obtain rfl := Option.some.inj H
                  have hcz86_0 : wc.cell? ⟨gb187, 0, none⟩ = some (.int .i64 a2_0) := (blk_cell BK187.out 0).trans rfl
                  have hcz86_1 : wc.cell? ⟨gb187, 1, none⟩ = some (.bool false) := (blk_cell BK187.out 1).trans rfl
                  have hcz86_2 : wc.cell? ⟨gb187, 2, none⟩ = some (.string a2_2) := (blk_cell BK187.out 2).trans rfl
                  have hfz86_0 := blk_frozen BK187.out 0
                  have hfz86_1 := blk_frozen BK187.out 1
                  have hfz86_2 := blk_frozen BK187.out 2
                  go_wp2_with (first | ((with_reducible refine gate_callee (f := 8) rfl ?_); refine goesL_ (some 33) rfl rfl Tryd.func8 (by kernel_rfl) rfl #[.string a0, .int .i64 a1, .agg #[.int .i64 a2_0, .bool false, .string a2_2], .bool a3, .int .i64 a4] rfl (by (try simp only [List.map_toArray, List.map_cons, List.map_nil]); first | done | rfl | (simp only [List.length_drop, List.length_take]; rfl)) ?_; (with_reducible refine (paste_Put.calls kj5 a0 a1 a2_0 false a2_2 a3 a4 t189 t190 t191 _ A13.out).mono ?_); rintro e w87 ⟨rfl, hb⟩; refine ⟨_, rfl, ?_⟩; have n0_ := Aside0.mk (blk_below (g := gb187) (o := .cells #[.int .i64 a2_0, .bool false, .string a2_2] 23 (0, 0)) (by (with_reducible repeat (first | refine blk_drewN ?_ _ | refine blk_drew ?_ | refine blk_alloc ?_ _)); exact BK187.out) hb); have n1_ := Aside0.mk (below_step (by repeat (first | (with_reducible first | exact HB.out | apply below_alloc | apply pw_below_drewN | apply below_drew1 | refine below_set ?_ GE187.out) | exact HB.out)) hb); clear BK187; clear HB; have BK187 := n0_; have HB := n1_; clear n0_ n1_; (try clear hb); (try clear hb2); (try clear hk); (try clear hi); have hcz88_0 : w87.cell? ⟨gb187, 0, none⟩ = some (.int .i64 a2_0) := (blk_cell BK187.out 0).trans rfl; have hcz88_1 : w87.cell? ⟨gb187, 1, none⟩ = some (.bool false) := (blk_cell BK187.out 1).trans rfl; have hcz88_2 : w87.cell? ⟨gb187, 2, none⟩ = some (.string a2_2) := (blk_cell BK187.out 2).trans rfl; have hfz88_0 := blk_frozen BK187.out 0; have hfz88_1 := blk_frozen BK187.out 1; have hfz88_2 := blk_frozen BK187.out 2) | ((with_reducible refine gate_callee (f := 10) rfl ?_); refine goesL_ (some 62) rfl rfl Tryd.func10 (by kernel_rfl) rfl #[.string a0, .string t189] rfl (by (try simp only [List.map_toArray, List.map_cons, List.map_nil]); first | done | rfl | (simp only [List.length_drop, List.length_take]; rfl)) ?_; (with_reducible refine (change_Diff.calls kj5 a0 t189 t199 t200 t201 _ A62.out).mono ?_); rintro e w89 ⟨rfl, hb⟩; refine ⟨_, rfl, ?_⟩; have n0_ := Aside0.mk (blk_below (g := gb187) (o := .cells #[.int .i64 a2_0, .bool false, .string a2_2] 23 (0, 0)) (by (with_reducible repeat (first | refine blk_drewN ?_ _ | refine blk_drew ?_ | refine blk_alloc ?_ _)); exact BK187.out) hb); have n1_ := Aside0.mk (below_step (by repeat (first | (with_reducible first | exact HB.out | apply below_alloc | apply pw_below_drewN | apply below_drew1 | refine below_set ?_ GE187.out) | exact HB.out)) hb); clear BK187; clear HB; have BK187 := n0_; have HB := n1_; clear n0_ n1_; (try clear hb); (try clear hb2); (try clear hk); (try clear hi)) | ((with_reducible refine gate_dst (N := 16) rfl ?_); refine box_event ?hg (N := 16) ?hd (cs := #[.int .i64 0, .string (⟨#[]⟩ : ByteArray), .string (⟨#[]⟩ : ByteArray)]) (t := 32) ?hr ?_; (case hd => rfl); (case hg => rfl); (case hr => first | (go_simp; done) | (go_simp; rfl)); intro gb202 hg w90 hbox hb; have n0_ := Aside0.mk (blk_below (g := gb187) (o := .cells #[.int .i64 a2_0, .bool false, .string a2_2] 23 (0, 0)) (by (with_reducible repeat (first | refine blk_drewN ?_ _ | refine blk_drew ?_ | refine blk_alloc ?_ _)); exact BK187.out) hb); have n1_ := Aside0.mk (below_step (by repeat (first | (with_reducible first | exact HB.out | apply below_alloc | apply pw_below_drewN | apply below_drew1 | refine below_set ?_ GE187.out) | exact HB.out)) hb); have n2_ := Aside0.mk (hbox); have n3_ := Aside0.mk ((by rw [hg]; exact (below_size (by repeat (first | (with_reducible first | exact HB.out | apply below_alloc | apply pw_below_drewN | apply below_drew1 | refine below_set ?_ GE187.out) | exact HB.out))) : w.heap.size ≤ gb202)); have n4_ := Aside0.mk ((by rw [hg]; exact (below_size (by repeat (first | (with_reducible first | exact HB.out | apply below_alloc | apply pw_below_drewN | apply below_drew1 | refine below_set ?_ GE187.out) | exact HB.out))) : w.heap.size ≤ gb202)); have n5_ := Aside0.mk ((by rw [hg]; exact Nat.ne_of_lt (blk_lt (g := gb187) (o := .cells #[.int .i64 a2_0, .bool false, .string a2_2] 23 (0, 0)) (by (with_reducible repeat (first | refine blk_drewN ?_ _ | refine blk_drew ?_ | refine blk_alloc ?_ _)); exact BK187.out)) : gb187 ≠ gb202)); have n6_ := Aside0.mk ((by rw [hg]; exact Nat.ne_of_gt (blk_lt (g := gb187) (o := .cells #[.int .i64 a2_0, .bool false, .string a2_2] 23 (0, 0)) (by (with_reducible repeat (first | refine blk_drewN ?_ _ | refine blk_drew ?_ | refine blk_alloc ?_ _)); exact BK187.out)) : gb202 ≠ gb187)); clear BK187; clear HB; have BK187 := n0_; have HB := n1_; have BK202 := n2_; have GW202 := n3_; have GE202 := n4_; have NB187_202 := n5_; have NB202_187 := n6_; clear n0_ n1_ n2_ n3_ n4_ n5_ n6_; clear hb hbox hg; have hnb91 := NB202_187.out; have hnc91 := NB187_202.out; have hcz92_0 : w90.cell? ⟨gb202, 0, none⟩ = some (.int .i64 0) := (blk_cell BK202.out 0).trans rfl; have hcz92_1 : w90.cell? ⟨gb202, 1, none⟩ = some (.string (⟨#[]⟩ : ByteArray)) := (blk_cell BK202.out 1).trans rfl; have hcz92_2 : w90.cell? ⟨gb202, 2, none⟩ = some (.string (⟨#[]⟩ : ByteArray)) := (blk_cell BK202.out 2).trans rfl; have hfz92_0 := blk_frozen BK202.out 0; have hfz92_1 := blk_frozen BK202.out 1; have hfz92_2 := blk_frozen BK202.out 2))
                  go_ret
                  exact ⟨by first | rfl | (simp [errW_none, errW_some] <;> rfl) | (simp only [← hji15]; first | rfl | (simp [errW_none, errW_some] <;> rfl)) | (simp [*, errW_none, errW_some] <;> rfl), by repeat (first | (with_reducible first | exact HB.out | apply below_alloc | apply pw_below_drewN | apply below_drew1 | refine below_set ?_ GE187.out | refine below_set ?_ GE202.out) | exact HB.out)⟩
              · rw [if_neg c64] at H
                have c64b0 : (t200.toList == ([] : List UInt8)) = false := beq_eq_false_iff_ne.mpr c64
                have c64b1 : (t200.toList != ([] : List UInt8)) = true := bne_iff_ne.mpr c64
                obtain rfl := Option.some.inj H
                have hcz93_0 : wc.cell? ⟨gb187, 0, none⟩ = some (.int .i64 a2_0) := (blk_cell BK187.out 0).trans rfl
                have hcz93_1 : wc.cell? ⟨gb187, 1, none⟩ = some (.bool false) := (blk_cell BK187.out 1).trans rfl
                have hcz93_2 : wc.cell? ⟨gb187, 2, none⟩ = some (.string a2_2) := (blk_cell BK187.out 2).trans rfl
                have hfz93_0 := blk_frozen BK187.out 0
                have hfz93_1 := blk_frozen BK187.out 1
                have hfz93_2 := blk_frozen BK187.out 2
                go_wp2_with (first | ((with_reducible refine gate_callee (f := 8) rfl ?_); refine goesL_ (some 33) rfl rfl Tryd.func8 (by kernel_rfl) rfl #[.string a0, .int .i64 a1, .agg #[.int .i64 a2_0, .bool false, .string a2_2], .bool a3, .int .i64 a4] rfl (by (try simp only [List.map_toArray, List.map_cons, List.map_nil]); first | done | rfl | (simp only [List.length_drop, List.length_take]; rfl)) ?_; (with_reducible refine (paste_Put.calls kj5 a0 a1 a2_0 false a2_2 a3 a4 t189 t190 t191 _ A13.out).mono ?_); rintro e w94 ⟨rfl, hb⟩; refine ⟨_, rfl, ?_⟩; have n0_ := Aside0.mk (blk_below (g := gb187) (o := .cells #[.int .i64 a2_0, .bool false, .string a2_2] 23 (0, 0)) (by (with_reducible repeat (first | refine blk_drewN ?_ _ | refine blk_drew ?_ | refine blk_alloc ?_ _)); exact BK187.out) hb); have n1_ := Aside0.mk (below_step (by repeat (first | (with_reducible first | exact HB.out | apply below_alloc | apply pw_below_drewN | apply below_drew1 | refine below_set ?_ GE187.out) | exact HB.out)) hb); clear BK187; clear HB; have BK187 := n0_; have HB := n1_; clear n0_ n1_; (try clear hb); (try clear hb2); (try clear hk); (try clear hi); have hcz95_0 : w94.cell? ⟨gb187, 0, none⟩ = some (.int .i64 a2_0) := (blk_cell BK187.out 0).trans rfl; have hcz95_1 : w94.cell? ⟨gb187, 1, none⟩ = some (.bool false) := (blk_cell BK187.out 1).trans rfl; have hcz95_2 : w94.cell? ⟨gb187, 2, none⟩ = some (.string a2_2) := (blk_cell BK187.out 2).trans rfl; have hfz95_0 := blk_frozen BK187.out 0; have hfz95_1 := blk_frozen BK187.out 1; have hfz95_2 := blk_frozen BK187.out 2) | ((with_reducible refine gate_callee (f := 10) rfl ?_); refine goesL_ (some 62) rfl rfl Tryd.func10 (by kernel_rfl) rfl #[.string a0, .string t189] rfl (by (try simp only [List.map_toArray, List.map_cons, List.map_nil]); first | done | rfl | (simp only [List.length_drop, List.length_take]; rfl)) ?_; (with_reducible refine (change_Diff.calls kj5 a0 t189 t199 t200 t201 _ A62.out).mono ?_); rintro e w96 ⟨rfl, hb⟩; refine ⟨_, rfl, ?_⟩; have n0_ := Aside0.mk (blk_below (g := gb187) (o := .cells #[.int .i64 a2_0, .bool false, .string a2_2] 23 (0, 0)) (by (with_reducible repeat (first | refine blk_drewN ?_ _ | refine blk_drew ?_ | refine blk_alloc ?_ _)); exact BK187.out) hb); have n1_ := Aside0.mk (below_step (by repeat (first | (with_reducible first | exact HB.out | apply below_alloc | apply pw_below_drewN | apply below_drew1 | refine below_set ?_ GE187.out) | exact HB.out)) hb); clear BK187; clear HB; have BK187 := n0_; have HB := n1_; clear n0_ n1_; (try clear hb); (try clear hb2); (try clear hk); (try clear hi)) | ((with_reducible refine gate_dst (N := 16) rfl ?_); refine box_event ?hg (N := 16) ?hd (cs := #[.int .i64 0, .string (⟨#[]⟩ : ByteArray), .string (⟨#[]⟩ : ByteArray)]) (t := 32) ?hr ?_; (case hd => rfl); (case hg => rfl); (case hr => first | (go_simp; done) | (go_simp; rfl)); intro gb202 hg w97 hbox hb; have n0_ := Aside0.mk (blk_below (g := gb187) (o := .cells #[.int .i64 a2_0, .bool false, .string a2_2] 23 (0, 0)) (by (with_reducible repeat (first | refine blk_drewN ?_ _ | refine blk_drew ?_ | refine blk_alloc ?_ _)); exact BK187.out) hb); have n1_ := Aside0.mk (below_step (by repeat (first | (with_reducible first | exact HB.out | apply below_alloc | apply pw_below_drewN | apply below_drew1 | refine below_set ?_ GE187.out) | exact HB.out)) hb); have n2_ := Aside0.mk (hbox); have n3_ := Aside0.mk ((by rw [hg]; exact (below_size (by repeat (first | (with_reducible first | exact HB.out | apply below_alloc | apply pw_below_drewN | apply below_drew1 | refine below_set ?_ GE187.out) | exact HB.out))) : w.heap.size ≤ gb202)); have n4_ := Aside0.mk ((by rw [hg]; exact (below_size (by repeat (first | (with_reducible first | exact HB.out | apply below_alloc | apply pw_below_drewN | apply below_drew1 | refine below_set ?_ GE187.out) | exact HB.out))) : w.heap.size ≤ gb202)); have n5_ := Aside0.mk ((by rw [hg]; exact Nat.ne_of_lt (blk_lt (g := gb187) (o := .cells #[.int .i64 a2_0, .bool false, .string a2_2] 23 (0, 0)) (by (with_reducible repeat (first | refine blk_drewN ?_ _ | refine blk_drew ?_ | refine blk_alloc ?_ _)); exact BK187.out)) : gb187 ≠ gb202)); have n6_ := Aside0.mk ((by rw [hg]; exact Nat.ne_of_gt (blk_lt (g := gb187) (o := .cells #[.int .i64 a2_0, .bool false, .string a2_2] 23 (0, 0)) (by (with_reducible repeat (first | refine blk_drewN ?_ _ | refine blk_drew ?_ | refine blk_alloc ?_ _)); exact BK187.out)) : gb202 ≠ gb187)); clear BK187; clear HB; have BK187 := n0_; have HB := n1_; have BK202 := n2_; have GW202 := n3_; have GE202 := n4_; have NB187_202 := n5_; have NB202_187 := n6_; clear n0_ n1_ n2_ n3_ n4_ n5_ n6_; clear hb hbox hg; have hnb98 := NB202_187.out; have hnc98 := NB187_202.out; have hcz99_0 : w97.cell? ⟨gb202, 0, none⟩ = some (.int .i64 0) := (blk_cell BK202.out 0).trans rfl; have hcz99_1 : w97.cell? ⟨gb202, 1, none⟩ = some (.string (⟨#[]⟩ : ByteArray)) := (blk_cell BK202.out 1).trans rfl; have hcz99_2 : w97.cell? ⟨gb202, 2, none⟩ = some (.string (⟨#[]⟩ : ByteArray)) := (blk_cell BK202.out 2).trans rfl; have hfz99_0 := blk_frozen BK202.out 0; have hfz99_1 := blk_frozen BK202.out 1; have hfz99_2 := blk_frozen BK202.out 2))
                go_ret
                exact ⟨by first | rfl | (simp [errW_none, errW_some] <;> rfl) | (simp only [← hji15]; first | rfl | (simp [errW_none, errW_some] <;> rfl)) | (simp [*, errW_none, errW_some] <;> rfl), by repeat (first | (with_reducible first | exact HB.out | apply below_alloc | apply pw_below_drewN | apply below_drew1 | refine below_set ?_ GE187.out | refine below_set ?_ GE202.out) | exact HB.out)⟩
            · rw [if_neg c63] at H
              have c63b0 : ((t189.size : Int) == (wrap64 ((a0.size : Int) + (wrap64 ((ji15) * (a2_2.size : Int)))))) = false := beq_eq_false_iff_ne.mpr c63
              have c63b1 : ((t189.size : Int) != (wrap64 ((a0.size : Int) + (wrap64 ((ji15) * (a2_2.size : Int)))))) = true := bne_iff_ne.mpr c63
              obtain rfl := Option.some.inj H
              have hcz100_0 : wc.cell? ⟨gb187, 0, none⟩ = some (.int .i64 a2_0) := (blk_cell BK187.out 0).trans rfl
              have hcz100_1 : wc.cell? ⟨gb187, 1, none⟩ = some (.bool false) := (blk_cell BK187.out 1).trans rfl
              have hcz100_2 : wc.cell? ⟨gb187, 2, none⟩ = some (.string a2_2) := (blk_cell BK187.out 2).trans rfl
              have hfz100_0 := blk_frozen BK187.out 0
              have hfz100_1 := blk_frozen BK187.out 1
              have hfz100_2 := blk_frozen BK187.out 2
              go_wp2_with (first | ((with_reducible refine gate_callee (f := 8) rfl ?_); refine goesL_ (some 33) rfl rfl Tryd.func8 (by kernel_rfl) rfl #[.string a0, .int .i64 a1, .agg #[.int .i64 a2_0, .bool false, .string a2_2], .bool a3, .int .i64 a4] rfl (by (try simp only [List.map_toArray, List.map_cons, List.map_nil]); first | done | rfl | (simp only [List.length_drop, List.length_take]; rfl)) ?_; (with_reducible refine (paste_Put.calls kj5 a0 a1 a2_0 false a2_2 a3 a4 t189 t190 t191 _ A13.out).mono ?_); rintro e w101 ⟨rfl, hb⟩; refine ⟨_, rfl, ?_⟩; have n0_ := Aside0.mk (blk_below (g := gb187) (o := .cells #[.int .i64 a2_0, .bool false, .string a2_2] 23 (0, 0)) (by (with_reducible repeat (first | refine blk_drewN ?_ _ | refine blk_drew ?_ | refine blk_alloc ?_ _)); exact BK187.out) hb); have n1_ := Aside0.mk (below_step (by repeat (first | (with_reducible first | exact HB.out | apply below_alloc | apply pw_below_drewN | apply below_drew1 | refine below_set ?_ GE187.out) | exact HB.out)) hb); clear BK187; clear HB; have BK187 := n0_; have HB := n1_; clear n0_ n1_; (try clear hb); (try clear hb2); (try clear hk); (try clear hi); have hcz102_0 : w101.cell? ⟨gb187, 0, none⟩ = some (.int .i64 a2_0) := (blk_cell BK187.out 0).trans rfl; have hcz102_1 : w101.cell? ⟨gb187, 1, none⟩ = some (.bool false) := (blk_cell BK187.out 1).trans rfl; have hcz102_2 : w101.cell? ⟨gb187, 2, none⟩ = some (.string a2_2) := (blk_cell BK187.out 2).trans rfl; have hfz102_0 := blk_frozen BK187.out 0; have hfz102_1 := blk_frozen BK187.out 1; have hfz102_2 := blk_frozen BK187.out 2) | ((with_reducible refine gate_callee (f := 10) rfl ?_); refine goesL_ (some 62) rfl rfl Tryd.func10 (by kernel_rfl) rfl #[.string a0, .string t189] rfl (by (try simp only [List.map_toArray, List.map_cons, List.map_nil]); first | done | rfl | (simp only [List.length_drop, List.length_take]; rfl)) ?_; (with_reducible refine (change_Diff.calls kj5 a0 t189 t199 t200 t201 _ A62.out).mono ?_); rintro e w103 ⟨rfl, hb⟩; refine ⟨_, rfl, ?_⟩; have n0_ := Aside0.mk (blk_below (g := gb187) (o := .cells #[.int .i64 a2_0, .bool false, .string a2_2] 23 (0, 0)) (by (with_reducible repeat (first | refine blk_drewN ?_ _ | refine blk_drew ?_ | refine blk_alloc ?_ _)); exact BK187.out) hb); have n1_ := Aside0.mk (below_step (by repeat (first | (with_reducible first | exact HB.out | apply below_alloc | apply pw_below_drewN | apply below_drew1 | refine below_set ?_ GE187.out) | exact HB.out)) hb); clear BK187; clear HB; have BK187 := n0_; have HB := n1_; clear n0_ n1_; (try clear hb); (try clear hb2); (try clear hk); (try clear hi)) | ((with_reducible refine gate_dst (N := 16) rfl ?_); refine box_event ?hg (N := 16) ?hd (cs := #[.int .i64 0, .string (⟨#[]⟩ : ByteArray), .string (⟨#[]⟩ : ByteArray)]) (t := 32) ?hr ?_; (case hd => rfl); (case hg => rfl); (case hr => first | (go_simp; done) | (go_simp; rfl)); intro gb202 hg w104 hbox hb; have n0_ := Aside0.mk (blk_below (g := gb187) (o := .cells #[.int .i64 a2_0, .bool false, .string a2_2] 23 (0, 0)) (by (with_reducible repeat (first | refine blk_drewN ?_ _ | refine blk_drew ?_ | refine blk_alloc ?_ _)); exact BK187.out) hb); have n1_ := Aside0.mk (below_step (by repeat (first | (with_reducible first | exact HB.out | apply below_alloc | apply pw_below_drewN | apply below_drew1 | refine below_set ?_ GE187.out) | exact HB.out)) hb); have n2_ := Aside0.mk (hbox); have n3_ := Aside0.mk ((by rw [hg]; exact (below_size (by repeat (first | (with_reducible first | exact HB.out | apply below_alloc | apply pw_below_drewN | apply below_drew1 | refine below_set ?_ GE187.out) | exact HB.out))) : w.heap.size ≤ gb202)); have n4_ := Aside0.mk ((by rw [hg]; exact (below_size (by repeat (first | (with_reducible first | exact HB.out | apply below_alloc | apply pw_below_drewN | apply below_drew1 | refine below_set ?_ GE187.out) | exact HB.out))) : w.heap.size ≤ gb202)); have n5_ := Aside0.mk ((by rw [hg]; exact Nat.ne_of_lt (blk_lt (g := gb187) (o := .cells #[.int .i64 a2_0, .bool false, .string a2_2] 23 (0, 0)) (by (with_reducible repeat (first | refine blk_drewN ?_ _ | refine blk_drew ?_ | refine blk_alloc ?_ _)); exact BK187.out)) : gb187 ≠ gb202)); have n6_ := Aside0.mk ((by rw [hg]; exact Nat.ne_of_gt (blk_lt (g := gb187) (o := .cells #[.int .i64 a2_0, .bool false, .string a2_2] 23 (0, 0)) (by (with_reducible repeat (first | refine blk_drewN ?_ _ | refine blk_drew ?_ | refine blk_alloc ?_ _)); exact BK187.out)) : gb202 ≠ gb187)); clear BK187; clear HB; have BK187 := n0_; have HB := n1_; have BK202 := n2_; have GW202 := n3_; have GE202 := n4_; have NB187_202 := n5_; have NB202_187 := n6_; clear n0_ n1_ n2_ n3_ n4_ n5_ n6_; clear hb hbox hg; have hnb105 := NB202_187.out; have hnc105 := NB187_202.out; have hcz106_0 : w104.cell? ⟨gb202, 0, none⟩ = some (.int .i64 0) := (blk_cell BK202.out 0).trans rfl; have hcz106_1 : w104.cell? ⟨gb202, 1, none⟩ = some (.string (⟨#[]⟩ : ByteArray)) := (blk_cell BK202.out 1).trans rfl; have hcz106_2 : w104.cell? ⟨gb202, 2, none⟩ = some (.string (⟨#[]⟩ : ByteArray)) := (blk_cell BK202.out 2).trans rfl; have hfz106_0 := blk_frozen BK202.out 0; have hfz106_1 := blk_frozen BK202.out 1; have hfz106_2 := blk_frozen BK202.out 2))
              go_ret
              exact ⟨by first | rfl | (simp [errW_none, errW_some] <;> rfl) | (simp only [← hji15]; first | rfl | (simp [errW_none, errW_some] <;> rfl)) | (simp [*, errW_none, errW_some] <;> rfl), by repeat (first | (with_reducible first | exact HB.out | apply below_alloc | apply pw_below_drewN | apply below_drew1 | refine below_set ?_ GE187.out | refine below_set ?_ GE202.out) | exact HB.out)⟩
        · rw [if_neg c14] at H
          have c14b0 : (t191 == 0) = false := beq_eq_false_iff_ne.mpr c14
          have c14b1 : (t191 != 0) = true := bne_iff_ne.mpr c14
          by_cases c107 : t189.toList = ([] : List UInt8)
          · rw [if_pos c107] at H
            have c107b0 : (t189.toList == ([] : List UInt8)) = true := beq_iff_eq.mpr c107
            have c107b1 : (t189.toList != ([] : List UInt8)) = false := bne_eq_false_iff_eq.mpr c107
            clear c107
            by_cases c108 : t190 = 0
            · rw [if_pos c108] at H
              have c108b0 : (t190 == 0) = true := beq_iff_eq.mpr c108
              have c108b1 : (t190 != 0) = false := bne_eq_false_iff_eq.mpr c108
              clear c108
              replace H := Option.bind_eq_some_iff.mp H
              obtain ⟨t192, A1090, H⟩ := H
              replace H : (some t192) = some r := H
              have A109 := Aside0.mk A1090
              clear A1090
              obtain rfl := Option.some.inj H
              have hcz110_0 : wc.cell? ⟨gb187, 0, none⟩ = some (.int .i64 a2_0) := (blk_cell BK187.out 0).trans rfl
              have hcz110_1 : wc.cell? ⟨gb187, 1, none⟩ = some (.bool a2_1) := (blk_cell BK187.out 1).trans rfl
              have hcz110_2 : wc.cell? ⟨gb187, 2, none⟩ = some (.string a2_2) := (blk_cell BK187.out 2).trans rfl
              have hfz110_0 := blk_frozen BK187.out 0
              have hfz110_1 := blk_frozen BK187.out 1
              have hfz110_2 := blk_frozen BK187.out 2
              go_wp2_with (first | ((with_reducible refine gate_callee (f := 8) rfl ?_); refine goesL_ (some 33) rfl rfl Tryd.func8 (by kernel_rfl) rfl #[.string a0, .int .i64 a1, .agg #[.int .i64 a2_0, .bool a2_1, .string a2_2], .bool a3, .int .i64 a4] rfl (by (try simp only [List.map_toArray, List.map_cons, List.map_nil]); first | done | rfl | (simp only [List.length_drop, List.length_take]; rfl)) ?_; (with_reducible refine (paste_Put.calls kj5 a0 a1 a2_0 a2_1 a2_2 a3 a4 t189 t190 t191 _ A13.out).mono ?_); rintro e w111 ⟨rfl, hb⟩; refine ⟨_, rfl, ?_⟩; have n0_ := Aside0.mk (blk_below (g := gb187) (o := .cells #[.int .i64 a2_0, .bool a2_1, .string a2_2] 23 (0, 0)) (by (with_reducible repeat (first | refine blk_drewN ?_ _ | refine blk_drew ?_ | refine blk_alloc ?_ _)); exact BK187.out) hb); have n1_ := Aside0.mk (below_step (by repeat (first | (with_reducible first | exact HB.out | apply below_alloc | apply pw_below_drewN | apply below_drew1 | refine below_set ?_ GE187.out) | exact HB.out)) hb); clear BK187; clear HB; have BK187 := n0_; have HB := n1_; clear n0_ n1_; (try clear hb); (try clear hb2); (try clear hk); (try clear hi)) | (go_at_call 7; (with_reducible refine (calamuslaw24_lives.calls kj5  t192 _ A109.out).mono ?_); rintro e w112 ⟨rfl, hb⟩; have n0_ := Aside0.mk (blk_below (g := gb187) (o := .cells #[.int .i64 a2_0, .bool a2_1, .string a2_2] 23 (0, 0)) (by (with_reducible repeat (first | refine blk_drewN ?_ _ | refine blk_drew ?_ | refine blk_alloc ?_ _)); exact BK187.out) hb); have n1_ := Aside0.mk (below_step (by repeat (first | (with_reducible first | exact HB.out | apply below_alloc | apply pw_below_drewN | apply below_drew1 | refine below_set ?_ GE187.out) | exact HB.out)) hb); clear BK187; clear HB; have BK187 := n0_; have HB := n1_; clear n0_ n1_; (try clear hb); (try clear hb2); (try clear hk); (try clear hi)))
              go_ret
              exact ⟨by first | rfl | (simp [errW_none, errW_some] <;> rfl) | (simp [*, errW_none, errW_some] <;> rfl), by repeat (first | (with_reducible first | exact HB.out | apply below_alloc | apply pw_below_drewN | apply below_drew1 | refine below_set ?_ GE187.out) | exact HB.out)⟩
            · rw [if_neg c108] at H
              have c108b0 : (t190 == 0) = false := beq_eq_false_iff_ne.mpr c108
              have c108b1 : (t190 != 0) = true := bne_iff_ne.mpr c108
              obtain rfl := Option.some.inj H
              have hcz113_0 : wc.cell? ⟨gb187, 0, none⟩ = some (.int .i64 a2_0) := (blk_cell BK187.out 0).trans rfl
              have hcz113_1 : wc.cell? ⟨gb187, 1, none⟩ = some (.bool a2_1) := (blk_cell BK187.out 1).trans rfl
              have hcz113_2 : wc.cell? ⟨gb187, 2, none⟩ = some (.string a2_2) := (blk_cell BK187.out 2).trans rfl
              have hfz113_0 := blk_frozen BK187.out 0
              have hfz113_1 := blk_frozen BK187.out 1
              have hfz113_2 := blk_frozen BK187.out 2
              go_wp2_with (first | ((with_reducible refine gate_callee (f := 8) rfl ?_); refine goesL_ (some 33) rfl rfl Tryd.func8 (by kernel_rfl) rfl #[.string a0, .int .i64 a1, .agg #[.int .i64 a2_0, .bool a2_1, .string a2_2], .bool a3, .int .i64 a4] rfl (by (try simp only [List.map_toArray, List.map_cons, List.map_nil]); first | done | rfl | (simp only [List.length_drop, List.length_take]; rfl)) ?_; (with_reducible refine (paste_Put.calls kj5 a0 a1 a2_0 a2_1 a2_2 a3 a4 t189 t190 t191 _ A13.out).mono ?_); rintro e w114 ⟨rfl, hb⟩; refine ⟨_, rfl, ?_⟩; have n0_ := Aside0.mk (blk_below (g := gb187) (o := .cells #[.int .i64 a2_0, .bool a2_1, .string a2_2] 23 (0, 0)) (by (with_reducible repeat (first | refine blk_drewN ?_ _ | refine blk_drew ?_ | refine blk_alloc ?_ _)); exact BK187.out) hb); have n1_ := Aside0.mk (below_step (by repeat (first | (with_reducible first | exact HB.out | apply below_alloc | apply pw_below_drewN | apply below_drew1 | refine below_set ?_ GE187.out) | exact HB.out)) hb); clear BK187; clear HB; have BK187 := n0_; have HB := n1_; clear n0_ n1_; (try clear hb); (try clear hb2); (try clear hk); (try clear hi)))
              go_ret
              exact ⟨by first | rfl | (simp [errW_none, errW_some] <;> rfl) | (simp [*, errW_none, errW_some] <;> rfl), by repeat (first | (with_reducible first | exact HB.out | apply below_alloc | apply pw_below_drewN | apply below_drew1 | refine below_set ?_ GE187.out) | exact HB.out)⟩
          · rw [if_neg c107] at H
            have c107b0 : (t189.toList == ([] : List UInt8)) = false := beq_eq_false_iff_ne.mpr c107
            have c107b1 : (t189.toList != ([] : List UInt8)) = true := bne_iff_ne.mpr c107
            obtain rfl := Option.some.inj H
            have hcz115_0 : wc.cell? ⟨gb187, 0, none⟩ = some (.int .i64 a2_0) := (blk_cell BK187.out 0).trans rfl
            have hcz115_1 : wc.cell? ⟨gb187, 1, none⟩ = some (.bool a2_1) := (blk_cell BK187.out 1).trans rfl
            have hcz115_2 : wc.cell? ⟨gb187, 2, none⟩ = some (.string a2_2) := (blk_cell BK187.out 2).trans rfl
            have hfz115_0 := blk_frozen BK187.out 0
            have hfz115_1 := blk_frozen BK187.out 1
            have hfz115_2 := blk_frozen BK187.out 2
            go_wp2_with (first | ((with_reducible refine gate_callee (f := 8) rfl ?_); refine goesL_ (some 33) rfl rfl Tryd.func8 (by kernel_rfl) rfl #[.string a0, .int .i64 a1, .agg #[.int .i64 a2_0, .bool a2_1, .string a2_2], .bool a3, .int .i64 a4] rfl (by (try simp only [List.map_toArray, List.map_cons, List.map_nil]); first | done | rfl | (simp only [List.length_drop, List.length_take]; rfl)) ?_; (with_reducible refine (paste_Put.calls kj5 a0 a1 a2_0 a2_1 a2_2 a3 a4 t189 t190 t191 _ A13.out).mono ?_); rintro e w116 ⟨rfl, hb⟩; refine ⟨_, rfl, ?_⟩; have n0_ := Aside0.mk (blk_below (g := gb187) (o := .cells #[.int .i64 a2_0, .bool a2_1, .string a2_2] 23 (0, 0)) (by (with_reducible repeat (first | refine blk_drewN ?_ _ | refine blk_drew ?_ | refine blk_alloc ?_ _)); exact BK187.out) hb); have n1_ := Aside0.mk (below_step (by repeat (first | (with_reducible first | exact HB.out | apply below_alloc | apply pw_below_drewN | apply below_drew1 | refine below_set ?_ GE187.out) | exact HB.out)) hb); clear BK187; clear HB; have BK187 := n0_; have HB := n1_; clear n0_ n1_; (try clear hb); (try clear hb2); (try clear hk); (try clear hi)))
            go_ret
            exact ⟨by first | rfl | (simp [errW_none, errW_some] <;> rfl) | (simp [*, errW_none, errW_some] <;> rfl), by repeat (first | (with_reducible first | exact HB.out | apply below_alloc | apply pw_below_drewN | apply below_drew1 | refine below_set ?_ GE187.out) | exact HB.out)⟩

end Go.Proofs.YtckfdehendifoaaDoor.QP
/- A text with another one put in at a place; the difference to what it was (change.Diff) (MOD QP). -/
namespace Go.Proofs.YtckfdehendifoaaDoor
open Go.RowKit
set_option linter.unusedVariables false
set_option linter.unusedSimpArgs false
open Go.RowKit Go.Proofs.YtckfdehendifoaaDoor.QP Go.Proofs.YtckfdehendifoaaDoorW.PrintWords Go.Proofs.YtckfdehendifoaaDoorW.PrintMore
theorem ls_putS (t s : ByteArray) (a : Nat) : ls (putS t s a) = ((ls t).take a ++ ls s) ++ (ls t).drop a := by
  unfold putS; rw [ls_cat, ls_cat, ls_ext2, ls_ext, List.drop_zero, Nat.sub_zero]
section
variable (t s : ByteArray) (a : Nat) (hp : placeB (ls t) a = true) (hs : validL (ls s) = true)
theorem put_lo (ha : a ≤ t.size) {i : Nat} (h : i < a) : byL (ls (putS t s a)) i = byL (ls t) i := by
  rw [ls_putS, List.append_assoc, byL_app1 (by rw [List.length_take, ls_len]; omega), byL_tk _ h]
theorem put_mid (ha : a ≤ t.size) {i : Nat} (h : i < s.size) : byL (ls (putS t s a)) (a + i) = byL (ls s) i := by
  have hl : ((ls t).take a).length = a := by rw [List.length_take, ls_len]; omega
  rw [ls_putS, byL_app1 (by rw [List.length_append, hl, ls_len]; omega), byL_app2 (by omega), hl, show a + i - a = i by omega]
theorem put_hi (ha : a ≤ t.size) {i : Nat} (h : a ≤ i) : byL (ls (putS t s a)) (i + s.size) = byL (ls t) i := by
  have hl : ((ls t).take a).length = a := by rw [List.length_take, ls_len]; omega
  rw [ls_putS, byL_app2 (by rw [List.length_append, hl, ls_len]; omega), List.length_append, hl, ls_len, byL_drop, show a + (i + s.size - (a + s.size)) = i by omega]
theorem put_tens : tens (ls (putS t s a)) = tens (ls t) + tens (ls s) := by
  rw [ls_putS]
  unfold tens
  rw [List.count_append, List.count_append]
  have : (ls t).count 10 = ((ls t).take a).count 10 + ((ls t).drop a).count 10 := by rw [← List.count_append, List.take_append_drop]
  omega
theorem put_agree (ha : a ≤ t.size) {x : Nat} (h : x < a) : bt t x = bt (putS t s a) x := by
  rw [bt_nat t x (by omega), bt_nat _ x (by rw [size_putS t s a ha]; omega), put_lo t s a ha h]
include hp hs
theorem put_valid : validL (ls (putS t s a)) = true := by
  obtain ⟨h1, h2, h3⟩ := valid_at hp
  rw [ls_putS]
  refine valid_app' _ _ (valid_app' _ _ (valid_tk _ _ _ (Nat.le_refl _) h3 h2 (place_inn hp)) hs) h1
theorem put_place_hi {i : Nat} (hi : placeB (ls t) i = true) (h : a ≤ i) : placeB (ls (putS t s a)) ((i + s.size : Nat) : Int) = true := by
  have ha := (valid_at hp).2.1
  have hil := (valid_at hi).2.1
  rw [ls_len] at ha hil
  refine place_mk (put_valid t s a hp hs) (by rw [ls_len, size_putS t s a ha]; omega) ?_
  rw [put_hi t s a ha h, ls_len, size_putS t s a ha]
  rcases place_inn hi with h | h
  · rw [ls_len] at h; left; omega
  · right; exact h
theorem put_place_at : placeB (ls (putS t s a)) (a : Nat) = true := by
  have ha := (valid_at hp).2.1
  rw [ls_len] at ha
  rcases Nat.eq_zero_or_pos s.size with h0 | h0
  · have := put_place_hi t s a hp hs hp (Nat.le_refl _)
    rw [h0] at this; exact this
  · refine place_mk (put_valid t s a hp hs) (by rw [ls_len, size_putS t s a ha]; omega) (.inr ?_)
    have hm := put_mid t s a ha h0
    rw [Nat.add_zero] at hm
    rw [hm]
    exact valid_first hs (by rw [ls_len]; omega)
theorem front_ev (ht : t.size ≤ 500) (hz : s.size ≤ 10000) : ∃ n : Nat, a ≤ n ∧ n ≤ t.size ∧ placeB (ls t) n = true ∧ placeB (ls (putS t s a)) n = true ∧ Ev (fun K => change_front.f K t (putS t s a)) (n : Int) := by
  have ha := (valid_at hp).2.1
  rw [ls_len] at ha
  have hsz := size_putS t s a ha
  have hpa := put_place_at t s a hp hs
  -- the way down
  have down : ∀ d x, x - a ≤ d → a ≤ x → x ≤ t.size → ∃ n : Nat, a ≤ n ∧ n ≤ t.size ∧ placeB (ls t) n = true ∧ placeB (ls (putS t s a)) n = true ∧ Ev (fun K => change_front.l1 K t (putS t s a) x) (n : Int) := by
    intro d
    induction d with
    | zero =>
      intro x h1 h2 h3
      obtain rfl : x = a := by omega
      refine ⟨x, h2, h3, hp, hpa, ?_⟩
      refine Ev.step (fun _ => (by rw [change_front.l1])) ?_
      exact Ev.call (utf_Place.eq t x (by omega)) (Ev.pos hp (Ev.call (utf_Place.eq _ x (by rw [hsz]; omega)) (Ev.pos hpa (Ev.ret rfl))))
    | succ d ih =>
      intro x h1 h2 h3
      by_cases hx : x = a
      · subst hx; exact ih x (by omega) h2 h3
      · obtain ⟨n, n1, n2, n3, n4, n5⟩ := ih (x - 1) (by omega) (by omega) (by omega)
        rw [show ((x - 1 : Nat) : Int) = (x : Int) - 1 by omega] at n5
        by_cases b1 : placeB (ls t) x = true
        · by_cases b2 : placeB (ls (putS t s a)) x = true
          · refine ⟨x, h2, h3, b1, b2, ?_⟩
            refine Ev.step (fun _ => (by rw [change_front.l1])) ?_
            exact Ev.call (utf_Place.eq t x (by omega)) (Ev.pos b1 (Ev.call (utf_Place.eq _ x (by rw [hsz]; omega)) (Ev.pos b2 (Ev.ret rfl))))
          · refine ⟨n, n1, n2, n3, n4, ?_⟩
            refine Ev.step (fun _ => (by rw [change_front.l1])) ?_
            refine Ev.call (utf_Place.eq t x (by omega)) (Ev.pos b1 (Ev.call (utf_Place.eq _ x (by rw [hsz]; omega)) (Ev.neg b2 ?_)))
            rw [w64 (by omega) (by omega)]; exact n5
        · refine ⟨n, n1, n2, n3, n4, ?_⟩
          refine Ev.step (fun _ => (by rw [change_front.l1])) ?_
          refine Ev.call (utf_Place.eq t x (by omega)) (Ev.neg b1 ?_)
          rw [w64 (by omega) (by omega)]; exact n5
  have mid : ∀ x, a ≤ x → x ≤ t.size → ∃ n : Nat, a ≤ n ∧ n ≤ t.size ∧ placeB (ls t) n = true ∧ placeB (ls (putS t s a)) n = true ∧ Ev (fun K => change_front.j1 K t (putS t s a) x) (n : Int) := by
    intro x h2 h3
    obtain ⟨n, n1, n2, n3, n4, n5⟩ := down _ x (Nat.le_refl _) h2 h3
    refine ⟨n, n1, n2, n3, n4, ?_⟩
    refine Ev.step (fun _ => (by rw [change_front.j1])) ?_
    exact n5
  have up : ∀ d x, t.size - x ≤ d → x ≤ t.size → ∃ n : Nat, a ≤ n ∧ n ≤ t.size ∧ placeB (ls t) n = true ∧ placeB (ls (putS t s a)) n = true ∧ Ev (fun K => change_front.l0 K t (putS t s a) x) (n : Int) := by
    intro d
    induction d with
    | zero =>
      intro x h1 h2
      obtain ⟨n, n1, n2, n3, n4, n5⟩ := mid x (by omega) h2
      refine ⟨n, n1, n2, n3, n4, ?_⟩
      refine Ev.step (fun _ => (by rw [change_front.l0])) ?_
      exact Ev.neg (by omega) n5
    | succ d ih =>
      intro x h1 h2
      by_cases hx : x = t.size
      · exact ih x (by omega) h2
      · by_cases hb : bt t x = bt (putS t s a) x
        · obtain ⟨n, n1, n2, n3, n4, n5⟩ := ih (x + 1) (by omega) (by omega)
          refine ⟨n, n1, n2, n3, n4, ?_⟩
          refine Ev.step (fun _ => (by rw [change_front.l0])) ?_
          refine Ev.pos (by omega) (Ev.pos (by rw [hsz]; omega) (Ev.pos (by omega) (Ev.pos hb ?_)))
          rw [w64 (by omega) (by omega)]; exact n5
        · have hxa : a ≤ x := by
            rcases Nat.lt_or_ge x a with h | h
            · exact absurd (put_agree t s a ha h) hb
            · exact h
          obtain ⟨n, n1, n2, n3, n4, n5⟩ := mid x hxa h2
          refine ⟨n, n1, n2, n3, n4, ?_⟩
          refine Ev.step (fun _ => (by rw [change_front.l0])) ?_
          exact Ev.pos (by omega) (Ev.pos (by rw [hsz]; omega) (Ev.pos (by omega) (Ev.neg hb n5)))
  exact up t.size 0 (by omega) (by omega)
theorem diff_ev (ht : t.size ≤ 500) (hz : s.size ≤ 10000) (h1 : 1 ≤ s.size) : ∃ (n : Int) (X Y : ByteArray), Ev (fun K => change_Diff.f K t (putS t s a)) (n, X, Y) ∧ X.toList = [] ∧ Y.size = s.size := by
  have ha := (valid_at hp).2.1
  have hv := (valid_at hp).2.2
  rw [ls_len] at ha
  have hsz := size_putS t s a ha
  have hvu := put_valid t s a hp hs
  obtain ⟨n, n1, n2, n3, n4, n5⟩ := front_ev t s a hp hs ht hz
  have za : (t.extract n t.size).size = t.size - n := by rw [ByteArray.size_extract]; omega
  have zb : ((putS t s a).extract n (putS t s a).size).size = t.size - n + s.size := by rw [ByteArray.size_extract, hsz]; omega
  have pa : placeB (ls (t.extract n t.size)) 0 = true := by
    rw [ls_ext]; exact place_zero (valid_at n3).1
  have pb : placeB (ls ((putS t s a).extract n (putS t s a).size)) (s.size : Nat) = true := by
    refine place_mk (by rw [ls_ext]; exact (valid_at n4).1) (by rw [ls_len, zb]; omega) ?_
    rw [ls_len, zb, ls_ext, byL_drop, put_hi t s a ha n1]
    rcases place_inn n3 with h | h
    · rw [ls_len] at h; left; omega
    · right; exact h
  have last : Ev (fun K => change_back.j1 K (t.extract n t.size) ((putS t s a).extract n (putS t s a).size) ((t.size - n : Nat) : Int)) ((t.size - n : Nat) : Int) := by
    refine Ev.step (fun _ => (by rw [change_back.j1])) ?_
    refine Ev.step (fun _ => (by rw [change_back.l1])) ?_
    rw [za, zb, w64 (by omega) (by omega), w64 (by omega) (by omega), show ((t.size - n : Nat) : Int) - ((t.size - n : Nat) : Int) = 0 by omega, show ((t.size - n + s.size : Nat) : Int) - ((t.size - n : Nat) : Int) = (s.size : Nat) by omega]
    exact Ev.call (utf_Place.eq _ _ (by rw [za]; omega)) (Ev.pos pa (Ev.call (utf_Place.eq _ _ (by rw [zb]; omega)) (Ev.pos pb (Ev.ret rfl))))
  have back : ∀ d x, t.size - n - x ≤ d → x ≤ t.size - n → Ev (fun K => change_back.l0 K (t.extract n t.size) ((putS t s a).extract n (putS t s a).size) (x : Int)) ((t.size - n : Nat) : Int) := by
    intro d
    induction d with
    | zero =>
      intro x g1 g2
      obtain rfl : x = t.size - n := by omega
      refine Ev.step (fun _ => (by rw [change_back.l0])) ?_
      exact Ev.neg (by rw [za]; omega) last
    | succ d ih =>
      intro x g1 g2
      by_cases hx : x = t.size - n
      · exact ih x (by omega) g2
      · refine Ev.step (fun _ => (by rw [change_back.l0])) ?_
        rw [za, zb, w64 (n := ((t.size - n : Nat) : Int) - 1) (by omega) (by omega), w64 (n := ((t.size - n + s.size : Nat) : Int) - 1) (by omega) (by omega), w64 (n := ((t.size - n : Nat) : Int) - 1 - x) (by omega) (by omega), w64 (n := ((t.size - n + s.size : Nat) : Int) - 1 - x) (by omega) (by omega), w64 (n := (x : Int) + 1) (by omega) (by omega)]
        refine Ev.pos (by omega) (Ev.pos (by omega) (Ev.pos (by omega) (Ev.pos (by omega) (Ev.pos (by omega) (Ev.pos (by omega) (Ev.pos ?_ (ih (x + 1) (by omega) (by omega))))))))
        rw [show ((t.size - n : Nat) : Int) - 1 - x = ((t.size - n - 1 - x : Nat) : Int) by omega, show ((t.size - n + s.size : Nat) : Int) - 1 - x = ((t.size - n - 1 - x + s.size : Nat) : Int) by omega, bt_nat _ _ (by rw [za]; omega), bt_nat _ _ (by rw [zb]; omega), ls_ext, ls_ext, byL_drop, byL_drop, ← Nat.add_assoc, put_hi t s a ha (by omega)]
  have hback : Ev (fun K => change_back.f K (t.extract n t.size) ((putS t s a).extract n (putS t s a).size)) ((t.size - n : Nat) : Int) := back _ 0 (Nat.le_refl _) (Nat.zero_le _)
  refine ⟨n, (t.extract n t.size).extract 0 0, ((putS t s a).extract n (putS t s a).size).extract 0 s.size, ?_, ?_, by rw [ByteArray.size_extract, zb]; omega⟩
  · unfold change_Diff.f
    refine Ev.neg (fun h => ?_) (Ev.call (utf_Valid.eq t (by omega)) (Ev.pos hv (Ev.call (utf_Valid.eq _ (by rw [hsz]; omega)) ?_)))
    · rw [toList_ls, toList_ls] at h
      have := congrArg List.length h
      rw [ls_len, ls_len, hsz] at this; omega
    · rw [hvu]
      refine Ev.step (fun _ => (by rw [change_Diff.j0])) ?_
      refine Ev.neg (by simp) (Ev.bind n5 (Ev.pos (by omega) (Ev.pos (by omega) (Ev.pos (by rw [hsz]; omega) ?_))))
      rw [Int.toNat_natCast]
      refine Ev.bind hback ?_
      rw [za, zb, w64 (by omega) (by omega), w64 (by omega) (by omega), show ((t.size - n : Nat) : Int) - ((t.size - n : Nat) : Int) = 0 by omega, show ((t.size - n + s.size : Nat) : Int) - ((t.size - n : Nat) : Int) = (s.size : Nat) by omega, Int.toNat_natCast]
      exact Ev.pos (by omega) (Ev.pos (by omega) (Ev.pos (by omega) (Ev.pos (by omega) (Ev.ret rfl))))
  · exact (empty_iff _).2 (by rw [ByteArray.size_extract]; omega)
end
end Go.Proofs.YtckfdehendifoaaDoor
/- Put of runes in plain words (MOD QP). -/
namespace Go.Proofs.YtckfdehendifoaaDoor
open Go.RowKit
set_option linter.unusedVariables false
set_option linter.unusedSimpArgs false
open Go.RowKit Go.Proofs.YtckfdehendifoaaDoor.QP Go.Proofs.YtckfdehendifoaaDoorW.PrintWords Go.Proofs.YtckfdehendifoaaDoorW.PrintMore
def runesX (t s : ByteArray) (a : Nat) : ByteArray × Int × Int := if t.size + s.size ≤ 4096 then (putS t s a, if 0 < tens (ls s) then clampI (ls (putS t s a)) a else prevI (ls (putS t s a)) ((a + s.size : Nat) : Int), 0) else (⟨#[]⟩, 0, 8)
theorem pput_j3 (t s : ByteArray) (a : Nat) (ha : a ≤ t.size) (ht : t.size ≤ 500) (hs : s.size ≤ 100000) : Ev (fun K => paste_Put.j3 K t a s) (runesX t s a) := by
  unfold runesX
  refine Ev.step (fun _ => (by rw [paste_Put.j3])) ?_
  refine Ev.call (insert_val t s a ha (by omega) (by omega)) ?_
  by_cases h : t.size + s.size ≤ 4096
  · rw [if_pos h, if_pos h]
    refine Ev.pos rfl (Ev.call (strings_Contains.eq s) ?_)
    rw [feed_tens]
    by_cases hf : 0 < tens (ls s)
    · rw [if_pos hf]
      exact Ev.pos (by simpa using hf) (Ev.call (line_Clamp.eq _ _ (by show (putS t s a).size ≤ _; rw [size_putS t s a ha]; omega)) (Ev.ret rfl))
    · rw [if_neg hf, w64 (by omega) (by omega), show (a : Int) + (s.size : Int) = ((a + s.size : Nat) : Int) by omega]
      exact Ev.neg (by simpa using hf) (Ev.call (utf_Prev.eq _ _ (by show (putS t s a).size ≤ _; rw [size_putS t s a ha]; omega)) (Ev.ret rfl))
  · rw [if_neg h, if_neg h]
    exact Ev.neg (by decide) (Ev.ret rfl)
end Go.Proofs.YtckfdehendifoaaDoor
/- The statement PasteLess in plain words (MOD QP). -/
namespace Go.Proofs.YtckfdehendifoaaDoor
open Go.RowKit
set_option linter.unusedVariables false
set_option linter.unusedSimpArgs false
open Go.RowKit Go.Proofs.YtckfdehendifoaaDoor.QP Go.Proofs.YtckfdehendifoaaDoorW.PrintWords Go.Proofs.YtckfdehendifoaaDoorW.PrintMore
def PutOk (t rt : ByteArray) (lines : Bool) (n : Int) (X : ByteArray × Int × Int) : Prop :=
  (X.2.2 ≠ 0 ∧ X.1 = ⟨#[]⟩ ∧ X.2.1 = 0) ∨ (X.2.2 = 0 ∧ ∃ (S : ByteArray) (a : Nat), X.1 = putS t S a ∧ placeB (ls t) a = true ∧ validL (ls S) = true ∧ 1 ≤ S.size ∧ t.size + S.size ≤ 4096 ∧ (S.size : Int) = max n 1 * rt.size + (if lines = true then max n 1 else 0) ∧ normalB (ls X.1) X.2.1 = true)
theorem first_norm {u : List UInt8} {k : Int} (hv : validL u = true) (h0 : 0 ≤ k) (h1 : k ≤ lcountI u - 1) : normalB u (firstI u k) = true := by
  obtain ⟨f, hf, ho, _⟩ := line_exists hv h0 h1
  obtain ⟨q, g1, g2, g3⟩ := first_facts hf
  rw [← ho, g1]; exact g3
theorem prev_norm {u : List UInt8} {b x : Nat} (hx : placeB u x = true) (hb : placeB u b = true) (hbx : b < x) (hno : ∀ i, b ≤ i → i < x → byL u i ≠ 10) : normalB u (prevI u x) = true := by
  obtain ⟨_, hle, hv⟩ := valid_at hx
  obtain ⟨h1, h2, _⟩ := prev_gap hv (x - 1) (by omega)
  have h3 := prev_ge' hx hb hbx
  rw [prevI_at hx (by omega)]
  unfold normalB
  rw [h2, Int.toNat_natCast]
  have : endsB u (prevFrom u (x - 1)) = false := by
    unfold endsB
    rw [decide_eq_false (by omega), decide_eq_false (hno _ h3 (by omega))]; rfl
  rw [this]; rfl
theorem linesX_ok (t rt : ByteArray) {q : Nat} (ahead : Bool) (n : Int) (ht : t.size ≤ 500) (hp : placeB (ls t) q = true) (hv : validL (ls rt) = true) : PutOk t rt true n (linesX t rt (ofI (ls t) q) ahead n) := by
  obtain ⟨e, k1, k2, k3, k4, k5, k6, k7, k8⟩ := line_pair hp
  have hle := (valid_at hp).2.1
  rw [ls_len] at k6 hle
  have ho : 0 ≤ ofI (ls t) q ∧ ofI (ls t) q ≤ tens (ls t) := by
    obtain ⟨_, hle', hv⟩ := valid_at hp
    obtain ⟨g1, _⟩ := start_of hle' hv
    have := fds_mono (ls t) q
    rw [g1]; omega
  obtain ⟨N, hN⟩ : ∃ N : Nat, max n 1 = N := ⟨(max n 1).toNat, by omega⟩
  unfold linesX
  rw [hN, Int.toNat_natCast]
  by_cases hc : (N : Int) ≤ 4097 ∧ t.size + N * (rt.size + 1) ≤ 4096
  · rw [if_pos hc]
    have hz := size_repF rt (N := N) (by omega)
    have hvR : validL (ls (repT rt feedS N)) = true := by rw [ls_repT]; exact valid_rep hv rfl _
    have hmul : ((N * (rt.size + 1) : Nat) : Int) = (N : Int) * rt.size + N := by rw [Nat.mul_add, Nat.mul_one]; push_cast; rfl
    generalize repT rt feedS N = R at hz hvR ⊢
    right
    cases ahead with
    | true =>
      rw [if_pos rfl, k2, Int.toNat_natCast]
      have z2 : (R ++ feedS).size = R.size + 1 := by rw [ByteArray.size_append, size_feedS]
      have hvS : validL (ls (R ++ feedS)) = true := by rw [ls_cat]; exact valid_app' _ _ hvR rfl
      have hu := put_valid t (R ++ feedS) (lst (ls t) q) k7 hvS
      refine ⟨rfl, R ++ feedS, lst (ls t) q, rfl, k7, hvS, by omega, by omega, ?_, first_norm hu ho.1 ?_⟩
      · rw [z2, if_pos rfl, hN, ← hmul]; omega
      · unfold lcountI; rw [if_pos hu, put_tens t _ _]; omega
    | false =>
      rw [if_neg (by simp), k3, Int.toNat_natCast]
      have z2 : (feedS ++ R).size = R.size + 1 := by rw [ByteArray.size_append, size_feedS]; omega
      have hvS : validL (ls (feedS ++ R)) = true := by rw [ls_cat]; exact valid_app' _ _ rfl hvR
      have hu := put_valid t (feedS ++ R) e k8 hvS
      have ht1 : 1 ≤ tens (ls (feedS ++ R)) := by rw [ls_cat]; unfold tens; rw [List.count_append]; have : (ls feedS).count 10 = 1 := rfl; omega
      refine ⟨rfl, feedS ++ R, e, rfl, k8, hvS, by omega, by omega, ?_, first_norm hu (by omega) ?_⟩
      · rw [z2, if_pos rfl, hN, ← hmul]; omega
      · unfold lcountI; rw [if_pos hu, put_tens t _ _]; omega
  · rw [if_neg hc]; exact .inl ⟨by decide, rfl, rfl⟩
theorem runesX_ok (t rt : ByteArray) (n : Int) {N a : Nat} (hN : max n 1 = N) (hN1 : 1 ≤ N) (hr1 : 1 ≤ rt.size) (hv : validL (ls rt) = true) (hpa : placeB (ls t) a = true) : PutOk t rt false n (runesX t (repT rt ⟨#[]⟩ N) a) := by
  have ha := (valid_at hpa).2.1
  rw [ls_len] at ha
  have hz := size_rep0 rt N
  have hvR : validL (ls (repT rt ⟨#[]⟩ N)) = true := by rw [ls_repT]; exact valid_rep hv rfl _
  have hmul : ((N * rt.size : Nat) : Int) = (N : Int) * rt.size := by push_cast; rfl
  have hpos : N ≤ N * rt.size := Nat.le_mul_of_pos_right _ (by omega)
  generalize repT rt ⟨#[]⟩ N = R at hz hvR ⊢
  unfold runesX
  by_cases h : t.size + R.size ≤ 4096
  · rw [if_pos h]
    right
    have hu := put_valid t R a hpa hvR
    refine ⟨rfl, R, a, rfl, hpa, hvR, by omega, h, by rw [hN, ← hmul, if_neg (by simp)]; omega, ?_⟩
    show normalB (ls (putS t R a)) (if 0 < tens (ls R) then clampI (ls (putS t R a)) a else prevI (ls (putS t R a)) ((a + R.size : Nat) : Int)) = true
    by_cases hf : 0 < tens (ls R)
    · rw [if_pos hf]
      obtain ⟨c, c1, _, c3⟩ := clamp_cases hu (a : Nat)
      rw [c1]; exact c3
    · rw [if_neg hf]
      refine prev_norm (b := a) (put_place_hi t R a hpa hvR hpa (Nat.le_refl _)) (put_place_at t R a hpa hvR) (by omega) (fun i h1 h2 hb => hf ?_)
      obtain ⟨j, rfl⟩ : ∃ j, i = a + j := ⟨i - a, by omega⟩
      rw [put_mid t R a ha (by omega)] at hb
      have hj : j < (ls R).length := by rw [ls_len]; omega
      rw [byL_ten hj] at hb
      exact List.count_pos_iff.2 (by rw [← hb]; exact List.getElem_mem hj)
  · rw [if_neg h]; exact .inl ⟨by decide, rfl, rfl⟩
theorem prunes_ok (t rt : ByteArray) {q : Nat} (ahead : Bool) (n rn : Int) (ht : t.size ≤ 500) (hr : rt.size ≤ 5000) (hr1 : 1 ≤ rt.size) (hp : placeB (ls t) q = true) (hv : validL (ls rt) = true) : ∃ X : ByteArray × Int × Int, Ev (fun K => paste_Put.j1 K t q ahead n false rn false rt) X ∧ PutOk t rt false n X := by
  obtain ⟨e, k1, k2, k3, k4, k5, k6, k7, k8⟩ := line_pair hp
  have hle := (valid_at hp).2.1
  rw [ls_len] at k6 hle
  obtain ⟨N, hN⟩ : ∃ N : Nat, max n 1 = N := ⟨(max n 1).toNat, by omega⟩
  have zN := size_rep0 rt N
  have hc : ((N * rt.size : Nat) : Int) = (N : Int) * ((rt.size : Int) + ((⟨#[]⟩ : ByteArray).size : Int)) := by
    rw [show ((⟨#[]⟩ : ByteArray).size : Int) = 0 from rfl, Int.add_zero]; push_cast; rfl
  by_cases hL : N ≤ 4097 ∧ N * rt.size ≤ 8194
  · have ht' : Ev (fun K => paste_times.f K rt ⟨#[]⟩ (N : Int)) (repT rt ⟨#[]⟩ N, true) := times_ev rt ⟨#[]⟩ N (by omega) hL.1 (by show N * (rt.size + 0) ≤ 8194; rw [Nat.add_zero]; exact hL.2)
    obtain ⟨a, ha, hpa, hra⟩ : ∃ a : Nat, a ≤ t.size ∧ placeB (ls t) a = true ∧ (∀ (s : ByteArray) (X : ByteArray × Int × Int), Ev (fun K => paste_Put.j3 K t a s) X → Ev (fun K => if ahead = true then (paste_Put.j2 K t q s false) else ((paste_stop.f t q).bind fun t135 => (paste_Put.j2 K t q s (!t135)))) X) := by
      cases ahead with
      | true =>
        refine ⟨q, by omega, hp, fun s X h => Ev.pos rfl ?_⟩
        refine Ev.step (fun _ => (by rw [paste_Put.j2])) ?_
        exact Ev.neg (by simp) h
      | false =>
        by_cases hqe : q = e
        · refine ⟨q, by omega, hp, fun s X h => Ev.neg (by simp) (Ev.call (stop_val t hp k3 (by omega)) ?_)⟩
          rw [decide_eq_true hqe]
          refine Ev.step (fun _ => (by rw [paste_Put.j2])) ?_
          exact Ev.neg (by simp) h
        · obtain ⟨x, g1, g2, g3, g4, _⟩ := rest_next hp k3 (by omega)
          refine ⟨x, by omega, g4, fun s X h => Ev.neg (by simp) (Ev.call (stop_val t hp k3 (by omega)) ?_)⟩
          rw [decide_eq_false hqe]
          refine Ev.step (fun _ => (by rw [paste_Put.j2])) ?_
          refine Ev.pos rfl (Ev.call (utf_Next.eq t q (by omega)) ?_)
          rw [g1]; exact h
    refine ⟨runesX t (repT rt ⟨#[]⟩ N) a, ?_, runesX_ok t rt n hN (by omega) hr1 hv hpa⟩
    refine Ev.step (fun _ => (by rw [paste_Put.j1])) ?_
    rw [mx_eq, hN]
    exact Ev.neg (by simp) (Ev.neg (by simp) (Ev.bind ht' (Ev.pos rfl (hra _ _ (pput_j3 t _ a ha ht (by show (repT rt ⟨#[]⟩ N).size ≤ 100000; omega))))))
  · have ht' : Ev (fun K => paste_times.f K rt ⟨#[]⟩ (N : Int)) (⟨#[]⟩, false) := times_long rt ⟨#[]⟩ (N : Int) (by show rt.size + 0 ≤ 100000; omega) (by omega) (by rw [← hc]; omega)
    refine ⟨(⟨#[]⟩, 0, 8), ?_, .inl ⟨by decide, rfl, rfl⟩⟩
    refine Ev.step (fun _ => (by rw [paste_Put.j1])) ?_
    rw [mx_eq, hN]
    exact Ev.neg (by simp) (Ev.neg (by simp) (Ev.bind ht' (Ev.neg (by simp) (Ev.ret rfl))))
theorem put_ok (t : ByteArray) (p : Int) (rn : Int) (lines : Bool) (rt : ByteArray) (ahead : Bool) (n : Int) (ht : t.size ≤ 500) (hr : rt.size ≤ 5000) : ∃ X : ByteArray × Int × Int, Ev (fun K => paste_Put.f K t p rn lines rt ahead n) X ∧ PutOk t rt lines n X := by
  have bad1 : ∀ p, Ev (fun K => paste_Put.j0 K t p ahead n true rn lines rt) (⟨#[]⟩, 0, 1) := fun p => by
    refine Ev.step (fun _ => (by rw [paste_Put.j0])) ?_
    exact Ev.pos rfl (Ev.ret rfl)
  have ok1 : ∀ c : Int, c ≠ 0 → PutOk t rt lines n (⟨#[]⟩, 0, c) := fun c hc => .inl ⟨hc, rfl, rfl⟩
  rcases place_cases t p with hf | ⟨q, rfl, hle, hp, _⟩
  · refine ⟨(⟨#[]⟩, 0, 1), ?_, ok1 1 (by decide)⟩
    unfold paste_Put.f
    exact Ev.call (utf_Place.eq t p (by omega)) (Ev.neg (by rw [hf]; simp) (bad1 p))
  suffices h : ∃ X : ByteArray × Int × Int, Ev (fun K => paste_Put.j0 K t q ahead n (!validL (ls rt)) rn lines rt) X ∧ PutOk t rt lines n X by
    obtain ⟨X, x1, x2⟩ := h
    refine ⟨X, ?_, x2⟩
    unfold paste_Put.f
    exact Ev.call (utf_Place.eq t q (by omega)) (Ev.pos hp (Ev.call (utf_Valid.eq rt (by omega)) x1))
  cases hv : validL (ls rt) with
  | false => exact ⟨_, bad1 q, ok1 1 (by decide)⟩
  | true =>
    have step : ∀ X : ByteArray × Int × Int, Ev (fun K => paste_Put.j1 K t q ahead n (decide (rt.toList = []) && !lines) rn lines rt) X → PutOk t rt lines n X → ∃ X : ByteArray × Int × Int, Ev (fun K => paste_Put.j0 K t q ahead n (!true) rn lines rt) X ∧ PutOk t rt lines n X := by
      intro X x1 x2
      refine ⟨X, ?_, x2⟩
      refine Ev.step (fun _ => (by rw [paste_Put.j0])) ?_
      refine Ev.neg (by simp) (Ev.ite (fun h => ?_) (fun h => ?_))
      · rw [decide_eq_true h, Bool.true_and] at x1; exact x1
      · rw [decide_eq_false h, Bool.false_and] at x1; exact x1
    cases lines with
    | true =>
      rw [Bool.not_true, Bool.and_false] at step
      refine step (linesX t rt (ofI (ls t) q) ahead n) ?_ (linesX_ok t rt ahead n ht hp hv)
      refine Ev.step (fun _ => (by rw [paste_Put.j1])) ?_
      rw [mx_eq]
      exact Ev.neg (by simp) (Ev.pos rfl (Ev.call (line_Of.eq t _ (by omega)) (Ev.bind (plines_ev t rt ahead n ht hr hp) (Ev.ret rfl))))
    | false =>
      by_cases h0 : rt.toList = []
      · rw [decide_eq_true h0] at step
        refine step (⟨#[]⟩, 0, 7) ?_ (ok1 7 (by decide))
        refine Ev.step (fun _ => (by rw [paste_Put.j1])) ?_
        exact Ev.pos rfl (Ev.ret rfl)
      · rw [decide_eq_false h0] at step
        have hr1 : 1 ≤ rt.size := by
          rcases Nat.eq_zero_or_pos rt.size with h | h
          · exact absurd ((empty_iff rt).2 h) h0
          · exact h
        obtain ⟨X, x1, x2⟩ := prunes_ok t rt ahead n rn ht hr hr1 hp hv
        exact step X x1 x2
theorem PasteLess_p (t : ByteArray) (p : Int) (rn : Int) (lines : Bool) (rt : ByteArray) (ahead : Bool) (n : Int) (ht : t.size ≤ 140737488351232) (hp : -9223372036854775808 ≤ p ∧ p ≤ 9223372036854775807) (hrn : -9223372036854775808 ≤ rn ∧ rn ≤ 9223372036854775807) (hr : rt.size ≤ 140737488351232) (hn : -9223372036854775808 ≤ n ∧ n ≤ 9223372036854775807) : ∃ m, calamuslaw24_PasteLess.f m t p rn lines rt ahead n = some true := by
  suffices h : Ev (fun m => calamuslaw24_PasteLess.f m t p rn lines rt ahead n) true by obtain ⟨K, h⟩ := h; exact ⟨K, h K (Nat.le_refl _)⟩
  have live : Ev (fun m => calamuslaw24_PasteLess.j0 m t p ahead n true rn lines rt) true := by
    refine Ev.step (fun _ => (by rw [calamuslaw24_PasteLess.j0])) ?_
    exact Ev.pos rfl lives24'
  unfold calamuslaw24_PasteLess.f
  refine Ev.ite (fun _ => live) (fun hs => ?_)
  by_cases h5 : (rt.size : Int) > 5000
  · rw [decide_eq_true h5]; exact live
  · rw [decide_eq_false h5]
    obtain ⟨⟨u, at_, er⟩, x1, x2⟩ := put_ok t p rn lines rt ahead n (by omega) (by omega)
    refine Ev.step (fun _ => (by rw [calamuslaw24_PasteLess.j0])) ?_
    refine Ev.neg (by simp) (Ev.bind x1 ?_)
    rcases x2 with ⟨e1, e2, e3⟩ | ⟨e1, S, a, e2, e3, e4, e5, e6, e7, e8⟩
    · simp only at e1 e2 e3
      subst e2 e3
      exact Ev.neg e1 (Ev.pos ((empty_iff _).2 rfl) (Ev.pos rfl lives24'))
    · simp only at e1 e2 e8
      subst e1 e2
      have ha := (valid_at e3).2.1
      rw [ls_len] at ha
      obtain ⟨d, X, Y, d1, d2, d3⟩ := diff_ev t S a e3 e4 (by omega) (by omega) e5
      have hsz := size_putS t S a ha
      have hm1 : max n 1 ≤ 4096 * 1 ∨ rt.size = 0 ∧ lines = false := by
        cases lines with
        | true =>
          rw [if_pos rfl] at e7
          left
          have : 0 ≤ max n 1 * (rt.size : Int) := Int.mul_nonneg (by omega) (by omega)
          omega
        | false =>
          rw [if_neg (by simp)] at e7
          rcases Nat.eq_zero_or_pos rt.size with h | h
          · right; exact ⟨h, rfl⟩
          · left
            have : max n 1 * 1 ≤ max n 1 * (rt.size : Int) := Int.mul_le_mul_of_nonneg_left (by omega) (by omega)
            omega
      have hmul0 : 0 ≤ max n 1 * (rt.size : Int) := Int.mul_nonneg (by omega) (by omega)
      refine Ev.pos rfl ?_
      rw [mx_eq]
      cases lines with
      | true =>
        rw [if_pos rfl] at e7
        refine Ev.pos rfl (Ev.bind d1 ?_)
        rw [hsz, w64 (n := max n 1 * (rt.size : Int)) (by omega) (by omega), w64 (n := max n 1 * (rt.size : Int) + max n 1) (by omega) (by omega), w64 (by omega) (by omega)]
        exact Ev.pos (by omega) (Ev.pos d2 (Ev.pos (by rw [d3]; exact e7) (Ev.call (line_Normal.eq _ _ (by rw [hsz]; omega)) (Ev.pos e8 lives24'))))
      | false =>
        rw [if_neg (by simp), Int.add_zero] at e7
        refine Ev.neg (by simp) (Ev.bind d1 ?_)
        rw [hsz, w64 (n := max n 1 * (rt.size : Int)) (by omega) (by omega), w64 (by omega) (by omega)]
        exact Ev.pos (by omega) (Ev.pos d2 (Ev.pos (by rw [d3]; exact e7) (Ev.call (line_Normal.eq _ _ (by rw [hsz]; omega)) (Ev.pos e8 lives24'))))
end Go.Proofs.YtckfdehendifoaaDoor
