/- Joined by merge.py out of this work's texts: QX3, PHa. -/
import Derived.Test.YthjlhbblflmajaaZHA1
-- Printed by this work's xp.py out of the translation. Lean checks it.
namespace Go.Proofs.Ythjlhbblflmajaa.QX
open Go.RowKit Go.Proofs.YthjlhbblflmajaaW.PrintWords Go.Proofs.YthjlhbblflmajaaW.PrintLast Go.Proofs.YthjlhbblflmajaaW.PrintMore
attribute [local go_sem] max2_int min2_int max_two min_two max_three min_three max_four min_four   -- for this text's walks alone
set_option linter.unusedVariables false
set_option linter.unusedSimpArgs false


/-! ### calamuslaw15_HopAlternate -/
mutual
def calamuslaw15_HopAlternate.j0 : Nat → ByteArray → Bool → Bool → Option (Bool)
  | 0, _, _, _ => none
  | k + 1, x0, x1, x24 => if x24 = true then ((calamuslaw15_lives.f k).bind fun t144 => (some t144)) else ((hop_Starts.f x0 x1).bind fun t145 => ((hop_Ends.f x0 x1).bind fun t148 => (calamuslaw15_HopAlternate.l0 k x0 x1 t145 t148 0 0)))
def calamuslaw15_HopAlternate.l0 : Nat → ByteArray → Bool → List Int → List Int → Int → Int → Option (Bool)
  | 0, _, _, _, _, _, _ => none
  | k + 1, x0, x1, x5, x6, x7, x8 => if x8 < (x5.length : Int) then (if x8 > 0 then (if 0 ≤ x8 then (if 0 ≤ (wrap64 (x8 - 1)) then (if (wrap64 (x8 - 1)) < (x5.length : Int) then (if (rd x5 x8) ≤ (rd x5 (wrap64 (x8 - 1))) then (calamuslaw15_HopAlternate.j2 k x0 x1 x5 x6 x7 x8 true) else (if (rd x5 x8) < 0 then (calamuslaw15_HopAlternate.j2 k x0 x1 x5 x6 x7 x8 true) else (calamuslaw15_HopAlternate.j2 k x0 x1 x5 x6 x7 x8 (decide ((rd x5 x8) > (x0.size : Int)))))) else (none)) else (none)) else (none)) else (if 0 ≤ x8 then (if (rd x5 x8) < 0 then (calamuslaw15_HopAlternate.j2 k x0 x1 x5 x6 x7 x8 true) else (calamuslaw15_HopAlternate.j2 k x0 x1 x5 x6 x7 x8 (decide ((rd x5 x8) > (x0.size : Int))))) else (none))) else (if x7 = (x6.length : Int) then (if x1 = true then (calamuslaw15_HopAlternate.j4 k x0 x5 (⟨#[87]⟩ : ByteArray) (⟨#[66]⟩ : ByteArray)) else (calamuslaw15_HopAlternate.j4 k x0 x5 (⟨#[119]⟩ : ByteArray) (⟨#[98]⟩ : ByteArray))) else (some false))
def calamuslaw15_HopAlternate.j2 : Nat → ByteArray → Bool → List Int → List Int → Int → Int → Bool → Option (Bool)
  | 0, _, _, _, _, _, _, _ => none
  | k + 1, x0, x1, x5, x6, x7, x8, x67 => if x67 = true then (some false) else (if 0 ≤ x8 then (if x8 < (x5.length : Int) then (if (rd x5 x8) = 0 then (if (rd x5 x8) = (x0.size : Int) then (calamuslaw15_HopAlternate.j3 k x0 x1 x5 x6 x7 x8 true) else (if 0 ≤ (rd x5 x8) then (if (rd x5 x8) < (x0.size : Int) then (calamuslaw15_HopAlternate.j3 k x0 x1 x5 x6 x7 x8 ((bt x0 (rd x5 x8)) == 10)) else (none)) else (none))) else (if 0 ≤ (wrap64 ((rd x5 x8) - 1)) then (if (wrap64 ((rd x5 x8) - 1)) < (x0.size : Int) then (if (bt x0 (wrap64 ((rd x5 x8) - 1))) = 10 then (if (rd x5 x8) = (x0.size : Int) then (calamuslaw15_HopAlternate.j3 k x0 x1 x5 x6 x7 x8 true) else (if 0 ≤ (rd x5 x8) then (if (rd x5 x8) < (x0.size : Int) then (calamuslaw15_HopAlternate.j3 k x0 x1 x5 x6 x7 x8 ((bt x0 (rd x5 x8)) == 10)) else (none)) else (none))) else (calamuslaw15_HopAlternate.j3 k x0 x1 x5 x6 x7 x8 false)) else (none)) else (none))) else (none)) else (none))
def calamuslaw15_HopAlternate.j3 : Nat → ByteArray → Bool → List Int → List Int → Int → Int → Bool → Option (Bool)
  | 0, _, _, _, _, _, _, _ => none
  | k + 1, x0, x1, x5, x6, x7, x8, x9 => if x9 = true then (calamuslaw15_HopAlternate.l0 k x0 x1 x5 x6 x7 (wrap64 (x8 + 1))) else (if x7 ≥ (x6.length : Int) then (some false) else (if 0 ≤ x7 then (if x7 < (x6.length : Int) then (if 0 ≤ x8 then (if x8 < (x5.length : Int) then (if (rd x6 x7) < (rd x5 x8) then (some false) else (if (wrap64 (x8 + 1)) < (x5.length : Int) then (if 0 ≤ (wrap64 (x8 + 1)) then (if (rd x6 x7) ≥ (rd x5 (wrap64 (x8 + 1))) then (some false) else (calamuslaw15_HopAlternate.l0 k x0 x1 x5 x6 (wrap64 (x7 + 1)) (wrap64 (x8 + 1)))) else (none)) else (calamuslaw15_HopAlternate.l0 k x0 x1 x5 x6 (wrap64 (x7 + 1)) (wrap64 (x8 + 1))))) else (none)) else (none)) else (none)) else (none)))
def calamuslaw15_HopAlternate.j4 : Nat → ByteArray → List Int → ByteArray → ByteArray → Option (Bool)
  | 0, _, _, _, _ => none
  | k + 1, x0, x5, x10, x11 => calamuslaw15_HopAlternate.l1 k x0 x5 x10 x11 0
def calamuslaw15_HopAlternate.l1 : Nat → ByteArray → List Int → ByteArray → ByteArray → Int → Option (Bool)
  | 0, _, _, _, _, _ => none
  | k + 1, x0, x5, x10, x11, x12 => if (wrap64 (x12 + 1)) < (x5.length : Int) then (if 0 ≤ x12 then (if x12 < (x5.length : Int) then ((hop_Go.f k x0 (rd x5 x12) x10 1).bind fun bt169 => (if 0 ≤ (wrap64 (x12 + 1)) then ((hop_Go.f k x0 (rd x5 (wrap64 (x12 + 1))) x11 1).bind fun bt172 => (if bt169.1 = (rd x5 (wrap64 (x12 + 1))) then (if bt169.2 = true then (if bt172.1 = (rd x5 x12) then (if bt172.2 = true then (calamuslaw15_HopAlternate.l1 k x0 x5 x10 x11 (wrap64 (x12 + 1))) else (some false)) else (some false)) else (some false)) else (some false))) else (none))) else (none)) else (none)) else ((calamuslaw15_lives.f k).bind fun t167 => (some t167))
end
def calamuslaw15_HopAlternate.f (k : Nat) (a0 : ByteArray) (a1 : Bool) : Option (Bool) := if (a0.size : Int) > 300 then (calamuslaw15_HopAlternate.j0 k a0 a1 true) else ((utf_Valid.f a0).bind fun t143 => (calamuslaw15_HopAlternate.j0 k a0 a1 (!t143)))
theorem calamuslaw15_HopAlternate.mono_l : ∀ k, (∀ y0 y1 y2, LeO (calamuslaw15_HopAlternate.j0 k y0 y1 y2) (calamuslaw15_HopAlternate.j0 (k + 1) y0 y1 y2)) ∧ (∀ y0 y1 y2 y3 y4 y5, LeO (calamuslaw15_HopAlternate.l0 k y0 y1 y2 y3 y4 y5) (calamuslaw15_HopAlternate.l0 (k + 1) y0 y1 y2 y3 y4 y5)) ∧ (∀ y0 y1 y2 y3 y4 y5 y6, LeO (calamuslaw15_HopAlternate.j2 k y0 y1 y2 y3 y4 y5 y6) (calamuslaw15_HopAlternate.j2 (k + 1) y0 y1 y2 y3 y4 y5 y6)) ∧ (∀ y0 y1 y2 y3 y4 y5 y6, LeO (calamuslaw15_HopAlternate.j3 k y0 y1 y2 y3 y4 y5 y6) (calamuslaw15_HopAlternate.j3 (k + 1) y0 y1 y2 y3 y4 y5 y6)) ∧ (∀ y0 y1 y2 y3, LeO (calamuslaw15_HopAlternate.j4 k y0 y1 y2 y3) (calamuslaw15_HopAlternate.j4 (k + 1) y0 y1 y2 y3)) ∧ (∀ y0 y1 y2 y3 y4, LeO (calamuslaw15_HopAlternate.l1 k y0 y1 y2 y3 y4) (calamuslaw15_HopAlternate.l1 (k + 1) y0 y1 y2 y3 y4))
  | 0 => ⟨fun _ _ _ r h => by simp [calamuslaw15_HopAlternate.j0] at h, fun _ _ _ _ _ _ r h => by simp [calamuslaw15_HopAlternate.l0] at h, fun _ _ _ _ _ _ _ r h => by simp [calamuslaw15_HopAlternate.j2] at h, fun _ _ _ _ _ _ _ r h => by simp [calamuslaw15_HopAlternate.j3] at h, fun _ _ _ _ r h => by simp [calamuslaw15_HopAlternate.j4] at h, fun _ _ _ _ _ r h => by simp [calamuslaw15_HopAlternate.l1] at h⟩
  | k + 1 => by
    obtain ⟨ih0, ih1, ih2, ih3, ih4, ih5⟩ := calamuslaw15_HopAlternate.mono_l k
    refine ⟨?_, ?_, ?_, ?_, ?_, ?_⟩
    · intro y0 y1 y2
      unfold calamuslaw15_HopAlternate.j0
      repeat' first
      | (with_reducible exact ih0 _ _ _)
      | (with_reducible exact ih1 _ _ _ _ _ _)
      | (with_reducible exact ih2 _ _ _ _ _ _ _)
      | (with_reducible exact ih3 _ _ _ _ _ _ _)
      | (with_reducible exact ih4 _ _ _ _)
      | (with_reducible exact ih5 _ _ _ _ _)
      | (with_reducible exact calamuslaw15_lives.mono _)
      | (with_reducible exact hop_Go.mono _ _ _ _ _)
      | (with_reducible exact LeO.refl _)
      | (with_reducible exact LeO.none _)
      | (with_reducible refine LeO.ite ?_ ?_)
      | (with_reducible refine LeO.bind ?_ (fun _ => ?_))
      | exact ih0 _ _ _
      | exact ih1 _ _ _ _ _ _
      | exact ih2 _ _ _ _ _ _ _
      | exact ih3 _ _ _ _ _ _ _
      | exact ih4 _ _ _ _
      | exact ih5 _ _ _ _ _
      | exact calamuslaw15_lives.mono _
      | exact hop_Go.mono _ _ _ _ _
      | exact LeO.none _
      | refine LeO.ite ?_ ?_
      | refine LeO.bind ?_ (fun _ => ?_)
    · intro y0 y1 y2 y3 y4 y5
      unfold calamuslaw15_HopAlternate.l0
      repeat' first
      | (with_reducible exact ih0 _ _ _)
      | (with_reducible exact ih1 _ _ _ _ _ _)
      | (with_reducible exact ih2 _ _ _ _ _ _ _)
      | (with_reducible exact ih3 _ _ _ _ _ _ _)
      | (with_reducible exact ih4 _ _ _ _)
      | (with_reducible exact ih5 _ _ _ _ _)
      | (with_reducible exact calamuslaw15_lives.mono _)
      | (with_reducible exact hop_Go.mono _ _ _ _ _)
      | (with_reducible exact LeO.refl _)
      | (with_reducible exact LeO.none _)
      | (with_reducible refine LeO.ite ?_ ?_)
      | (with_reducible refine LeO.bind ?_ (fun _ => ?_))
      | exact ih0 _ _ _
      | exact ih1 _ _ _ _ _ _
      | exact ih2 _ _ _ _ _ _ _
      | exact ih3 _ _ _ _ _ _ _
      | exact ih4 _ _ _ _
      | exact ih5 _ _ _ _ _
      | exact calamuslaw15_lives.mono _
      | exact hop_Go.mono _ _ _ _ _
      | exact LeO.none _
      | refine LeO.ite ?_ ?_
      | refine LeO.bind ?_ (fun _ => ?_)
    · intro y0 y1 y2 y3 y4 y5 y6
      unfold calamuslaw15_HopAlternate.j2
      repeat' first
      | (with_reducible exact ih0 _ _ _)
      | (with_reducible exact ih1 _ _ _ _ _ _)
      | (with_reducible exact ih2 _ _ _ _ _ _ _)
      | (with_reducible exact ih3 _ _ _ _ _ _ _)
      | (with_reducible exact ih4 _ _ _ _)
      | (with_reducible exact ih5 _ _ _ _ _)
      | (with_reducible exact calamuslaw15_lives.mono _)
      | (with_reducible exact hop_Go.mono _ _ _ _ _)
      | (with_reducible exact LeO.refl _)
      | (with_reducible exact LeO.none _)
      | (with_reducible refine LeO.ite ?_ ?_)
      | (with_reducible refine LeO.bind ?_ (fun _ => ?_))
      | exact ih0 _ _ _
      | exact ih1 _ _ _ _ _ _
      | exact ih2 _ _ _ _ _ _ _
      | exact ih3 _ _ _ _ _ _ _
      | exact ih4 _ _ _ _
      | exact ih5 _ _ _ _ _
      | exact calamuslaw15_lives.mono _
      | exact hop_Go.mono _ _ _ _ _
      | exact LeO.none _
      | refine LeO.ite ?_ ?_
      | refine LeO.bind ?_ (fun _ => ?_)
    · intro y0 y1 y2 y3 y4 y5 y6
      unfold calamuslaw15_HopAlternate.j3
      repeat' first
      | (with_reducible exact ih0 _ _ _)
      | (with_reducible exact ih1 _ _ _ _ _ _)
      | (with_reducible exact ih2 _ _ _ _ _ _ _)
      | (with_reducible exact ih3 _ _ _ _ _ _ _)
      | (with_reducible exact ih4 _ _ _ _)
      | (with_reducible exact ih5 _ _ _ _ _)
      | (with_reducible exact calamuslaw15_lives.mono _)
      | (with_reducible exact hop_Go.mono _ _ _ _ _)
      | (with_reducible exact LeO.refl _)
      | (with_reducible exact LeO.none _)
      | (with_reducible refine LeO.ite ?_ ?_)
      | (with_reducible refine LeO.bind ?_ (fun _ => ?_))
      | exact ih0 _ _ _
      | exact ih1 _ _ _ _ _ _
      | exact ih2 _ _ _ _ _ _ _
      | exact ih3 _ _ _ _ _ _ _
      | exact ih4 _ _ _ _
      | exact ih5 _ _ _ _ _
      | exact calamuslaw15_lives.mono _
      | exact hop_Go.mono _ _ _ _ _
      | exact LeO.none _
      | refine LeO.ite ?_ ?_
      | refine LeO.bind ?_ (fun _ => ?_)
    · intro y0 y1 y2 y3
      unfold calamuslaw15_HopAlternate.j4
      repeat' first
      | (with_reducible exact ih0 _ _ _)
      | (with_reducible exact ih1 _ _ _ _ _ _)
      | (with_reducible exact ih2 _ _ _ _ _ _ _)
      | (with_reducible exact ih3 _ _ _ _ _ _ _)
      | (with_reducible exact ih4 _ _ _ _)
      | (with_reducible exact ih5 _ _ _ _ _)
      | (with_reducible exact calamuslaw15_lives.mono _)
      | (with_reducible exact hop_Go.mono _ _ _ _ _)
      | (with_reducible exact LeO.refl _)
      | (with_reducible exact LeO.none _)
      | (with_reducible refine LeO.ite ?_ ?_)
      | (with_reducible refine LeO.bind ?_ (fun _ => ?_))
      | exact ih0 _ _ _
      | exact ih1 _ _ _ _ _ _
      | exact ih2 _ _ _ _ _ _ _
      | exact ih3 _ _ _ _ _ _ _
      | exact ih4 _ _ _ _
      | exact ih5 _ _ _ _ _
      | exact calamuslaw15_lives.mono _
      | exact hop_Go.mono _ _ _ _ _
      | exact LeO.none _
      | refine LeO.ite ?_ ?_
      | refine LeO.bind ?_ (fun _ => ?_)
    · intro y0 y1 y2 y3 y4
      unfold calamuslaw15_HopAlternate.l1
      repeat' first
      | (with_reducible exact ih0 _ _ _)
      | (with_reducible exact ih1 _ _ _ _ _ _)
      | (with_reducible exact ih2 _ _ _ _ _ _ _)
      | (with_reducible exact ih3 _ _ _ _ _ _ _)
      | (with_reducible exact ih4 _ _ _ _)
      | (with_reducible exact ih5 _ _ _ _ _)
      | (with_reducible exact calamuslaw15_lives.mono _)
      | (with_reducible exact hop_Go.mono _ _ _ _ _)
      | (with_reducible exact LeO.refl _)
      | (with_reducible exact LeO.none _)
      | (with_reducible refine LeO.ite ?_ ?_)
      | (with_reducible refine LeO.bind ?_ (fun _ => ?_))
      | exact ih0 _ _ _
      | exact ih1 _ _ _ _ _ _
      | exact ih2 _ _ _ _ _ _ _
      | exact ih3 _ _ _ _ _ _ _
      | exact ih4 _ _ _ _
      | exact ih5 _ _ _ _ _
      | exact calamuslaw15_lives.mono _
      | exact hop_Go.mono _ _ _ _ _
      | exact LeO.none _
      | refine LeO.ite ?_ ?_
      | refine LeO.bind ?_ (fun _ => ?_)
theorem calamuslaw15_HopAlternate.mono : ∀ a0 a1 k, LeO (calamuslaw15_HopAlternate.f k a0 a1) (calamuslaw15_HopAlternate.f (k + 1) a0 a1) := by
  intro a0 a1 k
  obtain ⟨ih0, ih1, ih2, ih3, ih4, ih5⟩ := calamuslaw15_HopAlternate.mono_l k
  unfold calamuslaw15_HopAlternate.f
  repeat' first
      | (with_reducible exact ih0 _ _ _)
      | (with_reducible exact ih1 _ _ _ _ _ _)
      | (with_reducible exact ih2 _ _ _ _ _ _ _)
      | (with_reducible exact ih3 _ _ _ _ _ _ _)
      | (with_reducible exact ih4 _ _ _ _)
      | (with_reducible exact ih5 _ _ _ _ _)
      | (with_reducible exact calamuslaw15_lives.mono _)
      | (with_reducible exact hop_Go.mono _ _ _ _ _)
      | (with_reducible exact LeO.refl _)
      | (with_reducible exact LeO.none _)
      | (with_reducible refine LeO.ite ?_ ?_)
      | (with_reducible refine LeO.bind ?_ (fun _ => ?_))
      | exact ih0 _ _ _
      | exact ih1 _ _ _ _ _ _
      | exact ih2 _ _ _ _ _ _ _
      | exact ih3 _ _ _ _ _ _ _
      | exact ih4 _ _ _ _
      | exact ih5 _ _ _ _ _
      | exact calamuslaw15_lives.mono _
      | exact hop_Go.mono _ _ _ _ _
      | exact LeO.none _
      | refine LeO.ite ?_ ?_
      | refine LeO.bind ?_ (fun _ => ?_)
set_option maxHeartbeats 8000000 in
set_option maxRecDepth 100000 in
theorem calamuslaw15_HopAlternate.calls (k : Nat) (a0 : ByteArray) (a1 : Bool) (r : Bool) (w : World) (h : calamuslaw15_HopAlternate.f k a0 a1 = some r) :
    Calls Try.prog 13 #[.string a0, .bool a1] w fun e w' => e = .returned (.bool r) ∧ Below w.heap.size w w' := by
  have HB := Aside0.mk (Below.refl w.heap.size w)
  have H : (if (a0.size : Int) > 300 then (calamuslaw15_HopAlternate.j0 k a0 a1 true) else ((utf_Valid.f a0).bind fun t143 => (calamuslaw15_HopAlternate.j0 k a0 a1 (!t143)))) = some r := h
  clear h
  have HC3 := Aside0.mk H
  clear H
  go_enter Try.func13, Try.ntmps13
  go_upto_region 1 with (fail)
  repeat (go_quiet (fail); go_upto_region 1 with (fail))
  go_cut [24] (fun v24 wc => ∃ (kq : Nat) (x24_2 : Bool), v24 = .bool x24_2 ∧ Aside0 (calamuslaw15_HopAlternate.j0 kq a0 a1 x24_2 = some r) ∧ Aside0 (kq ≤ k) ∧ Aside0 (Below w.heap.size w wc))
  case first => as_aux_lemma =>
    have H := HC3.out
    clear HC3
    by_cases c4 : (a0.size : Int) > 300
    · rw [if_pos c4] at H
      have c4b0 : decide (300 < (a0.size : Int)) = true := decide_eq_true c4
      have c4b1 : decide (300 < a0.size) = true := decide_eq_true (by omega)
      clear c4
      (first | rw [c4b0] | (simp only [i64_w, i32_w]; rw [c4b0]) | skip)
      have H' := Aside0.mk H
      clear H
      go_wp2
      repeat (go_quiet (fail); try go_wp2)
      go_meet
      case rel => exact ⟨_, (true), (by first | rfl | (simp; done) | (simp [*]; done)), H', ⟨by first | omega | exact Nat.le_refl _⟩, ⟨by repeat (first | (with_reducible first | exact HB.out | apply below_alloc | apply pw_below_drewN | apply below_drew1) | exact HB.out)⟩⟩
    · rw [if_neg c4] at H
      have c4b0 : decide (300 < (a0.size : Int)) = false := decide_eq_false c4
      have c4b1 : decide (300 < a0.size) = false := decide_eq_false (by omega)
      clear c4
      (first | rw [c4b0] | (simp only [i64_w, i32_w]; rw [c4b0]) | skip)
      replace H := Option.bind_eq_some_iff.mp H
      obtain ⟨t143, A50, H⟩ := H
      replace H : (calamuslaw15_HopAlternate.j0 k a0 a1 (!t143)) = some r := H
      have A5 := Aside0.mk A50
      clear A50
      have H' := Aside0.mk H
      clear H
      go_wp2_with (first | (go_at_call 45; (with_reducible refine (utf_Valid.calls a0 t143 _ A5.out).mono ?_); rintro e w6 ⟨rfl, hb⟩; have n0_ := Aside0.mk (below_step (by repeat (first | (with_reducible first | exact HB.out | apply below_alloc | apply pw_below_drewN | apply below_drew1) | exact HB.out)) hb); clear HB; have HB := n0_; clear n0_; (try clear hb); (try clear hb2); (try clear hk); (try clear hi)))
      repeat (go_quiet (fail); try go_wp2_with (first | (go_at_call 45; (with_reducible refine (utf_Valid.calls a0 t143 _ A5.out).mono ?_); rintro e w6 ⟨rfl, hb⟩; have n0_ := Aside0.mk (below_step (by repeat (first | (with_reducible first | exact HB.out | apply below_alloc | apply pw_below_drewN | apply below_drew1) | exact HB.out)) hb); clear HB; have HB := n0_; clear n0_; (try clear hb); (try clear hb2); (try clear hk); (try clear hi))))
      go_meet
      case rel => exact ⟨_, (!t143), (by first | rfl | (simp; done) | (simp [*]; done)), H', ⟨by first | omega | exact Nat.le_refl _⟩, ⟨by repeat (first | (with_reducible first | exact HB.out | apply below_alloc | apply pw_below_drewN | apply below_drew1) | exact HB.out)⟩⟩
  case rest => as_aux_lemma =>
    clear HC3
    try clear c1
    try clear p2
    try clear c4
    try clear c4b0
    try clear c4b1
    obtain ⟨kq, x24_2, rfl, HA, HJ2, HB⟩ := hcut
    cases kq with
    | zero => exact absurd HA.out (by simp [calamuslaw15_HopAlternate.j0])
    | succ kj2 =>
      have H := HA.out
      clear HA
      simp only [calamuslaw15_HopAlternate.j0] at H
      by_cases c7 : x24_2 = true
      · subst c7
        have H1 : ((calamuslaw15_lives.f kj2).bind fun t144 => (some t144)) = some r := by rw [if_pos rfl] at H; exact H
        clear H
        have H := H1
        clear H1
        replace H := Option.bind_eq_some_iff.mp H
        obtain ⟨t144, A80, H⟩ := H
        replace H : (some t144) = some r := H
        have A8 := Aside0.mk A80
        clear A80
        obtain rfl := Option.some.inj H
        go_wp2_with (first | (go_at_call 36; (with_reducible refine (calamuslaw15_lives.calls kj2  t144 _ A8.out).mono ?_); rintro e w9 ⟨rfl, hb⟩; have n0_ := Aside0.mk (below_step (by repeat (first | (with_reducible first | exact HB.out | apply below_alloc | apply pw_below_drewN | apply below_drew1) | exact HB.out)) hb); clear HB; have HB := n0_; clear n0_; (try clear hb); (try clear hb2); (try clear hk); (try clear hi)))
        repeat (go_quiet (fail); try go_wp2_with (first | (go_at_call 36; (with_reducible refine (calamuslaw15_lives.calls kj2  t144 _ A8.out).mono ?_); rintro e w9 ⟨rfl, hb⟩; have n0_ := Aside0.mk (below_step (by repeat (first | (with_reducible first | exact HB.out | apply below_alloc | apply pw_below_drewN | apply below_drew1) | exact HB.out)) hb); clear HB; have HB := n0_; clear n0_; (try clear hb); (try clear hb2); (try clear hk); (try clear hi))))
        go_ret
        exact ⟨by first | rfl | (simp [errW_none, errW_some] <;> rfl) | (simp [*, errW_none, errW_some] <;> rfl), by repeat (first | (with_reducible first | exact HB.out | apply below_alloc | apply pw_below_drewN | apply below_drew1) | exact HB.out)⟩
      · replace c7 := Bool.eq_false_iff.mpr c7
        subst c7
        have H1 : ((hop_Starts.f a0 a1).bind fun t145 => ((hop_Ends.f a0 a1).bind fun t148 => (calamuslaw15_HopAlternate.l0 kj2 a0 a1 t145 t148 0 0))) = some r := by rw [if_neg (show ¬ (false = true) by decide)] at H; exact H
        clear H
        have H := H1
        clear H1
        replace H := Option.bind_eq_some_iff.mp H
        obtain ⟨t145, A100, H⟩ := H
        replace H : ((hop_Ends.f a0 a1).bind fun t148 => (calamuslaw15_HopAlternate.l0 kj2 a0 a1 t145 t148 0 0)) = some r := H
        have A10 := Aside0.mk A100
        clear A100
        replace H := Option.bind_eq_some_iff.mp H
        obtain ⟨t148, A110, H⟩ := H
        replace H : (calamuslaw15_HopAlternate.l0 kj2 a0 a1 t145 t148 0 0) = some r := H
        have A11 := Aside0.mk A110
        clear A110
        have H' := Aside0.mk H
        clear H
        go_wp2_with (first | (go_at_call 37; (with_reducible refine (hop_Starts.calls a0 a1 t145 _ A10.out).mono ?_); rintro e w12 ⟨v146, rfl, ho0, hb⟩; have n0_ := Aside0.mk (Kd.R_lower ho0 (below_size (by repeat (first | (with_reducible first | exact HB.out | apply below_alloc | apply pw_below_drewN | apply below_drew1) | exact HB.out)))); have n1_ := Aside0.mk (below_step (by repeat (first | (with_reducible first | exact HB.out | apply below_alloc | apply pw_below_drewN | apply below_drew1) | exact HB.out)) hb); clear HB; have HO147 := n0_; have HB := n1_; clear n0_ n1_; (try clear hb); (try clear hb2); (try clear hk); (try clear hi); (try clear ho0)) | (go_at_call 39; (with_reducible refine (hop_Ends.calls a0 a1 t148 _ A11.out).mono ?_); rintro e w13 ⟨v149, rfl, ho0, hb⟩; have n0_ := Aside0.mk (Kd.R_elder' (by (with_reducible repeat (first | apply Kd.R_alloc | apply Kd.R_drewN | apply Kd.R_drew)); exact HO147.out) (Kd.R_base ho0) hb); have n1_ := Aside0.mk (Kd.R_lower (Kd.R_new' ho0 (Kd.R_lt (by (with_reducible repeat (first | apply Kd.R_alloc | apply Kd.R_drewN | apply Kd.R_drew)); exact HO147.out))) (below_size (by repeat (first | (with_reducible first | exact HB.out | apply below_alloc | apply pw_below_drewN | apply below_drew1) | exact HB.out)))); have n2_ := Aside0.mk (below_step (by repeat (first | (with_reducible first | exact HB.out | apply below_alloc | apply pw_below_drewN | apply below_drew1) | exact HB.out)) hb); clear HO147; clear HB; have HO147 := n0_; have HO150 := n1_; have HB := n2_; clear n0_ n1_ n2_; (try clear hb); (try clear hb2); (try clear hk); (try clear hi); (try clear ho0)))
        repeat (go_quiet (fail); try go_wp2_with (first | (go_at_call 37; (with_reducible refine (hop_Starts.calls a0 a1 t145 _ A10.out).mono ?_); rintro e w12 ⟨v146, rfl, ho0, hb⟩; have n0_ := Aside0.mk (Kd.R_lower ho0 (below_size (by repeat (first | (with_reducible first | exact HB.out | apply below_alloc | apply pw_below_drewN | apply below_drew1) | exact HB.out)))); have n1_ := Aside0.mk (below_step (by repeat (first | (with_reducible first | exact HB.out | apply below_alloc | apply pw_below_drewN | apply below_drew1) | exact HB.out)) hb); clear HB; have HO147 := n0_; have HB := n1_; clear n0_ n1_; (try clear hb); (try clear hb2); (try clear hk); (try clear hi); (try clear ho0)) | (go_at_call 39; (with_reducible refine (hop_Ends.calls a0 a1 t148 _ A11.out).mono ?_); rintro e w13 ⟨v149, rfl, ho0, hb⟩; have n0_ := Aside0.mk (Kd.R_elder' (by (with_reducible repeat (first | apply Kd.R_alloc | apply Kd.R_drewN | apply Kd.R_drew)); exact HO147.out) (Kd.R_base ho0) hb); have n1_ := Aside0.mk (Kd.R_lower (Kd.R_new' ho0 (Kd.R_lt (by (with_reducible repeat (first | apply Kd.R_alloc | apply Kd.R_drewN | apply Kd.R_drew)); exact HO147.out))) (below_size (by repeat (first | (with_reducible first | exact HB.out | apply below_alloc | apply pw_below_drewN | apply below_drew1) | exact HB.out)))); have n2_ := Aside0.mk (below_step (by repeat (first | (with_reducible first | exact HB.out | apply below_alloc | apply pw_below_drewN | apply below_drew1) | exact HB.out)) hb); clear HO147; clear HB; have HO147 := n0_; have HO150 := n1_; have HB := n2_; clear n0_ n1_ n2_; (try clear hb); (try clear hb2); (try clear hk); (try clear hi); (try clear ho0))))
        go_loopg [7, 8] kj2 (fun kq v7 v8 w' => ∃ (x7_2 : Int) (x8_2 : Int), v7 = .int .i64 x7_2 ∧ v8 = .int .i64 x8_2 ∧ Aside0 (calamuslaw15_HopAlternate.l0 kq a0 a1 t145 t148 x7_2 x8_2 = some r) ∧ Aside0 (kq ≤ kj2) ∧ Aside0 (Kd.R (Kd.int .i64) 3 w' w.heap.size (fun k_ => some k_ ≠ (v149 : Value).ownBlock) v146 t145) ∧ Aside0 (Kd.R (Kd.int .i64) 3 w' w.heap.size (fun k_ => some k_ ≠ (v146 : Value).ownBlock) v149 t148) ∧ Aside0 (Below w.heap.size w w'))
        case atStart => exact ⟨(0), (0), (by first | rfl | (simp; done) | (simp [*]; done)), (by first | rfl | (simp; done) | (simp [*]; done)), H', ⟨Nat.le_refl _⟩, ⟨by (with_reducible repeat (first | apply Kd.R_alloc | apply Kd.R_drewN | apply Kd.R_drew)); exact Kd.R_mono HO147.out (fun _ hk => hk.2)⟩, ⟨by (with_reducible repeat (first | apply Kd.R_alloc | apply Kd.R_drewN | apply Kd.R_drew)); exact Kd.R_mono HO150.out (fun _ hk => hk.2)⟩, ⟨by repeat (first | (with_reducible first | exact HB.out | apply below_alloc | apply pw_below_drewN | apply below_drew1) | exact HB.out)⟩⟩
        case round => as_aux_lemma =>
          clear H'
          try clear c1
          try clear p2
          try clear c4
          try clear c4b0
          try clear c4b1
          try clear c7
          try clear c13
          try clear p2
          obtain ⟨x7_2, x8_2, rfl, rfl, HA, HK2, HO_5, HO_6, HB⟩ := hrel
          cases gk with
          | zero => exact absurd HA.out (by simp [calamuslaw15_HopAlternate.l0])
          | succ k2 =>
            have H := HA.out
            clear HA
            simp only [calamuslaw15_HopAlternate.l0] at H
            by_cases c14 : x8_2 < (t145.length : Int)
            · rw [if_pos c14] at H
              have c14b0 : decide (x8_2 < (t145.length : Int)) = true := decide_eq_true c14
              clear c14
              have HC15 := Aside0.mk H
              clear H
              obtain ⟨Ao16, co16, eo16⟩ := Kd.R_slice HO_5.out
              subst eo16
              go_upto_region 8 with (fail)
              repeat (go_quiet (fail); go_upto_region 8 with (fail))
              go_cut [67] (fun v67 wc => ∃ (kq : Nat) (x67_14 : Bool), v67 = .bool x67_14 ∧ Aside0 (calamuslaw15_HopAlternate.j2 kq a0 a1 t145 t148 x7_2 x8_2 x67_14 = some r) ∧ Aside0 (kq ≤ k2) ∧ Aside0 (Kd.R (Kd.int .i64) 3 wc w.heap.size (fun k_ => some k_ ≠ (v149 : Value).ownBlock) (.slice Ao16 t145.length co16) t145) ∧ Aside0 (Kd.R (Kd.int .i64) 3 wc w.heap.size (fun k_ => some k_ ≠ ((.slice Ao16 t145.length co16) : Value).ownBlock) v149 t148) ∧ Aside0 (Below w.heap.size w wc))
              case first => as_aux_lemma =>
                have H := HC15.out
                clear HC15
                by_cases c17 : x8_2 > 0
                · rw [if_pos c17] at H
                  have c17b0 : decide (0 < x8_2) = true := decide_eq_true c17
                  clear c17
                  (first | rw [c17b0] | (simp only [i64_w, i32_w]; rw [c17b0]) | skip)
                  by_cases c18 : 0 ≤ x8_2
                  · rw [if_pos c18] at H
                    have c18b0 : decide (0 ≤ x8_2) = true := decide_eq_true c18
                    clear c18
                    obtain ⟨ji19, hji19⟩ : ∃ j_ : Int, (wrap64 (x8_2 - 1)) = j_ := ⟨_, rfl⟩
                    replace H : (if 0 ≤ (ji19) then (if (ji19) < (t145.length : Int) then (if (rd t145 x8_2) ≤ (rd t145 (ji19)) then (calamuslaw15_HopAlternate.j2 k2 a0 a1 t145 t148 x7_2 x8_2 true) else (if (rd t145 x8_2) < 0 then (calamuslaw15_HopAlternate.j2 k2 a0 a1 t145 t148 x7_2 x8_2 true) else (calamuslaw15_HopAlternate.j2 k2 a0 a1 t145 t148 x7_2 x8_2 (decide ((rd t145 x8_2) > (a0.size : Int)))))) else (none)) else (none)) = some r := by first | (rw [hji19] at H; exact H) | (simp only [hji19] at H ⊢; exact H)
                    have hji19w : (IntKind.i64.wrap (x8_2 - 1)) = ji19 := (i64_w _).trans hji19
                    by_cases c20 : 0 ≤ (ji19)
                    · rw [if_pos c20] at H
                      have c20b0 : decide (0 ≤ (ji19)) = true := decide_eq_true c20
                      clear c20
                      by_cases c21 : (ji19) < (t145.length : Int)
                      · rw [if_pos c21] at H
                        have c21b0 : decide ((ji19) < (t145.length : Int)) = true := decide_eq_true c21
                        clear c21
                        by_cases c22 : (rd t145 x8_2) ≤ (rd t145 (ji19))
                        · rw [if_pos c22] at H
                          have c22b0 : decide ((rd t145 x8_2) ≤ (rd t145 (ji19))) = true := decide_eq_true c22
                          clear c22
                          have H' := Aside0.mk H
                          clear H
                          have p151 : 0 ≤ (x8_2 : Int) := of_decide_eq_true (by first | (with_reducible assumption) | assumption)
                          have q151 : x8_2 < (t145.length : Int) := of_decide_eq_true (by first | (with_reducible assumption) | assumption)
                          obtain ⟨ad151, e151, hx151_0⟩ := Kd.at_int (Kd.R_reads' HO_5.out).2.2 x8_2 p151 q151
                          cases e151
                          replace p151 := eq_true p151
                          replace q151 := eq_true q151
                          have p152 : 0 ≤ ((ji19) : Int) := of_decide_eq_true (by first | (with_reducible assumption) | assumption)
                          have q152 : (ji19) < (t145.length : Int) := of_decide_eq_true (by first | (with_reducible assumption) | assumption)
                          obtain ⟨ad152, e152, hx152_0⟩ := Kd.at_int (Kd.R_reads' HO_5.out).2.2 (ji19) p152 q152
                          obtain rfl : ad151 = ad152 := (by injection e152)
                          replace p152 := eq_true p152
                          replace q152 := eq_true q152
                          go_wp2
                          repeat (go_quiet (fail); try go_wp2)
                          go_meet
                          case rel => exact ⟨_, (true), (by first | rfl | (simp; done) | (simp [*]; done)), H', ⟨by have := HJ2.out; have := HK2.out; first | omega | exact Nat.le_refl _⟩, ⟨by (with_reducible repeat (first | apply Kd.R_alloc | apply Kd.R_drewN | apply Kd.R_drew)); exact HO_5.out⟩, ⟨by (with_reducible repeat (first | apply Kd.R_alloc | apply Kd.R_drewN | apply Kd.R_drew)); exact HO_6.out⟩, ⟨by repeat (first | (with_reducible first | exact HB.out | apply below_alloc | apply pw_below_drewN | apply below_drew1) | exact HB.out)⟩⟩
                        · rw [if_neg c22] at H
                          have c22b0 : decide ((rd t145 x8_2) ≤ (rd t145 (ji19))) = false := decide_eq_false c22
                          clear c22
                          by_cases c23 : (rd t145 x8_2) < 0
                          · rw [if_pos c23] at H
                            have c23b0 : decide ((rd t145 x8_2) < 0) = true := decide_eq_true c23
                            clear c23
                            have H' := Aside0.mk H
                            clear H
                            have p151 : 0 ≤ (x8_2 : Int) := of_decide_eq_true (by first | (with_reducible assumption) | assumption)
                            have q151 : x8_2 < (t145.length : Int) := of_decide_eq_true (by first | (with_reducible assumption) | assumption)
                            obtain ⟨ad151, e151, hx151_0⟩ := Kd.at_int (Kd.R_reads' HO_5.out).2.2 x8_2 p151 q151
                            cases e151
                            replace p151 := eq_true p151
                            replace q151 := eq_true q151
                            have p152 : 0 ≤ ((ji19) : Int) := of_decide_eq_true (by first | (with_reducible assumption) | assumption)
                            have q152 : (ji19) < (t145.length : Int) := of_decide_eq_true (by first | (with_reducible assumption) | assumption)
                            obtain ⟨ad152, e152, hx152_0⟩ := Kd.at_int (Kd.R_reads' HO_5.out).2.2 (ji19) p152 q152
                            obtain rfl : ad151 = ad152 := (by injection e152)
                            replace p152 := eq_true p152
                            replace q152 := eq_true q152
                            have p153 : 0 ≤ (x8_2 : Int) := of_decide_eq_true (by first | (with_reducible assumption) | assumption)
                            have q153 : x8_2 < (t145.length : Int) := of_decide_eq_true (by first | (with_reducible assumption) | assumption)
                            obtain ⟨ad153, e153, hx153_0⟩ := Kd.at_int (Kd.R_reads' HO_5.out).2.2 x8_2 p153 q153
                            obtain rfl : ad151 = ad153 := (by injection e153)
                            replace p153 := eq_true p153
                            replace q153 := eq_true q153
                            go_wp2
                            repeat (go_quiet (fail); try go_wp2)
                            go_meet
                            case rel => exact ⟨_, (true), (by first | rfl | (simp; done) | (simp [*]; done)), H', ⟨by have := HJ2.out; have := HK2.out; first | omega | exact Nat.le_refl _⟩, ⟨by (with_reducible repeat (first | apply Kd.R_alloc | apply Kd.R_drewN | apply Kd.R_drew)); exact HO_5.out⟩, ⟨by (with_reducible repeat (first | apply Kd.R_alloc | apply Kd.R_drewN | apply Kd.R_drew)); exact HO_6.out⟩, ⟨by repeat (first | (with_reducible first | exact HB.out | apply below_alloc | apply pw_below_drewN | apply below_drew1) | exact HB.out)⟩⟩
                          · rw [if_neg c23] at H
                            have c23b0 : decide ((rd t145 x8_2) < 0) = false := decide_eq_false c23
                            clear c23
                            have H' := Aside0.mk H
                            clear H
                            have p151 : 0 ≤ (x8_2 : Int) := of_decide_eq_true (by first | (with_reducible assumption) | assumption)
                            have q151 : x8_2 < (t145.length : Int) := of_decide_eq_true (by first | (with_reducible assumption) | assumption)
                            obtain ⟨ad151, e151, hx151_0⟩ := Kd.at_int (Kd.R_reads' HO_5.out).2.2 x8_2 p151 q151
                            cases e151
                            replace p151 := eq_true p151
                            replace q151 := eq_true q151
                            have p152 : 0 ≤ ((ji19) : Int) := of_decide_eq_true (by first | (with_reducible assumption) | assumption)
                            have q152 : (ji19) < (t145.length : Int) := of_decide_eq_true (by first | (with_reducible assumption) | assumption)
                            obtain ⟨ad152, e152, hx152_0⟩ := Kd.at_int (Kd.R_reads' HO_5.out).2.2 (ji19) p152 q152
                            obtain rfl : ad151 = ad152 := (by injection e152)
                            replace p152 := eq_true p152
                            replace q152 := eq_true q152
                            have p153 : 0 ≤ (x8_2 : Int) := of_decide_eq_true (by first | (with_reducible assumption) | assumption)
                            have q153 : x8_2 < (t145.length : Int) := of_decide_eq_true (by first | (with_reducible assumption) | assumption)
                            obtain ⟨ad153, e153, hx153_0⟩ := Kd.at_int (Kd.R_reads' HO_5.out).2.2 x8_2 p153 q153
                            obtain rfl : ad151 = ad153 := (by injection e153)
                            replace p153 := eq_true p153
                            replace q153 := eq_true q153
                            have p154 : 0 ≤ (x8_2 : Int) := of_decide_eq_true (by first | (with_reducible assumption) | assumption)
                            have q154 : x8_2 < (t145.length : Int) := of_decide_eq_true (by first | (with_reducible assumption) | assumption)
                            obtain ⟨ad154, e154, hx154_0⟩ := Kd.at_int (Kd.R_reads' HO_5.out).2.2 x8_2 p154 q154
                            obtain rfl : ad151 = ad154 := (by injection e154)
                            replace p154 := eq_true p154
                            replace q154 := eq_true q154
                            go_wp2
                            repeat (go_quiet (fail); try go_wp2)
                            go_meet
                            case rel => exact ⟨_, (decide ((rd t145 x8_2) > (a0.size : Int))), (by first | rfl | (simp; done) | (simp [*]; done)), H', ⟨by have := HJ2.out; have := HK2.out; first | omega | exact Nat.le_refl _⟩, ⟨by (with_reducible repeat (first | apply Kd.R_alloc | apply Kd.R_drewN | apply Kd.R_drew)); exact HO_5.out⟩, ⟨by (with_reducible repeat (first | apply Kd.R_alloc | apply Kd.R_drewN | apply Kd.R_drew)); exact HO_6.out⟩, ⟨by repeat (first | (with_reducible first | exact HB.out | apply below_alloc | apply pw_below_drewN | apply below_drew1) | exact HB.out)⟩⟩
                      · rw [if_neg c21] at H
                        exact absurd H (by simp)
                    · rw [if_neg c20] at H
                      exact absurd H (by simp)
                  · rw [if_neg c18] at H
                    exact absurd H (by simp)
                · rw [if_neg c17] at H
                  have c17b0 : decide (0 < x8_2) = false := decide_eq_false c17
                  clear c17
                  (first | rw [c17b0] | (simp only [i64_w, i32_w]; rw [c17b0]) | skip)
                  by_cases c24 : 0 ≤ x8_2
                  · rw [if_pos c24] at H
                    have c24b0 : decide (0 ≤ x8_2) = true := decide_eq_true c24
                    clear c24
                    by_cases c25 : (rd t145 x8_2) < 0
                    · rw [if_pos c25] at H
                      have c25b0 : decide ((rd t145 x8_2) < 0) = true := decide_eq_true c25
                      clear c25
                      have H' := Aside0.mk H
                      clear H
                      have p155 : 0 ≤ (x8_2 : Int) := of_decide_eq_true (by first | (with_reducible assumption) | assumption)
                      have q155 : x8_2 < (t145.length : Int) := of_decide_eq_true (by first | (with_reducible assumption) | assumption)
                      obtain ⟨ad155, e155, hx155_0⟩ := Kd.at_int (Kd.R_reads' HO_5.out).2.2 x8_2 p155 q155
                      cases e155
                      replace p155 := eq_true p155
                      replace q155 := eq_true q155
                      go_wp2
                      repeat (go_quiet (fail); try go_wp2)
                      go_meet
                      case rel => exact ⟨_, (true), (by first | rfl | (simp; done) | (simp [*]; done)), H', ⟨by have := HJ2.out; have := HK2.out; first | omega | exact Nat.le_refl _⟩, ⟨by (with_reducible repeat (first | apply Kd.R_alloc | apply Kd.R_drewN | apply Kd.R_drew)); exact HO_5.out⟩, ⟨by (with_reducible repeat (first | apply Kd.R_alloc | apply Kd.R_drewN | apply Kd.R_drew)); exact HO_6.out⟩, ⟨by repeat (first | (with_reducible first | exact HB.out | apply below_alloc | apply pw_below_drewN | apply below_drew1) | exact HB.out)⟩⟩
                    · rw [if_neg c25] at H
                      have c25b0 : decide ((rd t145 x8_2) < 0) = false := decide_eq_false c25
                      clear c25
                      have H' := Aside0.mk H
                      clear H
                      have p155 : 0 ≤ (x8_2 : Int) := of_decide_eq_true (by first | (with_reducible assumption) | assumption)
                      have q155 : x8_2 < (t145.length : Int) := of_decide_eq_true (by first | (with_reducible assumption) | assumption)
                      obtain ⟨ad155, e155, hx155_0⟩ := Kd.at_int (Kd.R_reads' HO_5.out).2.2 x8_2 p155 q155
                      cases e155
                      replace p155 := eq_true p155
                      replace q155 := eq_true q155
                      have p156 : 0 ≤ (x8_2 : Int) := of_decide_eq_true (by first | (with_reducible assumption) | assumption)
                      have q156 : x8_2 < (t145.length : Int) := of_decide_eq_true (by first | (with_reducible assumption) | assumption)
                      obtain ⟨ad156, e156, hx156_0⟩ := Kd.at_int (Kd.R_reads' HO_5.out).2.2 x8_2 p156 q156
                      obtain rfl : ad155 = ad156 := (by injection e156)
                      replace p156 := eq_true p156
                      replace q156 := eq_true q156
                      go_wp2
                      repeat (go_quiet (fail); try go_wp2)
                      go_meet
                      case rel => exact ⟨_, (decide ((rd t145 x8_2) > (a0.size : Int))), (by first | rfl | (simp; done) | (simp [*]; done)), H', ⟨by have := HJ2.out; have := HK2.out; first | omega | exact Nat.le_refl _⟩, ⟨by (with_reducible repeat (first | apply Kd.R_alloc | apply Kd.R_drewN | apply Kd.R_drew)); exact HO_5.out⟩, ⟨by (with_reducible repeat (first | apply Kd.R_alloc | apply Kd.R_drewN | apply Kd.R_drew)); exact HO_6.out⟩, ⟨by repeat (first | (with_reducible first | exact HB.out | apply below_alloc | apply pw_below_drewN | apply below_drew1) | exact HB.out)⟩⟩
                  · rw [if_neg c24] at H
                    exact absurd H (by simp)
              case rest => as_aux_lemma =>
                clear HC15
                try clear c1
                try clear p1
                try clear q1
                try clear hx1
                try clear c2
                try clear p2
                try clear c4
                try clear c4b0
                try clear c4b1
                try clear p6
                try clear c7
                try clear c13
                try clear c14
                try clear c14b0
                try clear p15
                try clear q15
                try clear hx15
                try clear c17
                try clear c17b0
                try clear c18
                try clear c18b0
                try clear c20
                try clear c20b0
                try clear c21
                try clear c21b0
                try clear c22
                try clear c22b0
                try clear c23
                try clear c23b0
                try clear c24
                try clear c24b0
                try clear c25
                try clear c25b0
                try clear hx151_0
                try clear hx152_0
                try clear hx153_0
                try clear hx154_0
                try clear hx155_0
                try clear hx156_0
                try clear p151
                try clear p152
                try clear p153
                try clear p154
                try clear p155
                try clear p156
                try clear p2
                try clear q151
                try clear q152
                try clear q153
                try clear q154
                try clear q155
                try clear q156
                obtain ⟨kq, x67_14, rfl, HA, HJ14, HO_5, HO_6, HB⟩ := hcut
                cases kq with
                | zero => exact absurd HA.out (by simp [calamuslaw15_HopAlternate.j2])
                | succ kj14 =>
                  have H := HA.out
                  clear HA
                  simp only [calamuslaw15_HopAlternate.j2] at H
                  by_cases c26 : x67_14 = true
                  · subst c26
                    have H1 : (some false) = some r := by rw [if_pos rfl] at H; exact H
                    clear H
                    have H := H1
                    clear H1
                    obtain rfl := Option.some.inj H
                    go_wp2
                    repeat (go_quiet (fail); try go_wp2)
                    go_ret
                    exact ⟨by first | rfl | (simp [errW_none, errW_some] <;> rfl) | (simp [*, errW_none, errW_some] <;> rfl), by repeat (first | (with_reducible first | exact HB.out | apply below_alloc | apply pw_below_drewN | apply below_drew1) | exact HB.out)⟩
                  · replace c26 := Bool.eq_false_iff.mpr c26
                    subst c26
                    have H1 : (if 0 ≤ x8_2 then (if x8_2 < (t145.length : Int) then (if (rd t145 x8_2) = 0 then (if (rd t145 x8_2) = (a0.size : Int) then (calamuslaw15_HopAlternate.j3 kj14 a0 a1 t145 t148 x7_2 x8_2 true) else (if 0 ≤ (rd t145 x8_2) then (if (rd t145 x8_2) < (a0.size : Int) then (calamuslaw15_HopAlternate.j3 kj14 a0 a1 t145 t148 x7_2 x8_2 ((bt a0 (rd t145 x8_2)) == 10)) else (none)) else (none))) else (if 0 ≤ (wrap64 ((rd t145 x8_2) - 1)) then (if (wrap64 ((rd t145 x8_2) - 1)) < (a0.size : Int) then (if (bt a0 (wrap64 ((rd t145 x8_2) - 1))) = 10 then (if (rd t145 x8_2) = (a0.size : Int) then (calamuslaw15_HopAlternate.j3 kj14 a0 a1 t145 t148 x7_2 x8_2 true) else (if 0 ≤ (rd t145 x8_2) then (if (rd t145 x8_2) < (a0.size : Int) then (calamuslaw15_HopAlternate.j3 kj14 a0 a1 t145 t148 x7_2 x8_2 ((bt a0 (rd t145 x8_2)) == 10)) else (none)) else (none))) else (calamuslaw15_HopAlternate.j3 kj14 a0 a1 t145 t148 x7_2 x8_2 false)) else (none)) else (none))) else (none)) else (none)) = some r := by rw [if_neg (show ¬ (false = true) by decide)] at H; exact H
                    clear H
                    have H := H1
                    clear H1
                    have HC27 := Aside0.mk H
                    clear H
                    go_upto_region 10 with (fail)
                    repeat (go_quiet (fail); go_upto_region 10 with (fail))
                    go_cut [9] (fun v9 wc => ∃ (kq : Nat) (x9_26 : Bool), v9 = .bool x9_26 ∧ Aside0 (calamuslaw15_HopAlternate.j3 kq a0 a1 t145 t148 x7_2 x8_2 x9_26 = some r) ∧ Aside0 (kq ≤ kj14) ∧ Aside0 (Kd.R (Kd.int .i64) 3 wc w.heap.size (fun k_ => some k_ ≠ (v149 : Value).ownBlock) (.slice Ao16 t145.length co16) t145) ∧ Aside0 (Kd.R (Kd.int .i64) 3 wc w.heap.size (fun k_ => some k_ ≠ ((.slice Ao16 t145.length co16) : Value).ownBlock) v149 t148) ∧ Aside0 (Below w.heap.size w wc))
                    case first => as_aux_lemma =>
                      have H := HC27.out
                      clear HC27
                      by_cases c28 : 0 ≤ x8_2
                      · rw [if_pos c28] at H
                        have c28b0 : decide (0 ≤ x8_2) = true := decide_eq_true c28
                        clear c28
                        (first | rw [c28b0] | (simp only [i64_w, i32_w]; rw [c28b0]) | skip)
                        by_cases c29 : x8_2 < (t145.length : Int)
                        · rw [if_pos c29] at H
                          have c29b0 : decide (x8_2 < (t145.length : Int)) = true := decide_eq_true c29
                          clear c29
                          by_cases c30 : (rd t145 x8_2) = 0
                          · rw [if_pos c30] at H
                            have c30b0 : ((rd t145 x8_2) == 0) = true := beq_iff_eq.mpr c30
                            have c30b1 : ((rd t145 x8_2) != 0) = false := bne_eq_false_iff_eq.mpr c30
                            clear c30
                            by_cases c31 : (rd t145 x8_2) = (a0.size : Int)
                            · rw [if_pos c31] at H
                              have c31b0 : ((rd t145 x8_2) == (a0.size : Int)) = true := beq_iff_eq.mpr c31
                              have c31b1 : ((rd t145 x8_2) != (a0.size : Int)) = false := bne_eq_false_iff_eq.mpr c31
                              clear c31
                              have H' := Aside0.mk H
                              clear H
                              have p157 : 0 ≤ (x8_2 : Int) := of_decide_eq_true (by first | (with_reducible assumption) | assumption)
                              have q157 : x8_2 < (t145.length : Int) := of_decide_eq_true (by first | (with_reducible assumption) | assumption)
                              obtain ⟨ad157, e157, hx157_0⟩ := Kd.at_int (Kd.R_reads' HO_5.out).2.2 x8_2 p157 q157
                              cases e157
                              replace p157 := eq_true p157
                              replace q157 := eq_true q157
                              have p158 : 0 ≤ (x8_2 : Int) := of_decide_eq_true (by first | (with_reducible assumption) | assumption)
                              have q158 : x8_2 < (t145.length : Int) := of_decide_eq_true (by first | (with_reducible assumption) | assumption)
                              obtain ⟨ad158, e158, hx158_0⟩ := Kd.at_int (Kd.R_reads' HO_5.out).2.2 x8_2 p158 q158
                              obtain rfl : ad157 = ad158 := (by injection e158)
                              replace p158 := eq_true p158
                              replace q158 := eq_true q158
                              go_wp2
                              repeat (go_quiet (fail); try go_wp2)
                              go_meet
                              case rel => exact ⟨_, (true), (by first | rfl | (simp; done) | (simp [*]; done)), H', ⟨by have := HJ2.out; have := HK2.out; have := HJ14.out; first | omega | exact Nat.le_refl _⟩, ⟨by (with_reducible repeat (first | apply Kd.R_alloc | apply Kd.R_drewN | apply Kd.R_drew)); exact HO_5.out⟩, ⟨by (with_reducible repeat (first | apply Kd.R_alloc | apply Kd.R_drewN | apply Kd.R_drew)); exact HO_6.out⟩, ⟨by repeat (first | (with_reducible first | exact HB.out | apply below_alloc | apply pw_below_drewN | apply below_drew1) | exact HB.out)⟩⟩
                            · rw [if_neg c31] at H
                              have c31b0 : ((rd t145 x8_2) == (a0.size : Int)) = false := beq_eq_false_iff_ne.mpr c31
                              have c31b1 : ((rd t145 x8_2) != (a0.size : Int)) = true := bne_iff_ne.mpr c31
                              by_cases c32 : 0 ≤ (rd t145 x8_2)
                              · rw [if_pos c32] at H
                                have c32b0 : decide (0 ≤ (rd t145 x8_2)) = true := decide_eq_true c32
                                clear c32
                                by_cases c33 : (rd t145 x8_2) < (a0.size : Int)
                                · rw [if_pos c33] at H
                                  have c33b0 : decide ((rd t145 x8_2) < (a0.size : Int)) = true := decide_eq_true c33
                                  clear c33
                                  have H' := Aside0.mk H
                                  clear H
                                  have p157 : 0 ≤ (x8_2 : Int) := of_decide_eq_true (by first | (with_reducible assumption) | assumption)
                                  have q157 : x8_2 < (t145.length : Int) := of_decide_eq_true (by first | (with_reducible assumption) | assumption)
                                  obtain ⟨ad157, e157, hx157_0⟩ := Kd.at_int (Kd.R_reads' HO_5.out).2.2 x8_2 p157 q157
                                  cases e157
                                  replace p157 := eq_true p157
                                  replace q157 := eq_true q157
                                  have p158 : 0 ≤ (x8_2 : Int) := of_decide_eq_true (by first | (with_reducible assumption) | assumption)
                                  have q158 : x8_2 < (t145.length : Int) := of_decide_eq_true (by first | (with_reducible assumption) | assumption)
                                  obtain ⟨ad158, e158, hx158_0⟩ := Kd.at_int (Kd.R_reads' HO_5.out).2.2 x8_2 p158 q158
                                  obtain rfl : ad157 = ad158 := (by injection e158)
                                  replace p158 := eq_true p158
                                  replace q158 := eq_true q158
                                  have p159 : 0 ≤ (x8_2 : Int) := of_decide_eq_true (by first | (with_reducible assumption) | assumption)
                                  have q159 : x8_2 < (t145.length : Int) := of_decide_eq_true (by first | (with_reducible assumption) | assumption)
                                  obtain ⟨ad159, e159, hx159_0⟩ := Kd.at_int (Kd.R_reads' HO_5.out).2.2 x8_2 p159 q159
                                  obtain rfl : ad157 = ad159 := (by injection e159)
                                  replace p159 := eq_true p159
                                  replace q159 := eq_true q159
                                  have p34 : 0 ≤ ((rd t145 x8_2) : Int) := of_decide_eq_true (by first | (with_reducible assumption) | assumption)
                                  have q34 : (rd t145 x8_2) < (a0.size : Int) := of_decide_eq_true (by first | (with_reducible assumption) | assumption)
                                  have hx34 := bt_at a0 (rd t145 x8_2)
                                  replace p34 := eq_true p34
                                  replace q34 := eq_true q34
                                  go_wp2
                                  repeat (go_quiet (fail); try go_wp2)
                                  go_meet
                                  case rel => exact ⟨_, (((bt a0 (rd t145 x8_2)) == 10)), (by first | rfl | (simp; done) | (simp [*]; done)), H', ⟨by have := HJ2.out; have := HK2.out; have := HJ14.out; first | omega | exact Nat.le_refl _⟩, ⟨by (with_reducible repeat (first | apply Kd.R_alloc | apply Kd.R_drewN | apply Kd.R_drew)); exact HO_5.out⟩, ⟨by (with_reducible repeat (first | apply Kd.R_alloc | apply Kd.R_drewN | apply Kd.R_drew)); exact HO_6.out⟩, ⟨by repeat (first | (with_reducible first | exact HB.out | apply below_alloc | apply pw_below_drewN | apply below_drew1) | exact HB.out)⟩⟩
                                · rw [if_neg c33] at H
                                  exact absurd H (by simp)
                              · rw [if_neg c32] at H
                                exact absurd H (by simp)
                          · rw [if_neg c30] at H
                            have c30b0 : ((rd t145 x8_2) == 0) = false := beq_eq_false_iff_ne.mpr c30
                            have c30b1 : ((rd t145 x8_2) != 0) = true := bne_iff_ne.mpr c30
                            obtain ⟨ji35, hji35⟩ : ∃ j_ : Int, (wrap64 ((rd t145 x8_2) - 1)) = j_ := ⟨_, rfl⟩
                            replace H : (if 0 ≤ (ji35) then (if (ji35) < (a0.size : Int) then (if (bt a0 (ji35)) = 10 then (if (rd t145 x8_2) = (a0.size : Int) then (calamuslaw15_HopAlternate.j3 kj14 a0 a1 t145 t148 x7_2 x8_2 true) else (if 0 ≤ (rd t145 x8_2) then (if (rd t145 x8_2) < (a0.size : Int) then (calamuslaw15_HopAlternate.j3 kj14 a0 a1 t145 t148 x7_2 x8_2 ((bt a0 (rd t145 x8_2)) == 10)) else (none)) else (none))) else (calamuslaw15_HopAlternate.j3 kj14 a0 a1 t145 t148 x7_2 x8_2 false)) else (none)) else (none)) = some r := by first | (rw [hji35] at H; exact H) | (simp only [hji35] at H ⊢; exact H)
                            have hji35w : (IntKind.i64.wrap ((rd t145 x8_2) - 1)) = ji35 := (i64_w _).trans hji35
                            by_cases c36 : 0 ≤ (ji35)
                            · rw [if_pos c36] at H
                              have c36b0 : decide (0 ≤ (ji35)) = true := decide_eq_true c36
                              clear c36
                              by_cases c37 : (ji35) < (a0.size : Int)
                              · rw [if_pos c37] at H
                                have c37b0 : decide ((ji35) < (a0.size : Int)) = true := decide_eq_true c37
                                clear c37
                                by_cases c39 : (bt a0 (ji35)) = 10
                                · rw [if_pos c39] at H
                                  have c39b0 : ((bt a0 (ji35)) == 10) = true := beq_iff_eq.mpr c39
                                  have c39b1 : ((bt a0 (ji35)) != 10) = false := bne_eq_false_iff_eq.mpr c39
                                  clear c39
                                  by_cases c40 : (rd t145 x8_2) = (a0.size : Int)
                                  · rw [if_pos c40] at H
                                    have c40b0 : ((rd t145 x8_2) == (a0.size : Int)) = true := beq_iff_eq.mpr c40
                                    have c40b1 : ((rd t145 x8_2) != (a0.size : Int)) = false := bne_eq_false_iff_eq.mpr c40
                                    clear c40
                                    have H' := Aside0.mk H
                                    clear H
                                    have p157 : 0 ≤ (x8_2 : Int) := of_decide_eq_true (by first | (with_reducible assumption) | assumption)
                                    have q157 : x8_2 < (t145.length : Int) := of_decide_eq_true (by first | (with_reducible assumption) | assumption)
                                    obtain ⟨ad157, e157, hx157_0⟩ := Kd.at_int (Kd.R_reads' HO_5.out).2.2 x8_2 p157 q157
                                    cases e157
                                    replace p157 := eq_true p157
                                    replace q157 := eq_true q157
                                    have p160 : 0 ≤ (x8_2 : Int) := of_decide_eq_true (by first | (with_reducible assumption) | assumption)
                                    have q160 : x8_2 < (t145.length : Int) := of_decide_eq_true (by first | (with_reducible assumption) | assumption)
                                    obtain ⟨ad160, e160, hx160_0⟩ := Kd.at_int (Kd.R_reads' HO_5.out).2.2 x8_2 p160 q160
                                    obtain rfl : ad157 = ad160 := (by injection e160)
                                    replace p160 := eq_true p160
                                    replace q160 := eq_true q160
                                    have p38 : 0 ≤ ((ji35) : Int) := of_decide_eq_true (by first | (with_reducible assumption) | assumption)
                                    have q38 : (ji35) < (a0.size : Int) := of_decide_eq_true (by first | (with_reducible assumption) | assumption)
                                    have hx38 := bt_at a0 (ji35)
                                    replace p38 := eq_true p38
                                    replace q38 := eq_true q38
                                    have p161 : 0 ≤ (x8_2 : Int) := of_decide_eq_true (by first | (with_reducible assumption) | assumption)
                                    have q161 : x8_2 < (t145.length : Int) := of_decide_eq_true (by first | (with_reducible assumption) | assumption)
                                    obtain ⟨ad161, e161, hx161_0⟩ := Kd.at_int (Kd.R_reads' HO_5.out).2.2 x8_2 p161 q161
                                    obtain rfl : ad157 = ad161 := (by injection e161)
                                    replace p161 := eq_true p161
                                    replace q161 := eq_true q161
                                    go_wp2
                                    repeat (go_quiet (fail); try go_wp2)
                                    go_meet
                                    case rel => exact ⟨_, (true), (by first | rfl | (simp; done) | (simp [*]; done)), H', ⟨by have := HJ2.out; have := HK2.out; have := HJ14.out; first | omega | exact Nat.le_refl _⟩, ⟨by (with_reducible repeat (first | apply Kd.R_alloc | apply Kd.R_drewN | apply Kd.R_drew)); exact HO_5.out⟩, ⟨by (with_reducible repeat (first | apply Kd.R_alloc | apply Kd.R_drewN | apply Kd.R_drew)); exact HO_6.out⟩, ⟨by repeat (first | (with_reducible first | exact HB.out | apply below_alloc | apply pw_below_drewN | apply below_drew1) | exact HB.out)⟩⟩
                                  · rw [if_neg c40] at H
                                    have c40b0 : ((rd t145 x8_2) == (a0.size : Int)) = false := beq_eq_false_iff_ne.mpr c40
                                    have c40b1 : ((rd t145 x8_2) != (a0.size : Int)) = true := bne_iff_ne.mpr c40
                                    by_cases c41 : 0 ≤ (rd t145 x8_2)
                                    · rw [if_pos c41] at H
                                      have c41b0 : decide (0 ≤ (rd t145 x8_2)) = true := decide_eq_true c41
                                      clear c41
                                      by_cases c42 : (rd t145 x8_2) < (a0.size : Int)
                                      · rw [if_pos c42] at H
                                        have c42b0 : decide ((rd t145 x8_2) < (a0.size : Int)) = true := decide_eq_true c42
                                        clear c42
                                        have H' := Aside0.mk H
                                        clear H
                                        have p157 : 0 ≤ (x8_2 : Int) := of_decide_eq_true (by first | (with_reducible assumption) | assumption)
                                        have q157 : x8_2 < (t145.length : Int) := of_decide_eq_true (by first | (with_reducible assumption) | assumption)
                                        obtain ⟨ad157, e157, hx157_0⟩ := Kd.at_int (Kd.R_reads' HO_5.out).2.2 x8_2 p157 q157
                                        cases e157
                                        replace p157 := eq_true p157
                                        replace q157 := eq_true q157
                                        have p160 : 0 ≤ (x8_2 : Int) := of_decide_eq_true (by first | (with_reducible assumption) | assumption)
                                        have q160 : x8_2 < (t145.length : Int) := of_decide_eq_true (by first | (with_reducible assumption) | assumption)
                                        obtain ⟨ad160, e160, hx160_0⟩ := Kd.at_int (Kd.R_reads' HO_5.out).2.2 x8_2 p160 q160
                                        obtain rfl : ad157 = ad160 := (by injection e160)
                                        replace p160 := eq_true p160
                                        replace q160 := eq_true q160
                                        have p38 : 0 ≤ ((ji35) : Int) := of_decide_eq_true (by first | (with_reducible assumption) | assumption)
                                        have q38 : (ji35) < (a0.size : Int) := of_decide_eq_true (by first | (with_reducible assumption) | assumption)
                                        have hx38 := bt_at a0 (ji35)
                                        replace p38 := eq_true p38
                                        replace q38 := eq_true q38
                                        have p161 : 0 ≤ (x8_2 : Int) := of_decide_eq_true (by first | (with_reducible assumption) | assumption)
                                        have q161 : x8_2 < (t145.length : Int) := of_decide_eq_true (by first | (with_reducible assumption) | assumption)
                                        obtain ⟨ad161, e161, hx161_0⟩ := Kd.at_int (Kd.R_reads' HO_5.out).2.2 x8_2 p161 q161
                                        obtain rfl : ad157 = ad161 := (by injection e161)
                                        replace p161 := eq_true p161
                                        replace q161 := eq_true q161
                                        have p162 : 0 ≤ (x8_2 : Int) := of_decide_eq_true (by first | (with_reducible assumption) | assumption)
                                        have q162 : x8_2 < (t145.length : Int) := of_decide_eq_true (by first | (with_reducible assumption) | assumption)
                                        obtain ⟨ad162, e162, hx162_0⟩ := Kd.at_int (Kd.R_reads' HO_5.out).2.2 x8_2 p162 q162
                                        obtain rfl : ad157 = ad162 := (by injection e162)
                                        replace p162 := eq_true p162
                                        replace q162 := eq_true q162
                                        have p43 : 0 ≤ ((rd t145 x8_2) : Int) := of_decide_eq_true (by first | (with_reducible assumption) | assumption)
                                        have q43 : (rd t145 x8_2) < (a0.size : Int) := of_decide_eq_true (by first | (with_reducible assumption) | assumption)
                                        have hx43 := bt_at a0 (rd t145 x8_2)
                                        replace p43 := eq_true p43
                                        replace q43 := eq_true q43
                                        go_wp2
                                        repeat (go_quiet (fail); try go_wp2)
                                        go_meet
                                        case rel => exact ⟨_, (((bt a0 (rd t145 x8_2)) == 10)), (by first | rfl | (simp; done) | (simp [*]; done)), H', ⟨by have := HJ2.out; have := HK2.out; have := HJ14.out; first | omega | exact Nat.le_refl _⟩, ⟨by (with_reducible repeat (first | apply Kd.R_alloc | apply Kd.R_drewN | apply Kd.R_drew)); exact HO_5.out⟩, ⟨by (with_reducible repeat (first | apply Kd.R_alloc | apply Kd.R_drewN | apply Kd.R_drew)); exact HO_6.out⟩, ⟨by repeat (first | (with_reducible first | exact HB.out | apply below_alloc | apply pw_below_drewN | apply below_drew1) | exact HB.out)⟩⟩
                                      · rw [if_neg c42] at H
                                        exact absurd H (by simp)
                                    · rw [if_neg c41] at H
                                      exact absurd H (by simp)
                                · rw [if_neg c39] at H
                                  have c39b0 : ((bt a0 (ji35)) == 10) = false := beq_eq_false_iff_ne.mpr c39
                                  have c39b1 : ((bt a0 (ji35)) != 10) = true := bne_iff_ne.mpr c39
                                  have H' := Aside0.mk H
                                  clear H
                                  have p157 : 0 ≤ (x8_2 : Int) := of_decide_eq_true (by first | (with_reducible assumption) | assumption)
                                  have q157 : x8_2 < (t145.length : Int) := of_decide_eq_true (by first | (with_reducible assumption) | assumption)
                                  obtain ⟨ad157, e157, hx157_0⟩ := Kd.at_int (Kd.R_reads' HO_5.out).2.2 x8_2 p157 q157
                                  cases e157
                                  replace p157 := eq_true p157
                                  replace q157 := eq_true q157
                                  have p160 : 0 ≤ (x8_2 : Int) := of_decide_eq_true (by first | (with_reducible assumption) | assumption)
                                  have q160 : x8_2 < (t145.length : Int) := of_decide_eq_true (by first | (with_reducible assumption) | assumption)
                                  obtain ⟨ad160, e160, hx160_0⟩ := Kd.at_int (Kd.R_reads' HO_5.out).2.2 x8_2 p160 q160
                                  obtain rfl : ad157 = ad160 := (by injection e160)
                                  replace p160 := eq_true p160
                                  replace q160 := eq_true q160
                                  have p38 : 0 ≤ ((ji35) : Int) := of_decide_eq_true (by first | (with_reducible assumption) | assumption)
                                  have q38 : (ji35) < (a0.size : Int) := of_decide_eq_true (by first | (with_reducible assumption) | assumption)
                                  have hx38 := bt_at a0 (ji35)
                                  replace p38 := eq_true p38
                                  replace q38 := eq_true q38
                                  go_wp2
                                  repeat (go_quiet (fail); try go_wp2)
                                  go_meet
                                  case rel => exact ⟨_, (false), (by first | rfl | (simp; done) | (simp [*]; done)), H', ⟨by have := HJ2.out; have := HK2.out; have := HJ14.out; first | omega | exact Nat.le_refl _⟩, ⟨by (with_reducible repeat (first | apply Kd.R_alloc | apply Kd.R_drewN | apply Kd.R_drew)); exact HO_5.out⟩, ⟨by (with_reducible repeat (first | apply Kd.R_alloc | apply Kd.R_drewN | apply Kd.R_drew)); exact HO_6.out⟩, ⟨by repeat (first | (with_reducible first | exact HB.out | apply below_alloc | apply pw_below_drewN | apply below_drew1) | exact HB.out)⟩⟩
                              · rw [if_neg c37] at H
                                exact absurd H (by simp)
                            · rw [if_neg c36] at H
                              exact absurd H (by simp)
                        · rw [if_neg c29] at H
                          exact absurd H (by simp)
                      · rw [if_neg c28] at H
                        exact absurd H (by simp)
                    case rest => as_aux_lemma =>
                      clear HC27
                      try clear c1
                      try clear p1
                      try clear q1
                      try clear hx1
                      try clear c2
                      try clear p2
                      try clear c3
                      try clear p3
                      try clear q3
                      try clear hx3
                      try clear c4
                      try clear c4b0
                      try clear c4b1
                      try clear p4
                      try clear q4
                      try clear hx4
                      try clear p6
                      try clear c7
                      try clear c13
                      try clear c14
                      try clear c14b0
                      try clear p15
                      try clear q15
                      try clear hx15
                      try clear p16
                      try clear q16
                      try clear hx16
                      try clear c17
                      try clear c17b0
                      try clear c18
                      try clear c18b0
                      try clear c20
                      try clear c20b0
                      try clear c21
                      try clear c21b0
                      try clear c22
                      try clear c22b0
                      try clear c23
                      try clear c23b0
                      try clear c24
                      try clear c24b0
                      try clear c25
                      try clear c25b0
                      try clear c26
                      try clear c28
                      try clear c28b0
                      try clear c29
                      try clear c29b0
                      try clear c30
                      try clear c30b0
                      try clear c30b1
                      try clear c31
                      try clear c31b0
                      try clear c31b1
                      try clear c32
                      try clear c32b0
                      try clear c33
                      try clear c33b0
                      try clear p34
                      try clear q34
                      try clear hx34
                      try clear c36
                      try clear c36b0
                      try clear c37
                      try clear c37b0
                      try clear p38
                      try clear q38
                      try clear hx38
                      try clear c39
                      try clear c39b0
                      try clear c39b1
                      try clear c40
                      try clear c40b0
                      try clear c40b1
                      try clear c41
                      try clear c41b0
                      try clear c42
                      try clear c42b0
                      try clear p43
                      try clear q43
                      try clear hx43
                      try clear hx151_0
                      try clear hx152_0
                      try clear hx153_0
                      try clear hx154_0
                      try clear hx155_0
                      try clear hx156_0
                      try clear hx157_0
                      try clear hx158_0
                      try clear hx159_0
                      try clear hx160_0
                      try clear hx161_0
                      try clear hx162_0
                      try clear p1
                      try clear p15
                      try clear p151
                      try clear p152
                      try clear p153
                      try clear p154
                      try clear p155
                      try clear p156
                      try clear p157
                      try clear p158
                      try clear p159
                      try clear p160
                      try clear p161
                      try clear p162
                      try clear p2
                      try clear p34
                      try clear p38
                      try clear p43
                      try clear p6
                      try clear q1
                      try clear q15
                      try clear q151
                      try clear q152
                      try clear q153
                      try clear q154
                      try clear q155
                      try clear q156
                      try clear q157
                      try clear q158
                      try clear q159
                      try clear q160
                      try clear q161
                      try clear q162
                      try clear q34
                      try clear q38
                      try clear q43
                      obtain ⟨kq, x9_26, rfl, HA, HJ26, HO_5, HO_6, HB⟩ := hcut
                      cases kq with
                      | zero => exact absurd HA.out (by simp [calamuslaw15_HopAlternate.j3])
                      | succ kj26 =>
                        have H := HA.out
                        clear HA
                        simp only [calamuslaw15_HopAlternate.j3] at H
                        by_cases c44 : x9_26 = true
                        · subst c44
                          have H1 : (calamuslaw15_HopAlternate.l0 kj26 a0 a1 t145 t148 x7_2 (wrap64 (x8_2 + 1))) = some r := by rw [if_pos rfl] at H; exact H
                          clear H
                          have H := H1
                          clear H1
                          have H' := Aside0.mk H
                          clear H
                          go_wp2
                          repeat (go_quiet (fail); try go_wp2)
                          go_roundg kj26
                          case measure => have := HJ2.out; have := HK2.out; have := HJ14.out; have := HJ26.out; omega
                          case rel => exact ⟨(x7_2), (wrap64 (x8_2 + 1)), (by first | rfl | (simp; done) | (simp [*]; done)), (by first | rfl | (simp; done) | (simp [*]; done)), H', ⟨by have := HJ2.out; have := HK2.out; have := HJ14.out; have := HJ26.out; omega⟩, ⟨by (with_reducible repeat (first | apply Kd.R_alloc | apply Kd.R_drewN | apply Kd.R_drew)); exact HO_5.out⟩, ⟨by (with_reducible repeat (first | apply Kd.R_alloc | apply Kd.R_drewN | apply Kd.R_drew)); exact HO_6.out⟩, ⟨by repeat (first | (with_reducible first | exact HB.out | apply below_alloc | apply pw_below_drewN | apply below_drew1) | exact HB.out)⟩⟩
                        · replace c44 := Bool.eq_false_iff.mpr c44
                          subst c44
                          have H1 : (if x7_2 ≥ (t148.length : Int) then (some false) else (if 0 ≤ x7_2 then (if x7_2 < (t148.length : Int) then (if 0 ≤ x8_2 then (if x8_2 < (t145.length : Int) then (if (rd t148 x7_2) < (rd t145 x8_2) then (some false) else (if (wrap64 (x8_2 + 1)) < (t145.length : Int) then (if 0 ≤ (wrap64 (x8_2 + 1)) then (if (rd t148 x7_2) ≥ (rd t145 (wrap64 (x8_2 + 1))) then (some false) else (calamuslaw15_HopAlternate.l0 kj26 a0 a1 t145 t148 (wrap64 (x7_2 + 1)) (wrap64 (x8_2 + 1)))) else (none)) else (calamuslaw15_HopAlternate.l0 kj26 a0 a1 t145 t148 (wrap64 (x7_2 + 1)) (wrap64 (x8_2 + 1))))) else (none)) else (none)) else (none)) else (none))) = some r := by rw [if_neg (show ¬ (false = true) by decide)] at H; exact H
                          clear H
                          have H := H1
                          clear H1
                          by_cases c45 : x7_2 ≥ (t148.length : Int)
                          · rw [if_pos c45] at H
                            have c45b0 : decide ((t148.length : Int) ≤ x7_2) = true := decide_eq_true c45
                            clear c45
                            obtain rfl := Option.some.inj H
                            obtain ⟨Ao46, co46, eo46⟩ := Kd.R_slice HO_6.out
                            subst eo46
                            go_wp2
                            repeat (go_quiet (fail); try go_wp2)
                            go_ret
                            exact ⟨by first | rfl | (simp [errW_none, errW_some] <;> rfl) | (simp [*, errW_none, errW_some] <;> rfl), by repeat (first | (with_reducible first | exact HB.out | apply below_alloc | apply pw_below_drewN | apply below_drew1) | exact HB.out)⟩
                          · rw [if_neg c45] at H
                            have c45b0 : decide ((t148.length : Int) ≤ x7_2) = false := decide_eq_false c45
                            clear c45
                            by_cases c47 : 0 ≤ x7_2
                            · rw [if_pos c47] at H
                              have c47b0 : decide (0 ≤ x7_2) = true := decide_eq_true c47
                              clear c47
                              by_cases c48 : x7_2 < (t148.length : Int)
                              · rw [if_pos c48] at H
                                have c48b0 : decide (x7_2 < (t148.length : Int)) = true := decide_eq_true c48
                                clear c48
                                by_cases c49 : 0 ≤ x8_2
                                · rw [if_pos c49] at H
                                  have c49b0 : decide (0 ≤ x8_2) = true := decide_eq_true c49
                                  clear c49
                                  by_cases c50 : x8_2 < (t145.length : Int)
                                  · rw [if_pos c50] at H
                                    have c50b0 : decide (x8_2 < (t145.length : Int)) = true := decide_eq_true c50
                                    clear c50
                                    by_cases c51 : (rd t148 x7_2) < (rd t145 x8_2)
                                    · rw [if_pos c51] at H
                                      have c51b0 : decide ((rd t148 x7_2) < (rd t145 x8_2)) = true := decide_eq_true c51
                                      clear c51
                                      obtain rfl := Option.some.inj H
                                      obtain ⟨Ao52, co52, eo52⟩ := Kd.R_slice HO_6.out
                                      subst eo52
                                      have p163 : 0 ≤ (x7_2 : Int) := of_decide_eq_true (by first | (with_reducible assumption) | assumption)
                                      have q163 : x7_2 < (t148.length : Int) := of_decide_eq_true (by first | (with_reducible assumption) | assumption)
                                      obtain ⟨ad163, e163, hx163_0⟩ := Kd.at_int (Kd.R_reads' HO_6.out).2.2 x7_2 p163 q163
                                      cases e163
                                      replace p163 := eq_true p163
                                      replace q163 := eq_true q163
                                      have p164 : 0 ≤ (x8_2 : Int) := of_decide_eq_true (by first | (with_reducible assumption) | assumption)
                                      have q164 : x8_2 < (t145.length : Int) := of_decide_eq_true (by first | (with_reducible assumption) | assumption)
                                      obtain ⟨ad164, e164, hx164_0⟩ := Kd.at_int (Kd.R_reads' HO_5.out).2.2 x8_2 p164 q164
                                      cases e164
                                      replace p164 := eq_true p164
                                      replace q164 := eq_true q164
                                      go_wp2
                                      repeat (go_quiet (fail); try go_wp2)
                                      go_ret
                                      exact ⟨by first | rfl | (simp [errW_none, errW_some] <;> rfl) | (simp [*, errW_none, errW_some] <;> rfl), by repeat (first | (with_reducible first | exact HB.out | apply below_alloc | apply pw_below_drewN | apply below_drew1) | exact HB.out)⟩
                                    · rw [if_neg c51] at H
                                      have c51b0 : decide ((rd t148 x7_2) < (rd t145 x8_2)) = false := decide_eq_false c51
                                      clear c51
                                      by_cases c53 : (wrap64 (x8_2 + 1)) < (t145.length : Int)
                                      · rw [if_pos c53] at H
                                        have c53b0 : decide ((wrap64 (x8_2 + 1)) < (t145.length : Int)) = true := decide_eq_true c53
                                        clear c53
                                        obtain ⟨ji54, hji54⟩ : ∃ j_ : Int, (wrap64 (x8_2 + 1)) = j_ := ⟨_, rfl⟩
                                        replace H : (if 0 ≤ (ji54) then (if (rd t148 x7_2) ≥ (rd t145 (ji54)) then (some false) else (calamuslaw15_HopAlternate.l0 kj26 a0 a1 t145 t148 (wrap64 (x7_2 + 1)) ji54)) else (none)) = some r := by first | (rw [hji54] at H; exact H) | (simp only [hji54] at H ⊢; exact H)
                                        (try rw [hji54] at c53b0)
                                        have hji54w : (IntKind.i64.wrap (x8_2 + 1)) = ji54 := (i64_w _).trans hji54
                                        by_cases c55 : 0 ≤ (ji54)
                                        · rw [if_pos c55] at H
                                          have c55b0 : decide (0 ≤ (ji54)) = true := decide_eq_true c55
                                          clear c55
                                          by_cases c56 : (rd t148 x7_2) ≥ (rd t145 (ji54))
                                          · rw [if_pos c56] at H
                                            have c56b0 : decide ((rd t145 (ji54)) ≤ (rd t148 x7_2)) = true := decide_eq_true c56
                                            clear c56
                                            obtain rfl := Option.some.inj H
                                            obtain ⟨Ao57, co57, eo57⟩ := Kd.R_slice HO_6.out
                                            subst eo57
                                            have p163 : 0 ≤ (x7_2 : Int) := of_decide_eq_true (by first | (with_reducible assumption) | assumption)
                                            have q163 : x7_2 < (t148.length : Int) := of_decide_eq_true (by first | (with_reducible assumption) | assumption)
                                            obtain ⟨ad163, e163, hx163_0⟩ := Kd.at_int (Kd.R_reads' HO_6.out).2.2 x7_2 p163 q163
                                            cases e163
                                            replace p163 := eq_true p163
                                            replace q163 := eq_true q163
                                            have p164 : 0 ≤ (x8_2 : Int) := of_decide_eq_true (by first | (with_reducible assumption) | assumption)
                                            have q164 : x8_2 < (t145.length : Int) := of_decide_eq_true (by first | (with_reducible assumption) | assumption)
                                            obtain ⟨ad164, e164, hx164_0⟩ := Kd.at_int (Kd.R_reads' HO_5.out).2.2 x8_2 p164 q164
                                            cases e164
                                            replace p164 := eq_true p164
                                            replace q164 := eq_true q164
                                            have p165 : 0 ≤ (x7_2 : Int) := of_decide_eq_true (by first | (with_reducible assumption) | assumption)
                                            have q165 : x7_2 < (t148.length : Int) := of_decide_eq_true (by first | (with_reducible assumption) | assumption)
                                            obtain ⟨ad165, e165, hx165_0⟩ := Kd.at_int (Kd.R_reads' HO_6.out).2.2 x7_2 p165 q165
                                            obtain rfl : ad163 = ad165 := (by injection e165)
                                            replace p165 := eq_true p165
                                            replace q165 := eq_true q165
                                            have p166 : 0 ≤ ((ji54) : Int) := of_decide_eq_true (by first | (with_reducible assumption) | assumption)
                                            have q166 : (ji54) < (t145.length : Int) := of_decide_eq_true (by first | (with_reducible assumption) | assumption)
                                            obtain ⟨ad166, e166, hx166_0⟩ := Kd.at_int (Kd.R_reads' HO_5.out).2.2 (ji54) p166 q166
                                            obtain rfl : ad164 = ad166 := (by injection e166)
                                            replace p166 := eq_true p166
                                            replace q166 := eq_true q166
                                            go_wp2
                                            repeat (go_quiet (fail); try go_wp2)
                                            go_ret
                                            exact ⟨by first | rfl | (simp [errW_none, errW_some] <;> rfl) | (simp only [← hji54]; first | rfl | (simp [errW_none, errW_some] <;> rfl)) | (simp [*, errW_none, errW_some] <;> rfl), by repeat (first | (with_reducible first | exact HB.out | apply below_alloc | apply pw_below_drewN | apply below_drew1) | exact HB.out)⟩
                                          · rw [if_neg c56] at H
                                            have c56b0 : decide ((rd t145 (ji54)) ≤ (rd t148 x7_2)) = false := decide_eq_false c56
                                            clear c56
                                            have H' := Aside0.mk H
                                            clear H
                                            obtain ⟨Ao58, co58, eo58⟩ := Kd.R_slice HO_6.out
                                            subst eo58
                                            have p163 : 0 ≤ (x7_2 : Int) := of_decide_eq_true (by first | (with_reducible assumption) | assumption)
                                            have q163 : x7_2 < (t148.length : Int) := of_decide_eq_true (by first | (with_reducible assumption) | assumption)
                                            obtain ⟨ad163, e163, hx163_0⟩ := Kd.at_int (Kd.R_reads' HO_6.out).2.2 x7_2 p163 q163
                                            cases e163
                                            replace p163 := eq_true p163
                                            replace q163 := eq_true q163
                                            have p164 : 0 ≤ (x8_2 : Int) := of_decide_eq_true (by first | (with_reducible assumption) | assumption)
                                            have q164 : x8_2 < (t145.length : Int) := of_decide_eq_true (by first | (with_reducible assumption) | assumption)
                                            obtain ⟨ad164, e164, hx164_0⟩ := Kd.at_int (Kd.R_reads' HO_5.out).2.2 x8_2 p164 q164
                                            cases e164
                                            replace p164 := eq_true p164
                                            replace q164 := eq_true q164
                                            have p165 : 0 ≤ (x7_2 : Int) := of_decide_eq_true (by first | (with_reducible assumption) | assumption)
                                            have q165 : x7_2 < (t148.length : Int) := of_decide_eq_true (by first | (with_reducible assumption) | assumption)
                                            obtain ⟨ad165, e165, hx165_0⟩ := Kd.at_int (Kd.R_reads' HO_6.out).2.2 x7_2 p165 q165
                                            obtain rfl : ad163 = ad165 := (by injection e165)
                                            replace p165 := eq_true p165
                                            replace q165 := eq_true q165
                                            have p166 : 0 ≤ ((ji54) : Int) := of_decide_eq_true (by first | (with_reducible assumption) | assumption)
                                            have q166 : (ji54) < (t145.length : Int) := of_decide_eq_true (by first | (with_reducible assumption) | assumption)
                                            obtain ⟨ad166, e166, hx166_0⟩ := Kd.at_int (Kd.R_reads' HO_5.out).2.2 (ji54) p166 q166
                                            obtain rfl : ad164 = ad166 := (by injection e166)
                                            replace p166 := eq_true p166
                                            replace q166 := eq_true q166
                                            go_wp2
                                            repeat (go_quiet (fail); try go_wp2)
                                            go_roundg kj26
                                            case measure => have := HJ2.out; have := HK2.out; have := HJ14.out; have := HJ26.out; omega
                                            case rel => exact ⟨(wrap64 (x7_2 + 1)), (ji54), (by first | rfl | (simp; done) | (simp [*]; done)), (by first | rfl | (simp; done) | (simp only [← hji54] <;> (first | rfl | simp)) | (simp [*]; done)), H', ⟨by have := HJ2.out; have := HK2.out; have := HJ14.out; have := HJ26.out; omega⟩, ⟨by (with_reducible repeat (first | apply Kd.R_alloc | apply Kd.R_drewN | apply Kd.R_drew)); exact HO_5.out⟩, ⟨by (with_reducible repeat (first | apply Kd.R_alloc | apply Kd.R_drewN | apply Kd.R_drew)); exact HO_6.out⟩, ⟨by repeat (first | (with_reducible first | exact HB.out | apply below_alloc | apply pw_below_drewN | apply below_drew1) | exact HB.out)⟩⟩
                                        · rw [if_neg c55] at H
                                          exact absurd H (by simp)
                                      · rw [if_neg c53] at H
                                        have c53b0 : decide ((wrap64 (x8_2 + 1)) < (t145.length : Int)) = false := decide_eq_false c53
                                        clear c53
                                        have H' := Aside0.mk H
                                        clear H
                                        obtain ⟨Ao59, co59, eo59⟩ := Kd.R_slice HO_6.out
                                        subst eo59
                                        have p163 : 0 ≤ (x7_2 : Int) := of_decide_eq_true (by first | (with_reducible assumption) | assumption)
                                        have q163 : x7_2 < (t148.length : Int) := of_decide_eq_true (by first | (with_reducible assumption) | assumption)
                                        obtain ⟨ad163, e163, hx163_0⟩ := Kd.at_int (Kd.R_reads' HO_6.out).2.2 x7_2 p163 q163
                                        cases e163
                                        replace p163 := eq_true p163
                                        replace q163 := eq_true q163
                                        have p164 : 0 ≤ (x8_2 : Int) := of_decide_eq_true (by first | (with_reducible assumption) | assumption)
                                        have q164 : x8_2 < (t145.length : Int) := of_decide_eq_true (by first | (with_reducible assumption) | assumption)
                                        obtain ⟨ad164, e164, hx164_0⟩ := Kd.at_int (Kd.R_reads' HO_5.out).2.2 x8_2 p164 q164
                                        cases e164
                                        replace p164 := eq_true p164
                                        replace q164 := eq_true q164
                                        go_wp2
                                        repeat (go_quiet (fail); try go_wp2)
                                        go_roundg kj26
                                        case measure => have := HJ2.out; have := HK2.out; have := HJ14.out; have := HJ26.out; omega
                                        case rel => exact ⟨(wrap64 (x7_2 + 1)), (wrap64 (x8_2 + 1)), (by first | rfl | (simp; done) | (simp [*]; done)), (by first | rfl | (simp; done) | (simp [*]; done)), H', ⟨by have := HJ2.out; have := HK2.out; have := HJ14.out; have := HJ26.out; omega⟩, ⟨by (with_reducible repeat (first | apply Kd.R_alloc | apply Kd.R_drewN | apply Kd.R_drew)); exact HO_5.out⟩, ⟨by (with_reducible repeat (first | apply Kd.R_alloc | apply Kd.R_drewN | apply Kd.R_drew)); exact HO_6.out⟩, ⟨by repeat (first | (with_reducible first | exact HB.out | apply below_alloc | apply pw_below_drewN | apply below_drew1) | exact HB.out)⟩⟩
                                  · rw [if_neg c50] at H
                                    exact absurd H (by simp)
                                · rw [if_neg c49] at H
                                  exact absurd H (by simp)
                              · rw [if_neg c48] at H
                                exact absurd H (by simp)
                            · rw [if_neg c47] at H
                              exact absurd H (by simp)
            · rw [if_neg c14] at H
              have c14b0 : decide (x8_2 < (t145.length : Int)) = false := decide_eq_false c14
              clear c14
              by_cases c60 : x7_2 = (t148.length : Int)
              · rw [if_pos c60] at H
                have c60b0 : (x7_2 == (t148.length : Int)) = true := beq_iff_eq.mpr c60
                have c60b1 : (x7_2 != (t148.length : Int)) = false := bne_eq_false_iff_eq.mpr c60
                clear c60
                have HC61 := Aside0.mk H
                clear H
                obtain ⟨Ao62, co62, eo62⟩ := Kd.R_slice HO_5.out
                subst eo62
                obtain ⟨Ao63, co63, eo63⟩ := Kd.R_slice HO_6.out
                subst eo63
                go_upto_if 142 with (fail)
                repeat (go_quiet (fail); go_upto_if 142 with (fail))
                go_cut [10, 11] (fun v10 v11 wc => ∃ (kq : Nat) (x10_60 : ByteArray) (x11_60 : ByteArray), v10 = .string x10_60 ∧ v11 = .string x11_60 ∧ Aside0 (calamuslaw15_HopAlternate.j4 kq a0 t145 x10_60 x11_60 = some r) ∧ Aside0 (kq ≤ k2) ∧ Aside0 (Kd.R (Kd.int .i64) 3 wc w.heap.size (fun _ => True) (.slice Ao62 t145.length co62) t145) ∧ Aside0 (Below w.heap.size w wc))
                case first => as_aux_lemma =>
                  have H := HC61.out
                  clear HC61
                  by_cases c64 : a1 = true
                  · subst c64
                    have H1 : (calamuslaw15_HopAlternate.j4 k2 a0 t145 (⟨#[87]⟩ : ByteArray) (⟨#[66]⟩ : ByteArray)) = some r := by rw [if_pos rfl] at H; exact H
                    clear H
                    have H := H1
                    clear H1
                    have H' := Aside0.mk H
                    clear H
                    go_wp2
                    repeat (go_quiet (fail); try go_wp2)
                    go_meet
                    case rel => exact ⟨_, ((⟨#[87]⟩ : ByteArray)), ((⟨#[66]⟩ : ByteArray)), (by first | rfl | (simp; done) | (simp [*]; done)), (by first | rfl | (simp; done) | (simp [*]; done)), H', ⟨by have := HJ2.out; have := HK2.out; first | omega | exact Nat.le_refl _⟩, ⟨by (with_reducible repeat (first | apply Kd.R_alloc | apply Kd.R_drewN | apply Kd.R_drew)); exact Kd.R_mono HO_5.out (fun _ hk => trivial)⟩, ⟨by repeat (first | (with_reducible first | exact HB.out | apply below_alloc | apply pw_below_drewN | apply below_drew1) | exact HB.out)⟩⟩
                  · replace c64 := Bool.eq_false_iff.mpr c64
                    subst c64
                    have H1 : (calamuslaw15_HopAlternate.j4 k2 a0 t145 (⟨#[119]⟩ : ByteArray) (⟨#[98]⟩ : ByteArray)) = some r := by rw [if_neg (show ¬ (false = true) by decide)] at H; exact H
                    clear H
                    have H := H1
                    clear H1
                    have H' := Aside0.mk H
                    clear H
                    go_wp2
                    repeat (go_quiet (fail); try go_wp2)
                    go_meet
                    case rel => exact ⟨_, ((⟨#[119]⟩ : ByteArray)), ((⟨#[98]⟩ : ByteArray)), (by first | rfl | (simp; done) | (simp [*]; done)), (by first | rfl | (simp; done) | (simp [*]; done)), H', ⟨by have := HJ2.out; have := HK2.out; first | omega | exact Nat.le_refl _⟩, ⟨by (with_reducible repeat (first | apply Kd.R_alloc | apply Kd.R_drewN | apply Kd.R_drew)); exact Kd.R_mono HO_5.out (fun _ hk => trivial)⟩, ⟨by repeat (first | (with_reducible first | exact HB.out | apply below_alloc | apply pw_below_drewN | apply below_drew1) | exact HB.out)⟩⟩
                case rest => as_aux_lemma =>
                  clear HC61
                  try clear c1
                  try clear p1
                  try clear q1
                  try clear hx1
                  try clear c2
                  try clear p2
                  try clear c3
                  try clear p3
                  try clear q3
                  try clear hx3
                  try clear c4
                  try clear c4b0
                  try clear c4b1
                  try clear p4
                  try clear q4
                  try clear hx4
                  try clear c5
                  try clear c6
                  try clear p6
                  try clear c7
                  try clear c13
                  try clear c14
                  try clear c14b0
                  try clear p15
                  try clear q15
                  try clear hx15
                  try clear p16
                  try clear q16
                  try clear hx16
                  try clear c17
                  try clear c17b0
                  try clear c18
                  try clear c18b0
                  try clear c20
                  try clear c20b0
                  try clear c21
                  try clear c21b0
                  try clear c22
                  try clear c22b0
                  try clear c23
                  try clear c23b0
                  try clear c24
                  try clear c24b0
                  try clear c25
                  try clear c25b0
                  try clear c26
                  try clear c28
                  try clear c28b0
                  try clear c29
                  try clear c29b0
                  try clear c30
                  try clear c30b0
                  try clear c30b1
                  try clear c31
                  try clear c31b0
                  try clear c31b1
                  try clear c32
                  try clear c32b0
                  try clear c33
                  try clear c33b0
                  try clear p34
                  try clear q34
                  try clear hx34
                  try clear c36
                  try clear c36b0
                  try clear c37
                  try clear c37b0
                  try clear p38
                  try clear q38
                  try clear hx38
                  try clear c39
                  try clear c39b0
                  try clear c39b1
                  try clear c40
                  try clear c40b0
                  try clear c40b1
                  try clear c41
                  try clear c41b0
                  try clear c42
                  try clear c42b0
                  try clear p43
                  try clear q43
                  try clear hx43
                  try clear c44
                  try clear c45
                  try clear c45b0
                  try clear c47
                  try clear c47b0
                  try clear c48
                  try clear c48b0
                  try clear c49
                  try clear c49b0
                  try clear c50
                  try clear c50b0
                  try clear c51
                  try clear c51b0
                  try clear c53
                  try clear c53b0
                  try clear c55
                  try clear c55b0
                  try clear c56
                  try clear c56b0
                  try clear c60
                  try clear c60b0
                  try clear c60b1
                  try clear c64
                  try clear p64
                  try clear hx151_0
                  try clear hx152_0
                  try clear hx153_0
                  try clear hx154_0
                  try clear hx155_0
                  try clear hx156_0
                  try clear hx157_0
                  try clear hx158_0
                  try clear hx159_0
                  try clear hx160_0
                  try clear hx161_0
                  try clear hx162_0
                  try clear hx163_0
                  try clear hx164_0
                  try clear hx165_0
                  try clear hx166_0
                  try clear p1
                  try clear p15
                  try clear p151
                  try clear p152
                  try clear p153
                  try clear p154
                  try clear p155
                  try clear p156
                  try clear p157
                  try clear p158
                  try clear p159
                  try clear p16
                  try clear p160
                  try clear p161
                  try clear p162
                  try clear p163
                  try clear p164
                  try clear p165
                  try clear p166
                  try clear p2
                  try clear p3
                  try clear p34
                  try clear p38
                  try clear p4
                  try clear p43
                  try clear p6
                  try clear q1
                  try clear q15
                  try clear q151
                  try clear q152
                  try clear q153
                  try clear q154
                  try clear q155
                  try clear q156
                  try clear q157
                  try clear q158
                  try clear q159
                  try clear q16
                  try clear q160
                  try clear q161
                  try clear q162
                  try clear q163
                  try clear q164
                  try clear q165
                  try clear q166
                  try clear q3
                  try clear q34
                  try clear q38
                  try clear q4
                  try clear q43
                  obtain ⟨kq, x10_60, x11_60, rfl, rfl, HA, HJ60, HO_5, HB⟩ := hcut
                  cases kq with
                  | zero => exact absurd HA.out (by simp [calamuslaw15_HopAlternate.j4])
                  | succ kj60 =>
                    have H := HA.out
                    clear HA
                    simp only [calamuslaw15_HopAlternate.j4] at H
                    have H' := Aside0.mk H
                    clear H
                    go_wp2
                    repeat (go_quiet (fail); try go_wp2)
                    go_loopg [12] kj60 (fun kq v12 w' => ∃ (x12_4 : Int), v12 = .int .i64 x12_4 ∧ Aside0 (calamuslaw15_HopAlternate.l1 kq a0 t145 x10_60 x11_60 x12_4 = some r) ∧ Aside0 (kq ≤ kj60) ∧ Aside0 (Kd.R (Kd.int .i64) 3 w' w.heap.size (fun _ => True) (.slice Ao62 t145.length co62) t145) ∧ Aside0 (Below w.heap.size w w'))
                    case atStart => exact ⟨(0), (by first | rfl | (simp; done) | (simp [*]; done)), H', ⟨Nat.le_refl _⟩, ⟨by (with_reducible repeat (first | apply Kd.R_alloc | apply Kd.R_drewN | apply Kd.R_drew)); exact HO_5.out⟩, ⟨by repeat (first | (with_reducible first | exact HB.out | apply below_alloc | apply pw_below_drewN | apply below_drew1) | exact HB.out)⟩⟩
                    case round => as_aux_lemma =>
                      clear H'
                      try clear c1
                      try clear p1
                      try clear q1
                      try clear hx1
                      try clear c2
                      try clear p2
                      try clear c3
                      try clear p3
                      try clear q3
                      try clear hx3
                      try clear c4
                      try clear c4b0
                      try clear c4b1
                      try clear p4
                      try clear q4
                      try clear hx4
                      try clear c5
                      try clear c6
                      try clear p6
                      try clear c7
                      try clear c13
                      try clear c14
                      try clear c14b0
                      try clear p15
                      try clear q15
                      try clear hx15
                      try clear p16
                      try clear q16
                      try clear hx16
                      try clear c17
                      try clear c17b0
                      try clear c18
                      try clear c18b0
                      try clear c20
                      try clear c20b0
                      try clear c21
                      try clear c21b0
                      try clear c22
                      try clear c22b0
                      try clear c23
                      try clear c23b0
                      try clear c24
                      try clear c24b0
                      try clear c25
                      try clear c25b0
                      try clear c26
                      try clear c28
                      try clear c28b0
                      try clear c29
                      try clear c29b0
                      try clear c30
                      try clear c30b0
                      try clear c30b1
                      try clear c31
                      try clear c31b0
                      try clear c31b1
                      try clear c32
                      try clear c32b0
                      try clear c33
                      try clear c33b0
                      try clear p34
                      try clear q34
                      try clear hx34
                      try clear c36
                      try clear c36b0
                      try clear c37
                      try clear c37b0
                      try clear p38
                      try clear q38
                      try clear hx38
                      try clear c39
                      try clear c39b0
                      try clear c39b1
                      try clear c40
                      try clear c40b0
                      try clear c40b1
                      try clear c41
                      try clear c41b0
                      try clear c42
                      try clear c42b0
                      try clear p43
                      try clear q43
                      try clear hx43
                      try clear c44
                      try clear c45
                      try clear c45b0
                      try clear c47
                      try clear c47b0
                      try clear c48
                      try clear c48b0
                      try clear c49
                      try clear c49b0
                      try clear c50
                      try clear c50b0
                      try clear c51
                      try clear c51b0
                      try clear c53
                      try clear c53b0
                      try clear c55
                      try clear c55b0
                      try clear c56
                      try clear c56b0
                      try clear c60
                      try clear c60b0
                      try clear c60b1
                      try clear c64
                      try clear p64
                      try clear hx151_0
                      try clear hx152_0
                      try clear hx153_0
                      try clear hx154_0
                      try clear hx155_0
                      try clear hx156_0
                      try clear hx157_0
                      try clear hx158_0
                      try clear hx159_0
                      try clear hx160_0
                      try clear hx161_0
                      try clear hx162_0
                      try clear hx163_0
                      try clear hx164_0
                      try clear hx165_0
                      try clear hx166_0
                      try clear p1
                      try clear p15
                      try clear p151
                      try clear p152
                      try clear p153
                      try clear p154
                      try clear p155
                      try clear p156
                      try clear p157
                      try clear p158
                      try clear p159
                      try clear p16
                      try clear p160
                      try clear p161
                      try clear p162
                      try clear p163
                      try clear p164
                      try clear p165
                      try clear p166
                      try clear p2
                      try clear p3
                      try clear p34
                      try clear p38
                      try clear p4
                      try clear p43
                      try clear p6
                      try clear p64
                      try clear q1
                      try clear q15
                      try clear q151
                      try clear q152
                      try clear q153
                      try clear q154
                      try clear q155
                      try clear q156
                      try clear q157
                      try clear q158
                      try clear q159
                      try clear q16
                      try clear q160
                      try clear q161
                      try clear q162
                      try clear q163
                      try clear q164
                      try clear q165
                      try clear q166
                      try clear q3
                      try clear q34
                      try clear q38
                      try clear q4
                      try clear q43
                      obtain ⟨x12_4, rfl, HA, HK4, HO_5, HB⟩ := hrel
                      cases gk with
                      | zero => exact absurd HA.out (by simp [calamuslaw15_HopAlternate.l1])
                      | succ k4 =>
                        have H := HA.out
                        clear HA
                        simp only [calamuslaw15_HopAlternate.l1] at H
                        by_cases c65 : (wrap64 (x12_4 + 1)) < (t145.length : Int)
                        · rw [if_pos c65] at H
                          have c65b0 : decide ((wrap64 (x12_4 + 1)) < (t145.length : Int)) = true := decide_eq_true c65
                          clear c65
                          by_cases c66 : 0 ≤ x12_4
                          · rw [if_pos c66] at H
                            have c66b0 : decide (0 ≤ x12_4) = true := decide_eq_true c66
                            clear c66
                            by_cases c67 : x12_4 < (t145.length : Int)
                            · rw [if_pos c67] at H
                              have c67b0 : decide (x12_4 < (t145.length : Int)) = true := decide_eq_true c67
                              clear c67
                              replace H := Option.bind_eq_some_iff.mp H
                              obtain ⟨⟨t169, t170⟩, A680, H⟩ := H
                              replace H : (if 0 ≤ (wrap64 (x12_4 + 1)) then ((hop_Go.f k4 a0 (rd t145 (wrap64 (x12_4 + 1))) x11_60 1).bind fun bt172 => (if t169 = (rd t145 (wrap64 (x12_4 + 1))) then (if t170 = true then (if bt172.1 = (rd t145 x12_4) then (if bt172.2 = true then (calamuslaw15_HopAlternate.l1 k4 a0 t145 x10_60 x11_60 (wrap64 (x12_4 + 1))) else (some false)) else (some false)) else (some false)) else (some false))) else (none)) = some r := H
                              have A68 := Aside0.mk A680
                              clear A680
                              obtain ⟨ji69, hji69⟩ : ∃ j_ : Int, (wrap64 (x12_4 + 1)) = j_ := ⟨_, rfl⟩
                              replace H : (if 0 ≤ (ji69) then ((hop_Go.f k4 a0 (rd t145 (ji69)) x11_60 1).bind fun bt172 => (if t169 = (rd t145 (ji69)) then (if t170 = true then (if bt172.1 = (rd t145 x12_4) then (if bt172.2 = true then (calamuslaw15_HopAlternate.l1 k4 a0 t145 x10_60 x11_60 ji69) else (some false)) else (some false)) else (some false)) else (some false))) else (none)) = some r := by first | (rw [hji69] at H; exact H) | (simp only [hji69] at H ⊢; exact H)
                              (try rw [hji69] at c65b0)
                              (try rw [hji69] at A68)
                              have hji69w : (IntKind.i64.wrap (x12_4 + 1)) = ji69 := (i64_w _).trans hji69
                              by_cases c70 : 0 ≤ (ji69)
                              · rw [if_pos c70] at H
                                have c70b0 : decide (0 ≤ (ji69)) = true := decide_eq_true c70
                                clear c70
                                replace H := Option.bind_eq_some_iff.mp H
                                obtain ⟨⟨t172, t173⟩, A710, H⟩ := H
                                replace H : (if t169 = (rd t145 (ji69)) then (if t170 = true then (if t172 = (rd t145 x12_4) then (if t173 = true then (calamuslaw15_HopAlternate.l1 k4 a0 t145 x10_60 x11_60 ji69) else (some false)) else (some false)) else (some false)) else (some false)) = some r := H
                                have A71 := Aside0.mk A710
                                clear A710
                                by_cases c72 : t169 = (rd t145 (ji69))
                                · rw [if_pos c72] at H
                                  have c72b0 : (t169 == (rd t145 (ji69))) = true := beq_iff_eq.mpr c72
                                  have c72b1 : (t169 != (rd t145 (ji69))) = false := bne_eq_false_iff_eq.mpr c72
                                  clear c72
                                  by_cases c73 : t170 = true
                                  · subst c73
                                    have H1 : (if t172 = (rd t145 x12_4) then (if t173 = true then (calamuslaw15_HopAlternate.l1 k4 a0 t145 x10_60 x11_60 ji69) else (some false)) else (some false)) = some r := by rw [if_pos rfl] at H; exact H
                                    clear H
                                    have H := H1
                                    clear H1
                                    by_cases c74 : t172 = (rd t145 x12_4)
                                    · rw [if_pos c74] at H
                                      have c74b0 : (t172 == (rd t145 x12_4)) = true := beq_iff_eq.mpr c74
                                      have c74b1 : (t172 != (rd t145 x12_4)) = false := bne_eq_false_iff_eq.mpr c74
                                      clear c74
                                      by_cases c75 : t173 = true
                                      · subst c75
                                        have H1 : (calamuslaw15_HopAlternate.l1 k4 a0 t145 x10_60 x11_60 ji69) = some r := by rw [if_pos rfl] at H; exact H
                                        clear H
                                        have H := H1
                                        clear H1
                                        have H' := Aside0.mk H
                                        clear H
                                        have p168 : 0 ≤ (x12_4 : Int) := of_decide_eq_true (by first | (with_reducible assumption) | assumption)
                                        have q168 : x12_4 < (t145.length : Int) := of_decide_eq_true (by first | (with_reducible assumption) | assumption)
                                        obtain ⟨ad168, e168, hx168_0⟩ := Kd.at_int (Kd.R_reads' HO_5.out).2.2 x12_4 p168 q168
                                        cases e168
                                        replace p168 := eq_true p168
                                        replace q168 := eq_true q168
                                        go_wp2_with (first | (go_at_call 41; (with_reducible refine (hop_Go.calls k4 a0 (rd t145 x12_4) x10_60 1 t169 true _ A68.out).mono ?_); rintro e w76 ⟨rfl, hb⟩; have n0_ := Aside0.mk (Kd.R_below (by (with_reducible repeat (first | apply Kd.R_alloc | apply Kd.R_drewN | apply Kd.R_drew)); exact HO_5.out) hb); have n1_ := Aside0.mk (below_step (by repeat (first | (with_reducible first | exact HB.out | apply below_alloc | apply pw_below_drewN | apply below_drew1) | exact HB.out)) hb); clear HO_5; clear HB; have HO_5 := n0_; have HB := n1_; clear n0_ n1_; (try clear hb); (try clear hb2); (try clear hk); (try clear hi); have p171 : 0 ≤ ((ji69) : Int) := of_decide_eq_true (by first | (with_reducible assumption) | assumption); have q171 : (ji69) < (t145.length : Int) := of_decide_eq_true (by first | (with_reducible assumption) | assumption); obtain ⟨ad171, e171, hx171_0⟩ := Kd.at_int (Kd.R_reads' HO_5.out).2.2 (ji69) p171 q171; obtain rfl : ad168 = ad171 := (by injection e171); replace p171 := eq_true p171; replace q171 := eq_true q171) | (go_at_call 41; (with_reducible refine (hop_Go.calls k4 a0 (rd t145 (ji69)) x11_60 1 t172 true _ A71.out).mono ?_); rintro e w77 ⟨rfl, hb⟩; have n0_ := Aside0.mk (Kd.R_below (by (with_reducible repeat (first | apply Kd.R_alloc | apply Kd.R_drewN | apply Kd.R_drew)); exact HO_5.out) hb); have n1_ := Aside0.mk (below_step (by repeat (first | (with_reducible first | exact HB.out | apply below_alloc | apply pw_below_drewN | apply below_drew1) | exact HB.out)) hb); clear HO_5; clear HB; have HO_5 := n0_; have HB := n1_; clear n0_ n1_; (try clear hb); (try clear hb2); (try clear hk); (try clear hi); have p174 : 0 ≤ ((ji69) : Int) := of_decide_eq_true (by first | (with_reducible assumption) | assumption); have q174 : (ji69) < (t145.length : Int) := of_decide_eq_true (by first | (with_reducible assumption) | assumption); obtain ⟨ad174, e174, hx174_0⟩ := Kd.at_int (Kd.R_reads' HO_5.out).2.2 (ji69) p174 q174; obtain rfl : ad168 = ad174 := (by injection e174); replace p174 := eq_true p174; replace q174 := eq_true q174; have p175 : 0 ≤ (x12_4 : Int) := of_decide_eq_true (by first | (with_reducible assumption) | assumption); have q175 : x12_4 < (t145.length : Int) := of_decide_eq_true (by first | (with_reducible assumption) | assumption); obtain ⟨ad175, e175, hx175_0⟩ := Kd.at_int (Kd.R_reads' HO_5.out).2.2 x12_4 p175 q175; obtain rfl : ad168 = ad175 := (by injection e175); replace p175 := eq_true p175; replace q175 := eq_true q175))
                                        repeat (go_quiet (fail); try go_wp2_with (first | (go_at_call 41; (with_reducible refine (hop_Go.calls k4 a0 (rd t145 x12_4) x10_60 1 t169 true _ A68.out).mono ?_); rintro e w76 ⟨rfl, hb⟩; have n0_ := Aside0.mk (Kd.R_below (by (with_reducible repeat (first | apply Kd.R_alloc | apply Kd.R_drewN | apply Kd.R_drew)); exact HO_5.out) hb); have n1_ := Aside0.mk (below_step (by repeat (first | (with_reducible first | exact HB.out | apply below_alloc | apply pw_below_drewN | apply below_drew1) | exact HB.out)) hb); clear HO_5; clear HB; have HO_5 := n0_; have HB := n1_; clear n0_ n1_; (try clear hb); (try clear hb2); (try clear hk); (try clear hi); have p171 : 0 ≤ ((ji69) : Int) := of_decide_eq_true (by first | (with_reducible assumption) | assumption); have q171 : (ji69) < (t145.length : Int) := of_decide_eq_true (by first | (with_reducible assumption) | assumption); obtain ⟨ad171, e171, hx171_0⟩ := Kd.at_int (Kd.R_reads' HO_5.out).2.2 (ji69) p171 q171; obtain rfl : ad168 = ad171 := (by injection e171); replace p171 := eq_true p171; replace q171 := eq_true q171) | (go_at_call 41; (with_reducible refine (hop_Go.calls k4 a0 (rd t145 (ji69)) x11_60 1 t172 true _ A71.out).mono ?_); rintro e w77 ⟨rfl, hb⟩; have n0_ := Aside0.mk (Kd.R_below (by (with_reducible repeat (first | apply Kd.R_alloc | apply Kd.R_drewN | apply Kd.R_drew)); exact HO_5.out) hb); have n1_ := Aside0.mk (below_step (by repeat (first | (with_reducible first | exact HB.out | apply below_alloc | apply pw_below_drewN | apply below_drew1) | exact HB.out)) hb); clear HO_5; clear HB; have HO_5 := n0_; have HB := n1_; clear n0_ n1_; (try clear hb); (try clear hb2); (try clear hk); (try clear hi); have p174 : 0 ≤ ((ji69) : Int) := of_decide_eq_true (by first | (with_reducible assumption) | assumption); have q174 : (ji69) < (t145.length : Int) := of_decide_eq_true (by first | (with_reducible assumption) | assumption); obtain ⟨ad174, e174, hx174_0⟩ := Kd.at_int (Kd.R_reads' HO_5.out).2.2 (ji69) p174 q174; obtain rfl : ad168 = ad174 := (by injection e174); replace p174 := eq_true p174; replace q174 := eq_true q174; have p175 : 0 ≤ (x12_4 : Int) := of_decide_eq_true (by first | (with_reducible assumption) | assumption); have q175 : x12_4 < (t145.length : Int) := of_decide_eq_true (by first | (with_reducible assumption) | assumption); obtain ⟨ad175, e175, hx175_0⟩ := Kd.at_int (Kd.R_reads' HO_5.out).2.2 x12_4 p175 q175; obtain rfl : ad168 = ad175 := (by injection e175); replace p175 := eq_true p175; replace q175 := eq_true q175)))
                                        go_roundg k4
                                        case measure => have := HJ2.out; have := HK2.out; have := HJ60.out; have := HK4.out; omega
                                        case rel => exact ⟨(ji69), (by first | rfl | (simp; done) | (simp only [← hji69] <;> (first | rfl | simp)) | (simp [*]; done)), H', ⟨by have := HJ2.out; have := HK2.out; have := HJ60.out; have := HK4.out; omega⟩, ⟨by (with_reducible repeat (first | apply Kd.R_alloc | apply Kd.R_drewN | apply Kd.R_drew)); exact HO_5.out⟩, ⟨by repeat (first | (with_reducible first | exact HB.out | apply below_alloc | apply pw_below_drewN | apply below_drew1) | exact HB.out)⟩⟩
                                      · replace c75 := Bool.eq_false_iff.mpr c75
                                        subst c75
                                        have H1 : (some false) = some r := by rw [if_neg (show ¬ (false = true) by decide)] at H; exact H
                                        clear H
                                        have H := H1
                                        clear H1
                                        obtain rfl := Option.some.inj H
                                        have p168 : 0 ≤ (x12_4 : Int) := of_decide_eq_true (by first | (with_reducible assumption) | assumption)
                                        have q168 : x12_4 < (t145.length : Int) := of_decide_eq_true (by first | (with_reducible assumption) | assumption)
                                        obtain ⟨ad168, e168, hx168_0⟩ := Kd.at_int (Kd.R_reads' HO_5.out).2.2 x12_4 p168 q168
                                        cases e168
                                        replace p168 := eq_true p168
                                        replace q168 := eq_true q168
                                        go_wp2_with (first | (go_at_call 41; (with_reducible refine (hop_Go.calls k4 a0 (rd t145 x12_4) x10_60 1 t169 true _ A68.out).mono ?_); rintro e w78 ⟨rfl, hb⟩; have n0_ := Aside0.mk (Kd.R_below (by (with_reducible repeat (first | apply Kd.R_alloc | apply Kd.R_drewN | apply Kd.R_drew)); exact HO_5.out) hb); have n1_ := Aside0.mk (below_step (by repeat (first | (with_reducible first | exact HB.out | apply below_alloc | apply pw_below_drewN | apply below_drew1) | exact HB.out)) hb); clear HO_5; clear HB; have HO_5 := n0_; have HB := n1_; clear n0_ n1_; (try clear hb); (try clear hb2); (try clear hk); (try clear hi); have p171 : 0 ≤ ((ji69) : Int) := of_decide_eq_true (by first | (with_reducible assumption) | assumption); have q171 : (ji69) < (t145.length : Int) := of_decide_eq_true (by first | (with_reducible assumption) | assumption); obtain ⟨ad171, e171, hx171_0⟩ := Kd.at_int (Kd.R_reads' HO_5.out).2.2 (ji69) p171 q171; obtain rfl : ad168 = ad171 := (by injection e171); replace p171 := eq_true p171; replace q171 := eq_true q171) | (go_at_call 41; (with_reducible refine (hop_Go.calls k4 a0 (rd t145 (ji69)) x11_60 1 t172 false _ A71.out).mono ?_); rintro e w79 ⟨rfl, hb⟩; have n0_ := Aside0.mk (Kd.R_below (by (with_reducible repeat (first | apply Kd.R_alloc | apply Kd.R_drewN | apply Kd.R_drew)); exact HO_5.out) hb); have n1_ := Aside0.mk (below_step (by repeat (first | (with_reducible first | exact HB.out | apply below_alloc | apply pw_below_drewN | apply below_drew1) | exact HB.out)) hb); clear HO_5; clear HB; have HO_5 := n0_; have HB := n1_; clear n0_ n1_; (try clear hb); (try clear hb2); (try clear hk); (try clear hi); have p174 : 0 ≤ ((ji69) : Int) := of_decide_eq_true (by first | (with_reducible assumption) | assumption); have q174 : (ji69) < (t145.length : Int) := of_decide_eq_true (by first | (with_reducible assumption) | assumption); obtain ⟨ad174, e174, hx174_0⟩ := Kd.at_int (Kd.R_reads' HO_5.out).2.2 (ji69) p174 q174; obtain rfl : ad168 = ad174 := (by injection e174); replace p174 := eq_true p174; replace q174 := eq_true q174; have p175 : 0 ≤ (x12_4 : Int) := of_decide_eq_true (by first | (with_reducible assumption) | assumption); have q175 : x12_4 < (t145.length : Int) := of_decide_eq_true (by first | (with_reducible assumption) | assumption); obtain ⟨ad175, e175, hx175_0⟩ := Kd.at_int (Kd.R_reads' HO_5.out).2.2 x12_4 p175 q175; obtain rfl : ad168 = ad175 := (by injection e175); replace p175 := eq_true p175; replace q175 := eq_true q175))
                                        repeat (go_quiet (fail); try go_wp2_with (first | (go_at_call 41; (with_reducible refine (hop_Go.calls k4 a0 (rd t145 x12_4) x10_60 1 t169 true _ A68.out).mono ?_); rintro e w78 ⟨rfl, hb⟩; have n0_ := Aside0.mk (Kd.R_below (by (with_reducible repeat (first | apply Kd.R_alloc | apply Kd.R_drewN | apply Kd.R_drew)); exact HO_5.out) hb); have n1_ := Aside0.mk (below_step (by repeat (first | (with_reducible first | exact HB.out | apply below_alloc | apply pw_below_drewN | apply below_drew1) | exact HB.out)) hb); clear HO_5; clear HB; have HO_5 := n0_; have HB := n1_; clear n0_ n1_; (try clear hb); (try clear hb2); (try clear hk); (try clear hi); have p171 : 0 ≤ ((ji69) : Int) := of_decide_eq_true (by first | (with_reducible assumption) | assumption); have q171 : (ji69) < (t145.length : Int) := of_decide_eq_true (by first | (with_reducible assumption) | assumption); obtain ⟨ad171, e171, hx171_0⟩ := Kd.at_int (Kd.R_reads' HO_5.out).2.2 (ji69) p171 q171; obtain rfl : ad168 = ad171 := (by injection e171); replace p171 := eq_true p171; replace q171 := eq_true q171) | (go_at_call 41; (with_reducible refine (hop_Go.calls k4 a0 (rd t145 (ji69)) x11_60 1 t172 false _ A71.out).mono ?_); rintro e w79 ⟨rfl, hb⟩; have n0_ := Aside0.mk (Kd.R_below (by (with_reducible repeat (first | apply Kd.R_alloc | apply Kd.R_drewN | apply Kd.R_drew)); exact HO_5.out) hb); have n1_ := Aside0.mk (below_step (by repeat (first | (with_reducible first | exact HB.out | apply below_alloc | apply pw_below_drewN | apply below_drew1) | exact HB.out)) hb); clear HO_5; clear HB; have HO_5 := n0_; have HB := n1_; clear n0_ n1_; (try clear hb); (try clear hb2); (try clear hk); (try clear hi); have p174 : 0 ≤ ((ji69) : Int) := of_decide_eq_true (by first | (with_reducible assumption) | assumption); have q174 : (ji69) < (t145.length : Int) := of_decide_eq_true (by first | (with_reducible assumption) | assumption); obtain ⟨ad174, e174, hx174_0⟩ := Kd.at_int (Kd.R_reads' HO_5.out).2.2 (ji69) p174 q174; obtain rfl : ad168 = ad174 := (by injection e174); replace p174 := eq_true p174; replace q174 := eq_true q174; have p175 : 0 ≤ (x12_4 : Int) := of_decide_eq_true (by first | (with_reducible assumption) | assumption); have q175 : x12_4 < (t145.length : Int) := of_decide_eq_true (by first | (with_reducible assumption) | assumption); obtain ⟨ad175, e175, hx175_0⟩ := Kd.at_int (Kd.R_reads' HO_5.out).2.2 x12_4 p175 q175; obtain rfl : ad168 = ad175 := (by injection e175); replace p175 := eq_true p175; replace q175 := eq_true q175)))
                                        go_ret
                                        exact ⟨by first | rfl | (simp [errW_none, errW_some] <;> rfl) | (simp only [← hji69]; first | rfl | (simp [errW_none, errW_some] <;> rfl)) | (simp [*, errW_none, errW_some] <;> rfl), by repeat (first | (with_reducible first | exact HB.out | apply below_alloc | apply pw_below_drewN | apply below_drew1) | exact HB.out)⟩
                                    · rw [if_neg c74] at H
                                      have c74b0 : (t172 == (rd t145 x12_4)) = false := beq_eq_false_iff_ne.mpr c74
                                      have c74b1 : (t172 != (rd t145 x12_4)) = true := bne_iff_ne.mpr c74
                                      obtain rfl := Option.some.inj H
                                      have p168 : 0 ≤ (x12_4 : Int) := of_decide_eq_true (by first | (with_reducible assumption) | assumption)
                                      have q168 : x12_4 < (t145.length : Int) := of_decide_eq_true (by first | (with_reducible assumption) | assumption)
                                      obtain ⟨ad168, e168, hx168_0⟩ := Kd.at_int (Kd.R_reads' HO_5.out).2.2 x12_4 p168 q168
                                      cases e168
                                      replace p168 := eq_true p168
                                      replace q168 := eq_true q168
                                      go_wp2_with (first | (go_at_call 41; (with_reducible refine (hop_Go.calls k4 a0 (rd t145 x12_4) x10_60 1 t169 true _ A68.out).mono ?_); rintro e w80 ⟨rfl, hb⟩; have n0_ := Aside0.mk (Kd.R_below (by (with_reducible repeat (first | apply Kd.R_alloc | apply Kd.R_drewN | apply Kd.R_drew)); exact HO_5.out) hb); have n1_ := Aside0.mk (below_step (by repeat (first | (with_reducible first | exact HB.out | apply below_alloc | apply pw_below_drewN | apply below_drew1) | exact HB.out)) hb); clear HO_5; clear HB; have HO_5 := n0_; have HB := n1_; clear n0_ n1_; (try clear hb); (try clear hb2); (try clear hk); (try clear hi); have p171 : 0 ≤ ((ji69) : Int) := of_decide_eq_true (by first | (with_reducible assumption) | assumption); have q171 : (ji69) < (t145.length : Int) := of_decide_eq_true (by first | (with_reducible assumption) | assumption); obtain ⟨ad171, e171, hx171_0⟩ := Kd.at_int (Kd.R_reads' HO_5.out).2.2 (ji69) p171 q171; obtain rfl : ad168 = ad171 := (by injection e171); replace p171 := eq_true p171; replace q171 := eq_true q171) | (go_at_call 41; (with_reducible refine (hop_Go.calls k4 a0 (rd t145 (ji69)) x11_60 1 t172 t173 _ A71.out).mono ?_); rintro e w81 ⟨rfl, hb⟩; have n0_ := Aside0.mk (Kd.R_below (by (with_reducible repeat (first | apply Kd.R_alloc | apply Kd.R_drewN | apply Kd.R_drew)); exact HO_5.out) hb); have n1_ := Aside0.mk (below_step (by repeat (first | (with_reducible first | exact HB.out | apply below_alloc | apply pw_below_drewN | apply below_drew1) | exact HB.out)) hb); clear HO_5; clear HB; have HO_5 := n0_; have HB := n1_; clear n0_ n1_; (try clear hb); (try clear hb2); (try clear hk); (try clear hi); have p174 : 0 ≤ ((ji69) : Int) := of_decide_eq_true (by first | (with_reducible assumption) | assumption); have q174 : (ji69) < (t145.length : Int) := of_decide_eq_true (by first | (with_reducible assumption) | assumption); obtain ⟨ad174, e174, hx174_0⟩ := Kd.at_int (Kd.R_reads' HO_5.out).2.2 (ji69) p174 q174; obtain rfl : ad168 = ad174 := (by injection e174); replace p174 := eq_true p174; replace q174 := eq_true q174; have p175 : 0 ≤ (x12_4 : Int) := of_decide_eq_true (by first | (with_reducible assumption) | assumption); have q175 : x12_4 < (t145.length : Int) := of_decide_eq_true (by first | (with_reducible assumption) | assumption); obtain ⟨ad175, e175, hx175_0⟩ := Kd.at_int (Kd.R_reads' HO_5.out).2.2 x12_4 p175 q175; obtain rfl : ad168 = ad175 := (by injection e175); replace p175 := eq_true p175; replace q175 := eq_true q175))
                                      repeat (go_quiet (fail); try go_wp2_with (first | (go_at_call 41; (with_reducible refine (hop_Go.calls k4 a0 (rd t145 x12_4) x10_60 1 t169 true _ A68.out).mono ?_); rintro e w80 ⟨rfl, hb⟩; have n0_ := Aside0.mk (Kd.R_below (by (with_reducible repeat (first | apply Kd.R_alloc | apply Kd.R_drewN | apply Kd.R_drew)); exact HO_5.out) hb); have n1_ := Aside0.mk (below_step (by repeat (first | (with_reducible first | exact HB.out | apply below_alloc | apply pw_below_drewN | apply below_drew1) | exact HB.out)) hb); clear HO_5; clear HB; have HO_5 := n0_; have HB := n1_; clear n0_ n1_; (try clear hb); (try clear hb2); (try clear hk); (try clear hi); have p171 : 0 ≤ ((ji69) : Int) := of_decide_eq_true (by first | (with_reducible assumption) | assumption); have q171 : (ji69) < (t145.length : Int) := of_decide_eq_true (by first | (with_reducible assumption) | assumption); obtain ⟨ad171, e171, hx171_0⟩ := Kd.at_int (Kd.R_reads' HO_5.out).2.2 (ji69) p171 q171; obtain rfl : ad168 = ad171 := (by injection e171); replace p171 := eq_true p171; replace q171 := eq_true q171) | (go_at_call 41; (with_reducible refine (hop_Go.calls k4 a0 (rd t145 (ji69)) x11_60 1 t172 t173 _ A71.out).mono ?_); rintro e w81 ⟨rfl, hb⟩; have n0_ := Aside0.mk (Kd.R_below (by (with_reducible repeat (first | apply Kd.R_alloc | apply Kd.R_drewN | apply Kd.R_drew)); exact HO_5.out) hb); have n1_ := Aside0.mk (below_step (by repeat (first | (with_reducible first | exact HB.out | apply below_alloc | apply pw_below_drewN | apply below_drew1) | exact HB.out)) hb); clear HO_5; clear HB; have HO_5 := n0_; have HB := n1_; clear n0_ n1_; (try clear hb); (try clear hb2); (try clear hk); (try clear hi); have p174 : 0 ≤ ((ji69) : Int) := of_decide_eq_true (by first | (with_reducible assumption) | assumption); have q174 : (ji69) < (t145.length : Int) := of_decide_eq_true (by first | (with_reducible assumption) | assumption); obtain ⟨ad174, e174, hx174_0⟩ := Kd.at_int (Kd.R_reads' HO_5.out).2.2 (ji69) p174 q174; obtain rfl : ad168 = ad174 := (by injection e174); replace p174 := eq_true p174; replace q174 := eq_true q174; have p175 : 0 ≤ (x12_4 : Int) := of_decide_eq_true (by first | (with_reducible assumption) | assumption); have q175 : x12_4 < (t145.length : Int) := of_decide_eq_true (by first | (with_reducible assumption) | assumption); obtain ⟨ad175, e175, hx175_0⟩ := Kd.at_int (Kd.R_reads' HO_5.out).2.2 x12_4 p175 q175; obtain rfl : ad168 = ad175 := (by injection e175); replace p175 := eq_true p175; replace q175 := eq_true q175)))
                                      go_ret
                                      exact ⟨by first | rfl | (simp [errW_none, errW_some] <;> rfl) | (simp only [← hji69]; first | rfl | (simp [errW_none, errW_some] <;> rfl)) | (simp [*, errW_none, errW_some] <;> rfl), by repeat (first | (with_reducible first | exact HB.out | apply below_alloc | apply pw_below_drewN | apply below_drew1) | exact HB.out)⟩
                                  · replace c73 := Bool.eq_false_iff.mpr c73
                                    subst c73
                                    have H1 : (some false) = some r := by rw [if_neg (show ¬ (false = true) by decide)] at H; exact H
                                    clear H
                                    have H := H1
                                    clear H1
                                    obtain rfl := Option.some.inj H
                                    have p168 : 0 ≤ (x12_4 : Int) := of_decide_eq_true (by first | (with_reducible assumption) | assumption)
                                    have q168 : x12_4 < (t145.length : Int) := of_decide_eq_true (by first | (with_reducible assumption) | assumption)
                                    obtain ⟨ad168, e168, hx168_0⟩ := Kd.at_int (Kd.R_reads' HO_5.out).2.2 x12_4 p168 q168
                                    cases e168
                                    replace p168 := eq_true p168
                                    replace q168 := eq_true q168
                                    go_wp2_with (first | (go_at_call 41; (with_reducible refine (hop_Go.calls k4 a0 (rd t145 x12_4) x10_60 1 t169 false _ A68.out).mono ?_); rintro e w82 ⟨rfl, hb⟩; have n0_ := Aside0.mk (Kd.R_below (by (with_reducible repeat (first | apply Kd.R_alloc | apply Kd.R_drewN | apply Kd.R_drew)); exact HO_5.out) hb); have n1_ := Aside0.mk (below_step (by repeat (first | (with_reducible first | exact HB.out | apply below_alloc | apply pw_below_drewN | apply below_drew1) | exact HB.out)) hb); clear HO_5; clear HB; have HO_5 := n0_; have HB := n1_; clear n0_ n1_; (try clear hb); (try clear hb2); (try clear hk); (try clear hi); have p171 : 0 ≤ ((ji69) : Int) := of_decide_eq_true (by first | (with_reducible assumption) | assumption); have q171 : (ji69) < (t145.length : Int) := of_decide_eq_true (by first | (with_reducible assumption) | assumption); obtain ⟨ad171, e171, hx171_0⟩ := Kd.at_int (Kd.R_reads' HO_5.out).2.2 (ji69) p171 q171; obtain rfl : ad168 = ad171 := (by injection e171); replace p171 := eq_true p171; replace q171 := eq_true q171) | (go_at_call 41; (with_reducible refine (hop_Go.calls k4 a0 (rd t145 (ji69)) x11_60 1 t172 t173 _ A71.out).mono ?_); rintro e w83 ⟨rfl, hb⟩; have n0_ := Aside0.mk (Kd.R_below (by (with_reducible repeat (first | apply Kd.R_alloc | apply Kd.R_drewN | apply Kd.R_drew)); exact HO_5.out) hb); have n1_ := Aside0.mk (below_step (by repeat (first | (with_reducible first | exact HB.out | apply below_alloc | apply pw_below_drewN | apply below_drew1) | exact HB.out)) hb); clear HO_5; clear HB; have HO_5 := n0_; have HB := n1_; clear n0_ n1_; (try clear hb); (try clear hb2); (try clear hk); (try clear hi); have p174 : 0 ≤ ((ji69) : Int) := of_decide_eq_true (by first | (with_reducible assumption) | assumption); have q174 : (ji69) < (t145.length : Int) := of_decide_eq_true (by first | (with_reducible assumption) | assumption); obtain ⟨ad174, e174, hx174_0⟩ := Kd.at_int (Kd.R_reads' HO_5.out).2.2 (ji69) p174 q174; obtain rfl : ad168 = ad174 := (by injection e174); replace p174 := eq_true p174; replace q174 := eq_true q174))
                                    repeat (go_quiet (fail); try go_wp2_with (first | (go_at_call 41; (with_reducible refine (hop_Go.calls k4 a0 (rd t145 x12_4) x10_60 1 t169 false _ A68.out).mono ?_); rintro e w82 ⟨rfl, hb⟩; have n0_ := Aside0.mk (Kd.R_below (by (with_reducible repeat (first | apply Kd.R_alloc | apply Kd.R_drewN | apply Kd.R_drew)); exact HO_5.out) hb); have n1_ := Aside0.mk (below_step (by repeat (first | (with_reducible first | exact HB.out | apply below_alloc | apply pw_below_drewN | apply below_drew1) | exact HB.out)) hb); clear HO_5; clear HB; have HO_5 := n0_; have HB := n1_; clear n0_ n1_; (try clear hb); (try clear hb2); (try clear hk); (try clear hi); have p171 : 0 ≤ ((ji69) : Int) := of_decide_eq_true (by first | (with_reducible assumption) | assumption); have q171 : (ji69) < (t145.length : Int) := of_decide_eq_true (by first | (with_reducible assumption) | assumption); obtain ⟨ad171, e171, hx171_0⟩ := Kd.at_int (Kd.R_reads' HO_5.out).2.2 (ji69) p171 q171; obtain rfl : ad168 = ad171 := (by injection e171); replace p171 := eq_true p171; replace q171 := eq_true q171) | (go_at_call 41; (with_reducible refine (hop_Go.calls k4 a0 (rd t145 (ji69)) x11_60 1 t172 t173 _ A71.out).mono ?_); rintro e w83 ⟨rfl, hb⟩; have n0_ := Aside0.mk (Kd.R_below (by (with_reducible repeat (first | apply Kd.R_alloc | apply Kd.R_drewN | apply Kd.R_drew)); exact HO_5.out) hb); have n1_ := Aside0.mk (below_step (by repeat (first | (with_reducible first | exact HB.out | apply below_alloc | apply pw_below_drewN | apply below_drew1) | exact HB.out)) hb); clear HO_5; clear HB; have HO_5 := n0_; have HB := n1_; clear n0_ n1_; (try clear hb); (try clear hb2); (try clear hk); (try clear hi); have p174 : 0 ≤ ((ji69) : Int) := of_decide_eq_true (by first | (with_reducible assumption) | assumption); have q174 : (ji69) < (t145.length : Int) := of_decide_eq_true (by first | (with_reducible assumption) | assumption); obtain ⟨ad174, e174, hx174_0⟩ := Kd.at_int (Kd.R_reads' HO_5.out).2.2 (ji69) p174 q174; obtain rfl : ad168 = ad174 := (by injection e174); replace p174 := eq_true p174; replace q174 := eq_true q174)))
                                    go_ret
                                    exact ⟨by first | rfl | (simp [errW_none, errW_some] <;> rfl) | (simp only [← hji69]; first | rfl | (simp [errW_none, errW_some] <;> rfl)) | (simp [*, errW_none, errW_some] <;> rfl), by repeat (first | (with_reducible first | exact HB.out | apply below_alloc | apply pw_below_drewN | apply below_drew1) | exact HB.out)⟩
                                · rw [if_neg c72] at H
                                  have c72b0 : (t169 == (rd t145 (ji69))) = false := beq_eq_false_iff_ne.mpr c72
                                  have c72b1 : (t169 != (rd t145 (ji69))) = true := bne_iff_ne.mpr c72
                                  obtain rfl := Option.some.inj H
                                  have p168 : 0 ≤ (x12_4 : Int) := of_decide_eq_true (by first | (with_reducible assumption) | assumption)
                                  have q168 : x12_4 < (t145.length : Int) := of_decide_eq_true (by first | (with_reducible assumption) | assumption)
                                  obtain ⟨ad168, e168, hx168_0⟩ := Kd.at_int (Kd.R_reads' HO_5.out).2.2 x12_4 p168 q168
                                  cases e168
                                  replace p168 := eq_true p168
                                  replace q168 := eq_true q168
                                  go_wp2_with (first | (go_at_call 41; (with_reducible refine (hop_Go.calls k4 a0 (rd t145 x12_4) x10_60 1 t169 t170 _ A68.out).mono ?_); rintro e w84 ⟨rfl, hb⟩; have n0_ := Aside0.mk (Kd.R_below (by (with_reducible repeat (first | apply Kd.R_alloc | apply Kd.R_drewN | apply Kd.R_drew)); exact HO_5.out) hb); have n1_ := Aside0.mk (below_step (by repeat (first | (with_reducible first | exact HB.out | apply below_alloc | apply pw_below_drewN | apply below_drew1) | exact HB.out)) hb); clear HO_5; clear HB; have HO_5 := n0_; have HB := n1_; clear n0_ n1_; (try clear hb); (try clear hb2); (try clear hk); (try clear hi); have p171 : 0 ≤ ((ji69) : Int) := of_decide_eq_true (by first | (with_reducible assumption) | assumption); have q171 : (ji69) < (t145.length : Int) := of_decide_eq_true (by first | (with_reducible assumption) | assumption); obtain ⟨ad171, e171, hx171_0⟩ := Kd.at_int (Kd.R_reads' HO_5.out).2.2 (ji69) p171 q171; obtain rfl : ad168 = ad171 := (by injection e171); replace p171 := eq_true p171; replace q171 := eq_true q171) | (go_at_call 41; (with_reducible refine (hop_Go.calls k4 a0 (rd t145 (ji69)) x11_60 1 t172 t173 _ A71.out).mono ?_); rintro e w85 ⟨rfl, hb⟩; have n0_ := Aside0.mk (Kd.R_below (by (with_reducible repeat (first | apply Kd.R_alloc | apply Kd.R_drewN | apply Kd.R_drew)); exact HO_5.out) hb); have n1_ := Aside0.mk (below_step (by repeat (first | (with_reducible first | exact HB.out | apply below_alloc | apply pw_below_drewN | apply below_drew1) | exact HB.out)) hb); clear HO_5; clear HB; have HO_5 := n0_; have HB := n1_; clear n0_ n1_; (try clear hb); (try clear hb2); (try clear hk); (try clear hi); have p174 : 0 ≤ ((ji69) : Int) := of_decide_eq_true (by first | (with_reducible assumption) | assumption); have q174 : (ji69) < (t145.length : Int) := of_decide_eq_true (by first | (with_reducible assumption) | assumption); obtain ⟨ad174, e174, hx174_0⟩ := Kd.at_int (Kd.R_reads' HO_5.out).2.2 (ji69) p174 q174; obtain rfl : ad168 = ad174 := (by injection e174); replace p174 := eq_true p174; replace q174 := eq_true q174))
                                  repeat (go_quiet (fail); try go_wp2_with (first | (go_at_call 41; (with_reducible refine (hop_Go.calls k4 a0 (rd t145 x12_4) x10_60 1 t169 t170 _ A68.out).mono ?_); rintro e w84 ⟨rfl, hb⟩; have n0_ := Aside0.mk (Kd.R_below (by (with_reducible repeat (first | apply Kd.R_alloc | apply Kd.R_drewN | apply Kd.R_drew)); exact HO_5.out) hb); have n1_ := Aside0.mk (below_step (by repeat (first | (with_reducible first | exact HB.out | apply below_alloc | apply pw_below_drewN | apply below_drew1) | exact HB.out)) hb); clear HO_5; clear HB; have HO_5 := n0_; have HB := n1_; clear n0_ n1_; (try clear hb); (try clear hb2); (try clear hk); (try clear hi); have p171 : 0 ≤ ((ji69) : Int) := of_decide_eq_true (by first | (with_reducible assumption) | assumption); have q171 : (ji69) < (t145.length : Int) := of_decide_eq_true (by first | (with_reducible assumption) | assumption); obtain ⟨ad171, e171, hx171_0⟩ := Kd.at_int (Kd.R_reads' HO_5.out).2.2 (ji69) p171 q171; obtain rfl : ad168 = ad171 := (by injection e171); replace p171 := eq_true p171; replace q171 := eq_true q171) | (go_at_call 41; (with_reducible refine (hop_Go.calls k4 a0 (rd t145 (ji69)) x11_60 1 t172 t173 _ A71.out).mono ?_); rintro e w85 ⟨rfl, hb⟩; have n0_ := Aside0.mk (Kd.R_below (by (with_reducible repeat (first | apply Kd.R_alloc | apply Kd.R_drewN | apply Kd.R_drew)); exact HO_5.out) hb); have n1_ := Aside0.mk (below_step (by repeat (first | (with_reducible first | exact HB.out | apply below_alloc | apply pw_below_drewN | apply below_drew1) | exact HB.out)) hb); clear HO_5; clear HB; have HO_5 := n0_; have HB := n1_; clear n0_ n1_; (try clear hb); (try clear hb2); (try clear hk); (try clear hi); have p174 : 0 ≤ ((ji69) : Int) := of_decide_eq_true (by first | (with_reducible assumption) | assumption); have q174 : (ji69) < (t145.length : Int) := of_decide_eq_true (by first | (with_reducible assumption) | assumption); obtain ⟨ad174, e174, hx174_0⟩ := Kd.at_int (Kd.R_reads' HO_5.out).2.2 (ji69) p174 q174; obtain rfl : ad168 = ad174 := (by injection e174); replace p174 := eq_true p174; replace q174 := eq_true q174)))
                                  go_ret
                                  exact ⟨by first | rfl | (simp [errW_none, errW_some] <;> rfl) | (simp only [← hji69]; first | rfl | (simp [errW_none, errW_some] <;> rfl)) | (simp [*, errW_none, errW_some] <;> rfl), by repeat (first | (with_reducible first | exact HB.out | apply below_alloc | apply pw_below_drewN | apply below_drew1) | exact HB.out)⟩
                              · rw [if_neg c70] at H
                                exact absurd H (by simp)
                            · rw [if_neg c67] at H
                              exact absurd H (by simp)
                          · rw [if_neg c66] at H
                            exact absurd H (by simp)
                        · rw [if_neg c65] at H
                          have c65b0 : decide ((wrap64 (x12_4 + 1)) < (t145.length : Int)) = false := decide_eq_false c65
                          clear c65
                          replace H := Option.bind_eq_some_iff.mp H
                          obtain ⟨t167, A860, H⟩ := H
                          replace H : (some t167) = some r := H
                          have A86 := Aside0.mk A860
                          clear A860
                          obtain rfl := Option.some.inj H
                          go_wp2_with (first | (go_at_call 36; (with_reducible refine (calamuslaw15_lives.calls k4  t167 _ A86.out).mono ?_); rintro e w87 ⟨rfl, hb⟩; have n0_ := Aside0.mk (Kd.R_below (by (with_reducible repeat (first | apply Kd.R_alloc | apply Kd.R_drewN | apply Kd.R_drew)); exact HO_5.out) hb); have n1_ := Aside0.mk (below_step (by repeat (first | (with_reducible first | exact HB.out | apply below_alloc | apply pw_below_drewN | apply below_drew1) | exact HB.out)) hb); clear HO_5; clear HB; have HO_5 := n0_; have HB := n1_; clear n0_ n1_; (try clear hb); (try clear hb2); (try clear hk); (try clear hi)))
                          repeat (go_quiet (fail); try go_wp2_with (first | (go_at_call 36; (with_reducible refine (calamuslaw15_lives.calls k4  t167 _ A86.out).mono ?_); rintro e w87 ⟨rfl, hb⟩; have n0_ := Aside0.mk (Kd.R_below (by (with_reducible repeat (first | apply Kd.R_alloc | apply Kd.R_drewN | apply Kd.R_drew)); exact HO_5.out) hb); have n1_ := Aside0.mk (below_step (by repeat (first | (with_reducible first | exact HB.out | apply below_alloc | apply pw_below_drewN | apply below_drew1) | exact HB.out)) hb); clear HO_5; clear HB; have HO_5 := n0_; have HB := n1_; clear n0_ n1_; (try clear hb); (try clear hb2); (try clear hk); (try clear hi))))
                          go_ret
                          exact ⟨by first | rfl | (simp [errW_none, errW_some] <;> rfl) | (simp [*, errW_none, errW_some] <;> rfl), by repeat (first | (with_reducible first | exact HB.out | apply below_alloc | apply pw_below_drewN | apply below_drew1) | exact HB.out)⟩
              · rw [if_neg c60] at H
                have c60b0 : (x7_2 == (t148.length : Int)) = false := beq_eq_false_iff_ne.mpr c60
                have c60b1 : (x7_2 != (t148.length : Int)) = true := bne_iff_ne.mpr c60
                obtain rfl := Option.some.inj H
                obtain ⟨Ao88, co88, eo88⟩ := Kd.R_slice HO_5.out
                subst eo88
                obtain ⟨Ao89, co89, eo89⟩ := Kd.R_slice HO_6.out
                subst eo89
                go_wp2
                repeat (go_quiet (fail); try go_wp2)
                go_ret
                exact ⟨by first | rfl | (simp [errW_none, errW_some] <;> rfl) | (simp [*, errW_none, errW_some] <;> rfl), by repeat (first | (with_reducible first | exact HB.out | apply below_alloc | apply pw_below_drewN | apply below_drew1) | exact HB.out)⟩

def calamuslaw15_HopAlternate.Pure : Prop := ∀ (a0 : ByteArray) (a1 : Bool), a0.size ≤ 140737488351232 → ∃ k, calamuslaw15_HopAlternate.f k a0 a1 = some true
theorem calamuslaw15_HopAlternate.walk (P : calamuslaw15_HopAlternate.Pure) (a0 : ByteArray) (a1 : Bool) (w : World) (w0 : a0.size ≤ 140737488351232) :
    Calls Try.prog 13 #[.string a0, .bool a1] w fun e w' => e = .returned (.bool true) ∧ Below w.heap.size w w' := by
  obtain ⟨k, h⟩ := P a0 a1 w0
  refine (calamuslaw15_HopAlternate.calls k a0 a1 true w h).mono ?_
  rintro e w' ⟨rfl, hd⟩
  exact ⟨rfl, hd⟩

end Go.Proofs.Ythjlhbblflmajaa.QX
/- The statement HopAlternate in plain words. -/
namespace Go.Proofs.Ythjlhbblflmajaa
open Go.RowKit
set_option linter.unusedVariables false
set_option linter.unusedSimpArgs false
namespace HX
open Go.RowKit Go.Proofs.Ythjlhbblflmajaa.QX Go.Proofs.YthjlhbblflmajaaW.PrintWords Go.Proofs.YthjlhbblflmajaaW.PrintMore
def GoodW (l : List UInt8) (x : Nat × Int) : Prop := (x.2 = -1 ∧ emB l x.1 = true) ∨ (0 ≤ x.2 ∧ emB l x.1 = false ∧ (x.1 : Int) ≤ x.2)
theorem wq_facts {l : List UInt8} {big : Bool} : ∀ (qs : List Nat) (last : Int) (fr : Nat) (prev : Int), qs.Pairwise (· < ·) → (∀ q ∈ qs, placeB l q = true) → (last ≠ 0 → (fr : Int) ≤ prev ∧ emB l fr = false ∧ ∀ q ∈ qs, prev < (q : Int)) →
    (∀ x ∈ wq l big qs last fr prev, GoodW l x ∧ (x.1 ∈ qs ∨ (x.1 = fr ∧ last ≠ 0))) ∧ (wq l big qs last fr prev).Pairwise (fun a b => a.2 < (b.1 : Int))
  | [], _, _, _, _, _, _ => ⟨fun x hx => by simp [wq] at hx, by simp [wq]⟩
  | p :: r, last, fr, prev, hs, hpl, hl => by
    obtain ⟨hs1, hs2⟩ := List.pairwise_cons.1 hs
    have hpp := hpl p List.mem_cons_self
    have ih := wq_facts (l := l) (big := big) r (kc l big p) (if kc l big p ≠ last then p else fr) p hs2 (fun q hq => hpl q (List.mem_cons_of_mem _ hq)) (fun hk => by
      have hem : emB l p = false := by
        rcases Bool.eq_false_or_eq_true (emB l p) with h | h
        · exact absurd (em_kc hpp h) hk
        · exact h
      by_cases hc : kc l big p ≠ last
      · rw [if_pos hc]; exact ⟨Int.le_refl _, hem, fun q hq => Int.ofNat_lt.2 (hs1 q hq)⟩
      · rw [if_neg hc]
        have hlast : last ≠ 0 := by simp at hc; omega
        obtain ⟨a1, a2, a3⟩ := hl hlast
        have := a3 p List.mem_cons_self
        exact ⟨by omega, a2, fun q hq => Int.ofNat_lt.2 (hs1 q hq)⟩)
    obtain ⟨ih1, ih2⟩ := ih
    have hrest : ∀ x ∈ wq l big r (kc l big p) (if kc l big p ≠ last then p else fr) p, GoodW l x ∧ (x.1 ∈ p :: r ∨ (x.1 = fr ∧ last ≠ 0)) := by
      intro x hx
      obtain ⟨g1, g2⟩ := ih1 x hx
      refine ⟨g1, ?_⟩
      rcases g2 with g2 | ⟨g2, g3⟩
      · exact .inl (List.mem_cons_of_mem _ g2)
      · by_cases hc : kc l big p ≠ last
        · rw [if_pos hc] at g2; exact .inl (by rw [g2]; exact List.mem_cons_self)
        · rw [if_neg hc] at g2; exact .inr ⟨g2, by simp at hc; omega⟩
    unfold wq
    constructor
    · intro x hx
      rcases List.mem_append.1 hx with hx | hx
      · split at hx
        · rename_i hc
          obtain rfl := List.mem_singleton.1 hx
          obtain ⟨a1, a2, a3⟩ := hl hc.2
          exact ⟨.inr ⟨by show (0 : Int) ≤ prev; omega, a2, a1⟩, .inr ⟨rfl, hc.2⟩⟩
        · simp at hx
      · rcases List.mem_append.1 hx with hx | hx
        · split at hx
          · rename_i hc
            obtain rfl := List.mem_singleton.1 hx
            exact ⟨.inl ⟨rfl, hc.2⟩, .inl List.mem_cons_self⟩
          · simp at hx
        · exact hrest x hx
    · rw [List.pairwise_append]
      refine ⟨by split <;> simp, ?_, ?_⟩
      · rw [List.pairwise_append]
        refine ⟨by split <;> simp, ih2, ?_⟩
        intro a ha b hb
        split at ha
        · obtain rfl := List.mem_singleton.1 ha
          show (-1 : Int) < b.1; omega
        · simp at ha
      · intro a ha b hb
        split at ha
        · rename_i hc
          obtain rfl := List.mem_singleton.1 ha
          obtain ⟨a1, a2, a3⟩ := hl hc.2
          have hpv := a3 p List.mem_cons_self
          rcases List.mem_append.1 hb with hb | hb
          · split at hb
            · obtain rfl := List.mem_singleton.1 hb
              exact hpv
            · simp at hb
          · obtain ⟨_, g2⟩ := ih1 b hb
            rcases g2 with g2 | ⟨g2, _⟩
            · exact a3 b.1 (List.mem_cons_of_mem _ g2)
            · rw [if_pos hc.1] at g2; rw [g2]; exact hpv
        · simp at ha
theorem words_facts {l : List UInt8} (big : Bool) (hv : validL l = true) : (∀ x ∈ wordsI l big, GoodW l x) ∧ (wordsI l big).Pairwise (fun a b => a.2 < (b.1 : Int)) := by
  unfold wordsI
  rw [wl_wq]
  have h := wq_facts (l := l) (big := big) (plsF l (l.length + 1) 0) 0 0 (-1) (plsF_rise _ _ (place_zero hv)) (fun q hq => plsF_place _ _ _ (place_zero hv) hq) (fun h => absurd rfl h)
  exact ⟨fun x hx => (h.1 x hx).1, h.2⟩
theorem starts0_app (a b : List (Nat × Int)) : starts0 (a ++ b) = starts0 a ++ starts0 b := by simp [starts0]
theorem starts0_length (a : List (Nat × Int)) : (starts0 a).length = a.length := by simp [starts0]
theorem rd_mid (a b : List Int) (x : Int) (i : Int) (h : i = (a.length : Nat)) : rd (a ++ x :: b) i = x := by
  rw [h, rd_nat _ _ (by simp)]; simp
theorem ha_l1 (t : ByteArray) (ht : t.size ≤ 1000) (big : Bool) (kw kb : ByteArray) (hv : validL (ls t) = true) (h1 : hasK kw = true) (h2 : hasK kb = true) (h3 : kdK kw = 0) (h4 : kdK kb = 1) (h5 : bigK kw = big) (h6 : bigK kb = big) :
    Ev (fun k => calamuslaw15_HopAlternate.l1 k t (startsI (ls t) big) kw kb 0) true := by
  have hs := starts_rise (ls t) big
  have hln := startsI_len (ls t) big
  have hle := @starts_le (ls t) big
  have hpl := fun x => @starts_place (ls t) big x
  rw [ls_len] at hln hle
  have fin : ∀ i : Nat, ¬ i + 1 < (startsI (ls t) big).length → i ≤ 100000 → Ev (fun k => calamuslaw15_HopAlternate.l1 k t (startsI (ls t) big) kw kb i) true := by
    intro i hi hi2
    refine Ev.step (fun _ => (by rw [calamuslaw15_HopAlternate.l1])) ?_
    rw [w64 (n := (i : Int) + 1) (by omega) (by omega)]
    exact Ev.neg (by omega) (Ev.bind lives_ev (Ev.ret rfl))
  have key : ∀ (d i : Nat), (startsI (ls t) big).length - i ≤ d → i ≤ 100000 → Ev (fun k => calamuslaw15_HopAlternate.l1 k t (startsI (ls t) big) kw kb i) true := by
    intro d
    induction d with
    | zero => intro i hd hi2; exact fin i (by omega) hi2
    | succ d ih =>
      intro i hd hi2
      by_cases hi : i + 1 < (startsI (ls t) big).length
      · refine Ev.step (fun _ => (by rw [calamuslaw15_HopAlternate.l1])) ?_
        rw [w64 (n := (i : Int) + 1) (by omega) (by omega), show (i : Int) + 1 = ((i + 1 : Nat) : Int) by omega, rd_nat _ i (by omega), rd_nat _ (i + 1) hi]
        have pa := hpl _ (List.getElem_mem (show i < (startsI (ls t) big).length by omega))
        have pb := hpl _ (List.getElem_mem hi)
        have ga : goI (ls t) ((startsI (ls t) big)[i]'(by omega)) kw 1 = ((startsI (ls t) big)[i + 1], true) := by
          unfold goI goS
          rw [if_pos ⟨h1, pa⟩, h3, h5]
          have e : stepH (ls t) 0 big ((startsI (ls t) big)[i]'(by omega)) = some ((startsI (ls t) big)[i + 1]) := by
            unfold stepH stW
            rw [if_pos rfl, lessN_succ hs i (by omega), if_pos hi, getD_at _ _ hi]
          rw [show (max (1 : Int) 1).toNat = 1 from rfl]
          simp only [runS, e]
        have gb : goI (ls t) ((startsI (ls t) big)[i + 1]) kb 1 = ((startsI (ls t) big)[i]'(by omega), true) := by
          unfold goI goS
          rw [if_pos ⟨h2, pb⟩, h4, h6]
          have e : stepH (ls t) 1 big ((startsI (ls t) big)[i + 1]) = some ((startsI (ls t) big)[i]'(by omega)) := by
            unfold stepH stB
            rw [if_neg (by decide), if_pos rfl, lessN_self hs (i + 1) hi, if_neg (by omega), Nat.add_sub_cancel, getD_at _ _ (by omega)]
          rw [show (max (1 : Int) 1).toNat = 1 from rfl]
          simp only [runS, e]
        have ea := hop_go t ((startsI (ls t) big)[i]'(by omega)) kw 1 (by omega) (by omega)
        have eb := hop_go t ((startsI (ls t) big)[i + 1]) kb 1 (by omega) (by omega)
        rw [ga] at ea
        rw [gb] at eb
        exact Ev.pos (by omega) (Ev.pos (by omega) (Ev.pos (by omega) (Ev.bind ea (Ev.pos (by omega) (Ev.bind eb (Ev.pos rfl (Ev.pos rfl (Ev.pos rfl (Ev.pos rfl (ih (i + 1) (by omega) (by omega)))))))))))
      · exact fin i hi hi2
  exact key _ 0 (Nat.le_refl _) (by omega)
theorem em_val (l : List UInt8) (x : Nat) : emB l x = ((decide (x = 0) || decide (byL l (x - 1) = 10)) && (decide (x = l.length) || decide (byL l x = 10))) := rfl
theorem ha_j2 (t : ByteArray) (ht : t.size ≤ 1000) (big : Bool) (S E : List Int) (k i : Int) (x : Nat) (hi0 : 0 ≤ i) (hi : i < S.length) (hr : rd S i = x) (hx : x ≤ t.size) (R : Bool)
    (h : Ev (fun n => calamuslaw15_HopAlternate.j3 n t big S E k i (emB (ls t) x)) R) : Ev (fun n => calamuslaw15_HopAlternate.j2 n t big S E k i false) R := by
  have hlen : (ls t).length = t.size := ls_len t
  refine Ev.step (fun _ => (by rw [calamuslaw15_HopAlternate.j2])) ?_
  rw [hr]
  refine Ev.neg (by decide) (Ev.pos hi0 (Ev.pos hi (Ev.ite (fun h0 => ?_) (fun h0 => ?_))))
  · have hx0 : x = 0 := by omega
    refine Ev.ite (fun he => ?_) (fun he => ?_)
    · have : emB (ls t) x = true := by rw [em_val, decide_eq_true hx0, decide_eq_true (show x = (ls t).length by omega)]; rfl
      rw [this] at h; exact h
    · refine Ev.pos (by omega) (Ev.pos (by omega) ?_)
      rw [bt_nat t x (by omega)]
      have : emB (ls t) x = (byL (ls t) x == 10) := by rw [em_val, decide_eq_true hx0, decide_eq_false (show ¬ x = (ls t).length by omega)]; rfl
      rw [this] at h; exact h
  · have hx0 : ¬ x = 0 := by omega
    rw [w64 (n := (x : Int) - 1) (by omega) (by omega), show (x : Int) - 1 = ((x - 1 : Nat) : Int) by omega, bt_nat t (x - 1) (by omega)]
    refine Ev.pos (by omega) (Ev.pos (by omega) (Ev.ite (fun hb => ?_) (fun hb => ?_)))
    · refine Ev.ite (fun he => ?_) (fun he => ?_)
      · have : emB (ls t) x = true := by rw [em_val, decide_eq_true hb, decide_eq_true (show x = (ls t).length by omega)]; simp
        rw [this] at h; exact h
      · refine Ev.pos (by omega) (Ev.pos (by omega) ?_)
        rw [bt_nat t x (by omega)]
        have : emB (ls t) x = (byL (ls t) x == 10) := by rw [em_val, decide_eq_true hb, decide_eq_false (show ¬ x = (ls t).length by omega)]; simp; rfl
        rw [this] at h; exact h
    · have : emB (ls t) x = false := by rw [em_val, decide_eq_false hx0, decide_eq_false hb]; rfl
      rw [this] at h; exact h
theorem ha_l0 (t : ByteArray) (ht : t.size ≤ 1000) (big : Bool) (hv : validL (ls t) = true) : ∀ (suf pre : List (Nat × Int)), wordsI (ls t) big = pre ++ suf →
    Ev (fun n => calamuslaw15_HopAlternate.l0 n t big (startsI (ls t) big) (endsI (ls t) big) ((ends0 pre).length : Nat) (pre.length : Nat)) true := by
  have hs := starts_rise (ls t) big
  have hln := startsI_len (ls t) big
  have hpl := fun x => @starts_place (ls t) big x
  obtain ⟨hgood, hpw⟩ := words_facts big hv
  have eS : startsI (ls t) big = starts0 (wordsI (ls t) big) := by unfold startsI; rw [if_pos hv]
  have eE : endsI (ls t) big = ends0 (wordsI (ls t) big) := by unfold endsI; rw [if_pos hv]
  rw [ls_len] at hln
  intro suf
  induction suf with
  | nil =>
    intro pre hW
    rw [List.append_nil] at hW
    have e1 : (startsI (ls t) big).length = pre.length := by rw [eS, hW, starts0_length]
    have e2 : (endsI (ls t) big).length = (ends0 pre).length := by rw [eE, hW]
    refine Ev.step (fun _ => (by rw [calamuslaw15_HopAlternate.l0])) ?_
    refine Ev.neg (by omega) (Ev.pos (by omega) ?_)
    cases big with
    | true =>
      refine Ev.pos rfl ?_
      refine Ev.step (fun _ => (by rw [calamuslaw15_HopAlternate.j4])) ?_
      exact ha_l1 t ht true _ _ hv (by simp only [hasK, toList_ls]; decide) (by simp only [hasK, toList_ls]; decide) (by simp only [kdK, toList_ls]; decide) (by simp only [kdK, toList_ls]; decide) (by simp only [bigK, toList_ls]; decide) (by simp only [bigK, toList_ls]; decide)
    | false =>
      refine Ev.neg (by decide) ?_
      refine Ev.step (fun _ => (by rw [calamuslaw15_HopAlternate.j4])) ?_
      exact ha_l1 t ht false _ _ hv (by simp only [hasK, toList_ls]; decide) (by simp only [hasK, toList_ls]; decide) (by simp only [kdK, toList_ls]; decide) (by simp only [kdK, toList_ls]; decide) (by simp only [bigK, toList_ls]; decide) (by simp only [bigK, toList_ls]; decide)
  | cons x r ih =>
    intro pre hW
    have hn := ih (pre ++ [x]) (by rw [hW]; simp)
    have eS2 : startsI (ls t) big = starts0 pre ++ (x.1 : Int) :: starts0 r := by rw [eS, hW, starts0_app]; simp [starts0]
    have hlS : (startsI (ls t) big).length = pre.length + 1 + r.length := by rw [eS2]; simp [starts0]; omega
    have hr : rd (startsI (ls t) big) (pre.length : Nat) = (x.1 : Int) := by rw [eS2]; exact rd_mid _ _ _ _ (by rw [starts0_length])
    have hmem : (x.1 : Int) ∈ startsI (ls t) big := by rw [eS2]; simp
    have hxp := hpl _ hmem
    have hxs : x.1 ≤ t.size := by have := (valid_at hxp).2.1; rw [ls_len] at this; exact this
    have hxg := hgood x (by rw [hW]; simp)
    have j3 : Ev (fun n => calamuslaw15_HopAlternate.j3 n t big (startsI (ls t) big) (endsI (ls t) big) ((ends0 pre).length : Nat) (pre.length : Nat) (emB (ls t) x.1)) true := by
      refine Ev.step (fun _ => (by rw [calamuslaw15_HopAlternate.j3])) ?_
      rw [w64 (n := ((pre.length : Nat) : Int) + 1) (by omega) (by omega)]
      have ep : ((pre.length : Nat) : Int) + 1 = ((pre ++ [x]).length : Nat) := by simp
      rcases hxg with ⟨g1, g2⟩ | ⟨g1, g2, g3⟩
      · rw [g2]
        refine Ev.pos rfl ?_
        have e0 : ends0 (pre ++ [x]) = ends0 pre := by rw [ends0_append]; simp [ends0, g1]
        rw [ep]
        rw [e0] at hn
        exact hn
      · rw [g2]
        have e0 : ends0 (pre ++ [x]) = ends0 pre ++ [x.2] := by rw [ends0_append]; simp [ends0, g1]
        have eE2 : endsI (ls t) big = ends0 pre ++ x.2 :: ends0 r := by rw [eE, hW, show pre ++ x :: r = (pre ++ [x]) ++ r by simp, ends0_append, e0]; simp
        have hlE : (endsI (ls t) big).length = (ends0 pre).length + 1 + (ends0 r).length := by rw [eE2]; simp; omega
        have hlE2 := endsI_len (ls t) big
        rw [ls_len] at hlE2
        have hrE : rd (endsI (ls t) big) ((ends0 pre).length : Nat) = x.2 := by rw [eE2]; exact rd_mid _ _ _ _ rfl
        rw [hr, hrE, w64 (n := (((ends0 pre).length : Nat) : Int) + 1) (by omega) (by omega)]
        have ek : (((ends0 pre).length : Nat) : Int) + 1 = ((ends0 (pre ++ [x])).length : Nat) := by rw [e0]; simp
        rw [ek, ep]
        refine Ev.neg (by decide) (Ev.neg (by omega) (Ev.pos (by omega) (Ev.pos (by omega) (Ev.pos (by omega) (Ev.pos (by omega) (Ev.neg (by omega) (Ev.ite (fun h => ?_) (fun h => hn))))))))
        refine Ev.pos (by omega) (Ev.neg ?_ hn)
        cases r with
        | nil => simp at hlS h; omega
        | cons y r2 =>
          have hry : rd (startsI (ls t) big) ((pre ++ [x]).length : Nat) = (y.1 : Int) := by
            have e5 : startsI (ls t) big = starts0 (pre ++ [x]) ++ (y.1 : Int) :: starts0 r2 := by rw [eS, hW, show pre ++ x :: y :: r2 = (pre ++ [x]) ++ y :: r2 by simp, starts0_app]; simp [starts0]
            rw [e5]; exact rd_mid _ _ _ _ (by rw [starts0_length])
          rw [hry]
          have : x.2 < (y.1 : Int) := by
            rw [hW] at hpw
            have h6 := (List.pairwise_append.1 hpw).2.1
            exact (List.pairwise_cons.1 h6).1 y List.mem_cons_self
          omega
    have j2 := ha_j2 t ht big (startsI (ls t) big) (endsI (ls t) big) ((ends0 pre).length : Nat) (pre.length : Nat) x.1 (by omega) (by omega) hr hxs true j3
    refine Ev.step (fun _ => (by rw [calamuslaw15_HopAlternate.l0])) ?_
    rw [hr, decide_eq_false (show ¬ (x.1 : Int) > t.size by omega)]
    refine Ev.pos (by omega) (Ev.ite (fun h0 => ?_) (fun h0 => ?_))
    · rw [w64 (n := ((pre.length : Nat) : Int) - 1) (by omega) (by omega)]
      refine Ev.pos (by omega) (Ev.pos (by omega) (Ev.pos (by omega) (Ev.neg ?_ (Ev.neg (by omega) j2))))
      rw [show ((pre.length : Nat) : Int) - 1 = ((pre.length - 1 : Nat) : Int) by omega, rd_nat _ (pre.length - 1) (by omega)]
      have h7 := (List.pairwise_iff_getElem.1 hs) (pre.length - 1) pre.length (by omega) (by omega) (by omega)
      rw [rd_nat _ pre.length (by omega)] at hr
      omega
    · exact Ev.pos (by omega) (Ev.neg (by omega) j2)
theorem HopAlternate_p (t : ByteArray) (big : Bool) (ht : t.size ≤ 140737488351232) : ∃ k, calamuslaw15_HopAlternate.f k t big = some true := by
  refine Ev.at ?_
  unfold calamuslaw15_HopAlternate.f
  have lv : Ev (fun k => calamuslaw15_HopAlternate.j0 k t big true) true := by
    refine Ev.step (fun _ => (by rw [calamuslaw15_HopAlternate.j0])) ?_
    exact Ev.pos rfl (Ev.bind lives_ev (Ev.ret rfl))
  refine Ev.ite (fun h => lv) (fun h => ?_)
  rw [utf_Valid.eq t (by omega)]
  simp only [Option.bind_some]
  rcases Bool.eq_false_or_eq_true (validL (ls t)) with hv | hv
  · rw [hv]
    refine Ev.step (fun _ => (by rw [calamuslaw15_HopAlternate.j0])) ?_
    rw [hop_Starts.eq t big (by omega), hop_Ends.eq t big (by omega)]
    simp only [Option.bind_some]
    have h0 := ha_l0 t (by omega) big hv (wordsI (ls t) big) [] rfl
    exact Ev.neg (by decide) h0
  · rw [hv]; exact lv
end HX
end Go.Proofs.Ythjlhbblflmajaa
