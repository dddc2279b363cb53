/- Joined by merge.py out of this work's texts: Q7, PHu. -/
import Derived.Test.YthjlhbblflmajaaZHTimes1
-- Printed by this work's xp.py out of the translation. Lean checks it.
namespace Go.Proofs.Ythjlhbblflmajaa.Q
open Go.RowKit Go.Proofs.YthjlhbblflmajaaW.PrintWords Go.Proofs.YthjlhbblflmajaaW.PrintLast Go.Proofs.YthjlhbblflmajaaW.PrintMore
attribute [local go_sem] max2_int min2_int max_two min_two max_three min_three max_four min_four   -- for this text's walks alone
set_option linter.unusedVariables false
set_option linter.unusedSimpArgs false


/-! ### calamuslaw15_HopTimes -/
mutual
def calamuslaw15_HopTimes.j0 : Nat → ByteArray → Int → ByteArray → Int → Bool → Option (Bool)
  | 0, _, _, _, _, _ => none
  | k + 1, x0, x1, x2, x3, x26 => if x26 = true then ((calamuslaw15_lives.f k).bind fun t284 => (some t284)) else ((hop_Go.f k x0 x1 x2 (wrap64 (x3))).bind fun bt285 => ((hop_Go.f k x0 x1 x2 1).bind fun bt287 => (if (bt285.2 != bt287.2) = true then (some false) else (calamuslaw15_HopTimes.l0 k x0 x2 x3 bt285.1 bt285.2 bt287.1 bt287.2 1))))
def calamuslaw15_HopTimes.l0 : Nat → ByteArray → ByteArray → Int → Int → Bool → Int → Bool → Int → Option (Bool)
  | 0, _, _, _, _, _, _, _, _ => none
  | k + 1, x0, x2, x3, x9, x10, x11, x12, x13 => if x13 < (wrap64 (x3)) then (calamuslaw15_HopTimes.j2 k x0 x2 x3 x9 x10 x11 x12 x13 x12) else (calamuslaw15_HopTimes.j2 k x0 x2 x3 x9 x10 x11 x12 x13 false)
def calamuslaw15_HopTimes.j2 : Nat → ByteArray → ByteArray → Int → Int → Bool → Int → Bool → Int → Bool → Option (Bool)
  | 0, _, _, _, _, _, _, _, _, _ => none
  | k + 1, x0, x2, x3, x9, x10, x11, x12, x13, x53 => if x53 = true then ((hop_Go.f k x0 x11 x2 1).bind fun bt289 => (if bt289.2 = true then (calamuslaw15_HopTimes.l0 k x0 x2 x3 x9 x10 bt289.1 x12 (wrap64 (x13 + 1))) else (if x9 = x11 then (if x10 = true then ((utf_Place.f x0 x9).bind fun t291 => (if t291 = true then ((calamuslaw15_lives.f k).bind fun t292 => (some t292)) else (some false))) else ((calamuslaw15_lives.f k).bind fun t293 => (some t293))) else (some false)))) else (if x9 = x11 then (if x10 = true then ((utf_Place.f x0 x9).bind fun t294 => (if t294 = true then ((calamuslaw15_lives.f k).bind fun t295 => (some t295)) else (some false))) else ((calamuslaw15_lives.f k).bind fun t296 => (some t296))) else (some false))
end
def calamuslaw15_HopTimes.f (k : Nat) (a0 : ByteArray) (a1 : Int) (a2 : ByteArray) (a3 : Int) : Option (Bool) := if (a0.size : Int) > 200 then (calamuslaw15_HopTimes.j0 k a0 a1 a2 a3 true) else (if a3 < 1 then (calamuslaw15_HopTimes.j0 k a0 a1 a2 a3 true) else (calamuslaw15_HopTimes.j0 k a0 a1 a2 a3 (decide (a3 > 20))))
theorem calamuslaw15_HopTimes.mono_l : ∀ k, (∀ y0 y1 y2 y3 y4, LeO (calamuslaw15_HopTimes.j0 k y0 y1 y2 y3 y4) (calamuslaw15_HopTimes.j0 (k + 1) y0 y1 y2 y3 y4)) ∧ (∀ y0 y1 y2 y3 y4 y5 y6 y7, LeO (calamuslaw15_HopTimes.l0 k y0 y1 y2 y3 y4 y5 y6 y7) (calamuslaw15_HopTimes.l0 (k + 1) y0 y1 y2 y3 y4 y5 y6 y7)) ∧ (∀ y0 y1 y2 y3 y4 y5 y6 y7 y8, LeO (calamuslaw15_HopTimes.j2 k y0 y1 y2 y3 y4 y5 y6 y7 y8) (calamuslaw15_HopTimes.j2 (k + 1) y0 y1 y2 y3 y4 y5 y6 y7 y8))
  | 0 => ⟨fun _ _ _ _ _ r h => by simp [calamuslaw15_HopTimes.j0] at h, fun _ _ _ _ _ _ _ _ r h => by simp [calamuslaw15_HopTimes.l0] at h, fun _ _ _ _ _ _ _ _ _ r h => by simp [calamuslaw15_HopTimes.j2] at h⟩
  | k + 1 => by
    obtain ⟨ih0, ih1, ih2⟩ := calamuslaw15_HopTimes.mono_l k
    refine ⟨?_, ?_, ?_⟩
    · intro y0 y1 y2 y3 y4
      unfold calamuslaw15_HopTimes.j0
      repeat' first
      | (with_reducible exact ih0 _ _ _ _ _)
      | (with_reducible exact ih1 _ _ _ _ _ _ _ _)
      | (with_reducible exact ih2 _ _ _ _ _ _ _ _ _)
      | (with_reducible exact calamuslaw15_lives.mono _)
      | (with_reducible exact hop_Go.mono _ _ _ _ _)
      | (with_reducible exact LeO.refl _)
      | (with_reducible exact LeO.none _)
      | (with_reducible refine LeO.ite ?_ ?_)
      | (with_reducible refine LeO.bind ?_ (fun _ => ?_))
      | exact ih0 _ _ _ _ _
      | exact ih1 _ _ _ _ _ _ _ _
      | exact ih2 _ _ _ _ _ _ _ _ _
      | exact calamuslaw15_lives.mono _
      | exact hop_Go.mono _ _ _ _ _
      | exact LeO.none _
      | refine LeO.ite ?_ ?_
      | refine LeO.bind ?_ (fun _ => ?_)
    · intro y0 y1 y2 y3 y4 y5 y6 y7
      unfold calamuslaw15_HopTimes.l0
      repeat' first
      | (with_reducible exact ih0 _ _ _ _ _)
      | (with_reducible exact ih1 _ _ _ _ _ _ _ _)
      | (with_reducible exact ih2 _ _ _ _ _ _ _ _ _)
      | (with_reducible exact calamuslaw15_lives.mono _)
      | (with_reducible exact hop_Go.mono _ _ _ _ _)
      | (with_reducible exact LeO.refl _)
      | (with_reducible exact LeO.none _)
      | (with_reducible refine LeO.ite ?_ ?_)
      | (with_reducible refine LeO.bind ?_ (fun _ => ?_))
      | exact ih0 _ _ _ _ _
      | exact ih1 _ _ _ _ _ _ _ _
      | exact ih2 _ _ _ _ _ _ _ _ _
      | exact calamuslaw15_lives.mono _
      | exact hop_Go.mono _ _ _ _ _
      | exact LeO.none _
      | refine LeO.ite ?_ ?_
      | refine LeO.bind ?_ (fun _ => ?_)
    · intro y0 y1 y2 y3 y4 y5 y6 y7 y8
      unfold calamuslaw15_HopTimes.j2
      repeat' first
      | (with_reducible exact ih0 _ _ _ _ _)
      | (with_reducible exact ih1 _ _ _ _ _ _ _ _)
      | (with_reducible exact ih2 _ _ _ _ _ _ _ _ _)
      | (with_reducible exact calamuslaw15_lives.mono _)
      | (with_reducible exact hop_Go.mono _ _ _ _ _)
      | (with_reducible exact LeO.refl _)
      | (with_reducible exact LeO.none _)
      | (with_reducible refine LeO.ite ?_ ?_)
      | (with_reducible refine LeO.bind ?_ (fun _ => ?_))
      | exact ih0 _ _ _ _ _
      | exact ih1 _ _ _ _ _ _ _ _
      | exact ih2 _ _ _ _ _ _ _ _ _
      | exact calamuslaw15_lives.mono _
      | exact hop_Go.mono _ _ _ _ _
      | exact LeO.none _
      | refine LeO.ite ?_ ?_
      | refine LeO.bind ?_ (fun _ => ?_)
theorem calamuslaw15_HopTimes.mono : ∀ a0 a1 a2 a3 k, LeO (calamuslaw15_HopTimes.f k a0 a1 a2 a3) (calamuslaw15_HopTimes.f (k + 1) a0 a1 a2 a3) := by
  intro a0 a1 a2 a3 k
  obtain ⟨ih0, ih1, ih2⟩ := calamuslaw15_HopTimes.mono_l k
  unfold calamuslaw15_HopTimes.f
  repeat' first
      | (with_reducible exact ih0 _ _ _ _ _)
      | (with_reducible exact ih1 _ _ _ _ _ _ _ _)
      | (with_reducible exact ih2 _ _ _ _ _ _ _ _ _)
      | (with_reducible exact calamuslaw15_lives.mono _)
      | (with_reducible exact hop_Go.mono _ _ _ _ _)
      | (with_reducible exact LeO.refl _)
      | (with_reducible exact LeO.none _)
      | (with_reducible refine LeO.ite ?_ ?_)
      | (with_reducible refine LeO.bind ?_ (fun _ => ?_))
      | exact ih0 _ _ _ _ _
      | exact ih1 _ _ _ _ _ _ _ _
      | exact ih2 _ _ _ _ _ _ _ _ _
      | exact calamuslaw15_lives.mono _
      | exact hop_Go.mono _ _ _ _ _
      | exact LeO.none _
      | refine LeO.ite ?_ ?_
      | refine LeO.bind ?_ (fun _ => ?_)
set_option maxHeartbeats 8000000 in
set_option maxRecDepth 100000 in
theorem calamuslaw15_HopTimes.calls (k : Nat) (a0 : ByteArray) (a1 : Int) (a2 : ByteArray) (a3 : Int) (r : Bool) (w : World) (h : calamuslaw15_HopTimes.f k a0 a1 a2 a3 = some r) :
    Calls Try.prog 12 #[.string a0, .int .i64 a1, .string a2, .int .u8 a3] w fun e w' => e = .returned (.bool r) ∧ Below w.heap.size w w' := by
  have HB := Aside0.mk (Below.refl w.heap.size w)
  have H : (if (a0.size : Int) > 200 then (calamuslaw15_HopTimes.j0 k a0 a1 a2 a3 true) else (if a3 < 1 then (calamuslaw15_HopTimes.j0 k a0 a1 a2 a3 true) else (calamuslaw15_HopTimes.j0 k a0 a1 a2 a3 (decide (a3 > 20))))) = some r := h
  clear h
  have HC5 := Aside0.mk H
  clear H
  go_enter Try.func12, Try.ntmps12
  go_upto_region 1 with (fail)
  go_cut [26] (fun v26 wc => ∃ (kq : Nat) (x26_4 : Bool), v26 = .bool x26_4 ∧ Aside0 (calamuslaw15_HopTimes.j0 kq a0 a1 a2 a3 x26_4 = some r) ∧ Aside0 (kq ≤ k) ∧ Aside0 (Below w.heap.size w wc))
  case first =>
    have H := HC5.out
    clear HC5
    by_cases c6 : (a0.size : Int) > 200
    · rw [if_pos c6] at H
      have c6b0 : decide (200 < (a0.size : Int)) = true := decide_eq_true c6
      have c6b1 : decide (200 < a0.size) = true := decide_eq_true (by omega)
      clear c6
      (first | rw [c6b0] | (simp only [i64_w, i32_w]; rw [c6b0]) | skip)
      have H' := Aside0.mk H
      clear H
      go_wp2
      go_meet
      case rel => exact ⟨_, (true), (by first | rfl | (simp; done) | (simp [*]; done)), H', ⟨by first | omega | exact Nat.le_refl _⟩, ⟨by repeat (first | (with_reducible first | exact HB.out | apply below_alloc | apply pw_below_drewN | apply below_drew1) | exact HB.out)⟩⟩
    · rw [if_neg c6] at H
      have c6b0 : decide (200 < (a0.size : Int)) = false := decide_eq_false c6
      have c6b1 : decide (200 < a0.size) = false := decide_eq_false (by omega)
      clear c6
      (first | rw [c6b0] | (simp only [i64_w, i32_w]; rw [c6b0]) | skip)
      by_cases c7 : a3 < 1
      · rw [if_pos c7] at H
        have c7b0 : decide (a3 < 1) = true := decide_eq_true c7
        clear c7
        have H' := Aside0.mk H
        clear H
        go_wp2
        go_meet
        case rel => exact ⟨_, (true), (by first | rfl | (simp; done) | (simp [*]; done)), H', ⟨by first | omega | exact Nat.le_refl _⟩, ⟨by repeat (first | (with_reducible first | exact HB.out | apply below_alloc | apply pw_below_drewN | apply below_drew1) | exact HB.out)⟩⟩
      · rw [if_neg c7] at H
        have c7b0 : decide (a3 < 1) = false := decide_eq_false c7
        clear c7
        have H' := Aside0.mk H
        clear H
        go_wp2
        go_meet
        case rel => exact ⟨_, (decide (a3 > 20)), (by first | rfl | (simp; done) | (simp [*]; done)), H', ⟨by first | omega | exact Nat.le_refl _⟩, ⟨by repeat (first | (with_reducible first | exact HB.out | apply below_alloc | apply pw_below_drewN | apply below_drew1) | exact HB.out)⟩⟩
  case rest =>
    clear HC5
    try clear c1
    try clear p2
    try clear c6
    try clear c6b0
    try clear c6b1
    try clear c7
    try clear c7b0
    obtain ⟨kq, x26_4, rfl, HA, HJ4, HB⟩ := hcut
    cases kq with
    | zero => exact absurd HA.out (by simp [calamuslaw15_HopTimes.j0])
    | succ kj4 =>
      have H := HA.out
      clear HA
      simp only [calamuslaw15_HopTimes.j0] at H
      by_cases c8 : x26_4 = true
      · subst c8
        have H1 : ((calamuslaw15_lives.f kj4).bind fun t284 => (some t284)) = some r := by rw [if_pos rfl] at H; exact H
        clear H
        have H := H1
        clear H1
        replace H := Option.bind_eq_some_iff.mp H
        obtain ⟨t284, A90, H⟩ := H
        replace H : (some t284) = some r := H
        have A9 := Aside0.mk A90
        clear A90
        obtain rfl := Option.some.inj H
        go_wp2_with (first | ((with_reducible refine gate_callee (f := 36) rfl ?_); refine goesL_ (some 27) rfl rfl Try.func36 (by kernel_rfl) rfl #[] rfl (by (try simp only [List.map_toArray, List.map_cons, List.map_nil]); first | done | rfl | (simp only [List.length_drop, List.length_take]; rfl)) ?_; (with_reducible refine (calamuslaw15_lives.calls kj4  t284 _ A9.out).mono ?_); rintro e w10 ⟨rfl, hb⟩; refine ⟨_, rfl, ?_⟩; have n0_ := Aside0.mk (below_step (by repeat (first | (with_reducible first | exact HB.out | apply below_alloc | apply pw_below_drewN | apply below_drew1) | exact HB.out)) hb); clear HB; have HB := n0_; clear n0_; (try clear hb); (try clear hb2); (try clear hk); (try clear hi)))
        go_ret
        exact ⟨by first | rfl | (simp [errW_none, errW_some] <;> rfl) | (simp [*, errW_none, errW_some] <;> rfl), by repeat (first | (with_reducible first | exact HB.out | apply below_alloc | apply pw_below_drewN | apply below_drew1) | exact HB.out)⟩
      · replace c8 := Bool.eq_false_iff.mpr c8
        subst c8
        have H1 : ((hop_Go.f kj4 a0 a1 a2 (wrap64 (a3))).bind fun bt285 => ((hop_Go.f kj4 a0 a1 a2 1).bind fun bt287 => (if (bt285.2 != bt287.2) = true then (some false) else (calamuslaw15_HopTimes.l0 kj4 a0 a2 a3 bt285.1 bt285.2 bt287.1 bt287.2 1)))) = some r := by rw [if_neg (show ¬ (false = true) by decide)] at H; exact H
        clear H
        have H := H1
        clear H1
        replace H := Option.bind_eq_some_iff.mp H
        obtain ⟨⟨t285, t286⟩, A110, H⟩ := H
        replace H : ((hop_Go.f kj4 a0 a1 a2 1).bind fun bt287 => (if (t286 != bt287.2) = true then (some false) else (calamuslaw15_HopTimes.l0 kj4 a0 a2 a3 t285 t286 bt287.1 bt287.2 1))) = some r := H
        have A11 := Aside0.mk A110
        clear A110
        replace H := Option.bind_eq_some_iff.mp H
        obtain ⟨⟨t287, t288⟩, A120, H⟩ := H
        replace H : (if (t286 != t288) = true then (some false) else (calamuslaw15_HopTimes.l0 kj4 a0 a2 a3 t285 t286 t287 t288 1)) = some r := H
        have A12 := Aside0.mk A120
        clear A120
        by_cases c13 : (t286 != t288) = true
        · rw [if_pos c13] at H
          have c13b0 : (t286 != t288) = true := c13
          (try (have c13b1 : decide (t286 = t288) = false := by simpa using c13))
          (try (have c13b2 : (t286 == t288) = false := by simpa using c13))
          (try (have c13b3 : ¬ (t286 = t288) := by simpa using c13))
          clear c13
          obtain rfl := Option.some.inj H
          go_wp2_with (first | ((with_reducible refine gate_callee (f := 41) rfl ?_); refine goesL_ (some 34) rfl rfl Try.func41 (by kernel_rfl) rfl #[.string a0, .int .i64 a1, .string a2, .int .i64 (wrap64 (a3))] rfl (by (try simp only [List.map_toArray, List.map_cons, List.map_nil]); first | done | rfl | (simp only [List.length_drop, List.length_take]; rfl)) ?_; (with_reducible refine (hop_Go.calls kj4 a0 a1 a2 (wrap64 (a3)) t285 t286 _ A11.out).mono ?_); rintro e w14 ⟨rfl, hb⟩; refine ⟨_, rfl, ?_⟩; have n0_ := Aside0.mk (below_step (by repeat (first | (with_reducible first | exact HB.out | apply below_alloc | apply pw_below_drewN | apply below_drew1) | exact HB.out)) hb); clear HB; have HB := n0_; clear n0_; (try clear hb); (try clear hb2); (try clear hk); (try clear hi)) | ((with_reducible refine gate_callee (f := 41) rfl ?_); refine goesL_ (some 41) rfl rfl Try.func41 (by kernel_rfl) rfl #[.string a0, .int .i64 a1, .string a2, .int .i64 1] rfl (by (try simp only [List.map_toArray, List.map_cons, List.map_nil]); first | done | rfl | (simp only [List.length_drop, List.length_take]; rfl)) ?_; (with_reducible refine (hop_Go.calls kj4 a0 a1 a2 1 t287 t288 _ A12.out).mono ?_); rintro e w15 ⟨rfl, hb⟩; refine ⟨_, rfl, ?_⟩; have n0_ := Aside0.mk (below_step (by repeat (first | (with_reducible first | exact HB.out | apply below_alloc | apply pw_below_drewN | apply below_drew1) | exact HB.out)) hb); clear HB; have HB := n0_; clear n0_; (try clear hb); (try clear hb2); (try clear hk); (try clear hi)))
          go_ret
          exact ⟨by first | rfl | (simp [errW_none, errW_some] <;> rfl) | (simp [*, errW_none, errW_some] <;> rfl), by repeat (first | (with_reducible first | exact HB.out | apply below_alloc | apply pw_below_drewN | apply below_drew1) | exact HB.out)⟩
        · rw [if_neg c13] at H
          have c13b0 : (t286 != t288) = false := by simpa using c13
          (try (have c13b1 : decide (t286 = t288) = true := by simpa using c13))
          (try (have c13b2 : (t286 == t288) = true := by simpa using c13))
          clear c13
          have H' := Aside0.mk H
          clear H
          go_wp2_with (first | ((with_reducible refine gate_callee (f := 41) rfl ?_); refine goesL_ (some 34) rfl rfl Try.func41 (by kernel_rfl) rfl #[.string a0, .int .i64 a1, .string a2, .int .i64 (wrap64 (a3))] rfl (by (try simp only [List.map_toArray, List.map_cons, List.map_nil]); first | done | rfl | (simp only [List.length_drop, List.length_take]; rfl)) ?_; (with_reducible refine (hop_Go.calls kj4 a0 a1 a2 (wrap64 (a3)) t285 t286 _ A11.out).mono ?_); rintro e w16 ⟨rfl, hb⟩; refine ⟨_, rfl, ?_⟩; have n0_ := Aside0.mk (below_step (by repeat (first | (with_reducible first | exact HB.out | apply below_alloc | apply pw_below_drewN | apply below_drew1) | exact HB.out)) hb); clear HB; have HB := n0_; clear n0_; (try clear hb); (try clear hb2); (try clear hk); (try clear hi)) | ((with_reducible refine gate_callee (f := 41) rfl ?_); refine goesL_ (some 41) rfl rfl Try.func41 (by kernel_rfl) rfl #[.string a0, .int .i64 a1, .string a2, .int .i64 1] rfl (by (try simp only [List.map_toArray, List.map_cons, List.map_nil]); first | done | rfl | (simp only [List.length_drop, List.length_take]; rfl)) ?_; (with_reducible refine (hop_Go.calls kj4 a0 a1 a2 1 t287 t288 _ A12.out).mono ?_); rintro e w17 ⟨rfl, hb⟩; refine ⟨_, rfl, ?_⟩; have n0_ := Aside0.mk (below_step (by repeat (first | (with_reducible first | exact HB.out | apply below_alloc | apply pw_below_drewN | apply below_drew1) | exact HB.out)) hb); clear HB; have HB := n0_; clear n0_; (try clear hb); (try clear hb2); (try clear hk); (try clear hi)))
          go_loopg [11, 13] kj4 (fun kq v11 v13 w' => ∃ (x11_2 : Int) (x13_2 : Int), v11 = .int .i64 x11_2 ∧ v13 = .int .i64 x13_2 ∧ Aside0 (calamuslaw15_HopTimes.l0 kq a0 a2 a3 t285 t286 x11_2 t288 x13_2 = some r) ∧ Aside0 (kq ≤ kj4) ∧ Aside0 (Below w.heap.size w w'))
          case atStart => exact ⟨(t287), (1), (by first | rfl | (simp; done) | (simp [*]; done)), (by first | rfl | (simp; done) | (simp [*]; done)), H', ⟨Nat.le_refl _⟩, ⟨by repeat (first | (with_reducible first | exact HB.out | apply below_alloc | apply pw_below_drewN | apply below_drew1) | exact HB.out)⟩⟩
          case round =>
            clear H'
            try clear c1
            try clear p2
            try clear c3
            try clear c4
            try clear c6
            try clear c6b0
            try clear c6b1
            try clear p6
            try clear c7
            try clear c7b0
            try clear c8
            try clear c12
            try clear c13
            try clear c13b0
            try clear c13b1
            try clear c13b2
            try clear p2
            obtain ⟨x11_2, x13_2, rfl, rfl, HA, HK2, HB⟩ := hrel
            cases gk with
            | zero => exact absurd HA.out (by simp [calamuslaw15_HopTimes.l0])
            | succ k2 =>
              have H := HA.out
              clear HA
              simp only [calamuslaw15_HopTimes.l0] at H
              have HC18 := Aside0.mk H
              clear H
              go_upto_region 8 with (fail)
              go_cut [53] (fun v53 wc => ∃ (kq : Nat) (x53_17 : Bool), v53 = .bool x53_17 ∧ Aside0 (calamuslaw15_HopTimes.j2 kq a0 a2 a3 t285 t286 x11_2 t288 x13_2 x53_17 = some r) ∧ Aside0 (kq ≤ k2) ∧ Aside0 (Below w.heap.size w wc))
              case first =>
                have H := HC18.out
                clear HC18
                by_cases c19 : x13_2 < (wrap64 (a3))
                · rw [if_pos c19] at H
                  have c19b0 : decide (x13_2 < (wrap64 (a3))) = true := decide_eq_true c19
                  clear c19
                  (first | rw [c19b0] | (simp only [i64_w, i32_w]; rw [c19b0]) | skip)
                  have H' := Aside0.mk H
                  clear H
                  go_wp2
                  go_meet
                  case rel => exact ⟨_, (t288), (by first | rfl | (simp; done) | (simp [*]; done)), H', ⟨by have := HJ4.out; have := HK2.out; first | omega | exact Nat.le_refl _⟩, ⟨by repeat (first | (with_reducible first | exact HB.out | apply below_alloc | apply pw_below_drewN | apply below_drew1) | exact HB.out)⟩⟩
                · rw [if_neg c19] at H
                  have c19b0 : decide (x13_2 < (wrap64 (a3))) = false := decide_eq_false c19
                  clear c19
                  (first | rw [c19b0] | (simp only [i64_w, i32_w]; rw [c19b0]) | skip)
                  have H' := Aside0.mk H
                  clear H
                  go_wp2
                  go_meet
                  case rel => exact ⟨_, (false), (by first | rfl | (simp; done) | (simp [*]; done)), H', ⟨by have := HJ4.out; have := HK2.out; first | omega | exact Nat.le_refl _⟩, ⟨by repeat (first | (with_reducible first | exact HB.out | apply below_alloc | apply pw_below_drewN | apply below_drew1) | exact HB.out)⟩⟩
              case rest =>
                clear HC18
                try clear c1
                try clear p2
                try clear c3
                try clear c4
                try clear c6
                try clear c6b0
                try clear c6b1
                try clear p6
                try clear c7
                try clear c7b0
                try clear c8
                try clear c12
                try clear c13
                try clear c13b0
                try clear c13b1
                try clear c13b2
                try clear c19
                try clear c19b0
                try clear p2
                try clear p6
                obtain ⟨kq, x53_17, rfl, HA, HJ17, HB⟩ := hcut
                cases kq with
                | zero => exact absurd HA.out (by simp [calamuslaw15_HopTimes.j2])
                | succ kj17 =>
                  have H := HA.out
                  clear HA
                  simp only [calamuslaw15_HopTimes.j2] at H
                  by_cases c20 : x53_17 = true
                  · subst c20
                    have H1 : ((hop_Go.f kj17 a0 x11_2 a2 1).bind fun bt289 => (if bt289.2 = true then (calamuslaw15_HopTimes.l0 kj17 a0 a2 a3 t285 t286 bt289.1 t288 (wrap64 (x13_2 + 1))) else (if t285 = x11_2 then (if t286 = true then ((utf_Place.f a0 t285).bind fun t291 => (if t291 = true then ((calamuslaw15_lives.f kj17).bind fun t292 => (some t292)) else (some false))) else ((calamuslaw15_lives.f kj17).bind fun t293 => (some t293))) else (some false)))) = some r := by rw [if_pos rfl] at H; exact H
                    clear H
                    have H := H1
                    clear H1
                    replace H := Option.bind_eq_some_iff.mp H
                    obtain ⟨⟨t289, t290⟩, A210, H⟩ := H
                    replace H : (if t290 = true then (calamuslaw15_HopTimes.l0 kj17 a0 a2 a3 t285 t286 t289 t288 (wrap64 (x13_2 + 1))) else (if t285 = x11_2 then (if t286 = true then ((utf_Place.f a0 t285).bind fun t291 => (if t291 = true then ((calamuslaw15_lives.f kj17).bind fun t292 => (some t292)) else (some false))) else ((calamuslaw15_lives.f kj17).bind fun t293 => (some t293))) else (some false))) = some r := H
                    have A21 := Aside0.mk A210
                    clear A210
                    by_cases c22 : t290 = true
                    · subst c22
                      have H1 : (calamuslaw15_HopTimes.l0 kj17 a0 a2 a3 t285 t286 t289 t288 (wrap64 (x13_2 + 1))) = some r := by rw [if_pos rfl] at H; exact H
                      clear H
                      have H := H1
                      clear H1
                      have H' := Aside0.mk H
                      clear H
                      go_wp2_with (first | ((with_reducible refine gate_callee (f := 41) rfl ?_); refine goesL_ (some 60) rfl rfl Try.func41 (by kernel_rfl) rfl #[.string a0, .int .i64 x11_2, .string a2, .int .i64 1] rfl (by (try simp only [List.map_toArray, List.map_cons, List.map_nil]); first | done | rfl | (simp only [List.length_drop, List.length_take]; rfl)) ?_; (with_reducible refine (hop_Go.calls kj17 a0 x11_2 a2 1 t289 true _ A21.out).mono ?_); rintro e w23 ⟨rfl, hb⟩; refine ⟨_, rfl, ?_⟩; have n0_ := Aside0.mk (below_step (by repeat (first | (with_reducible first | exact HB.out | apply below_alloc | apply pw_below_drewN | apply below_drew1) | exact HB.out)) hb); clear HB; have HB := n0_; clear n0_; (try clear hb); (try clear hb2); (try clear hk); (try clear hi)))
                      go_roundg kj17
                      case measure => have := HJ4.out; have := HK2.out; have := HJ17.out; omega
                      case rel => exact ⟨(t289), (wrap64 (x13_2 + 1)), (by first | rfl | (simp; done) | (simp [*]; done)), (by first | rfl | (simp; done) | (simp [*]; done)), H', ⟨by have := HJ4.out; have := HK2.out; have := HJ17.out; omega⟩, ⟨by repeat (first | (with_reducible first | exact HB.out | apply below_alloc | apply pw_below_drewN | apply below_drew1) | exact HB.out)⟩⟩
                    · replace c22 := Bool.eq_false_iff.mpr c22
                      subst c22
                      have H1 : (if t285 = x11_2 then (if t286 = true then ((utf_Place.f a0 t285).bind fun t291 => (if t291 = true then ((calamuslaw15_lives.f kj17).bind fun t292 => (some t292)) else (some false))) else ((calamuslaw15_lives.f kj17).bind fun t293 => (some t293))) else (some false)) = some r := by rw [if_neg (show ¬ (false = true) by decide)] at H; exact H
                      clear H
                      have H := H1
                      clear H1
                      by_cases c24 : t285 = x11_2
                      · rw [if_pos c24] at H
                        have c24b0 : (t285 == x11_2) = true := beq_iff_eq.mpr c24
                        have c24b1 : (t285 != x11_2) = false := bne_eq_false_iff_eq.mpr c24
                        clear c24
                        by_cases c25 : t286 = true
                        · subst c25
                          have H1 : ((utf_Place.f a0 t285).bind fun t291 => (if t291 = true then ((calamuslaw15_lives.f kj17).bind fun t292 => (some t292)) else (some false))) = some r := by rw [if_pos rfl] at H; exact H
                          clear H
                          have H := H1
                          clear H1
                          replace H := Option.bind_eq_some_iff.mp H
                          obtain ⟨t291, A260, H⟩ := H
                          replace H : (if t291 = true then ((calamuslaw15_lives.f kj17).bind fun t292 => (some t292)) else (some false)) = some r := H
                          have A26 := Aside0.mk A260
                          clear A260
                          by_cases c27 : t291 = true
                          · subst c27
                            have H1 : ((calamuslaw15_lives.f kj17).bind fun t292 => (some t292)) = some r := by rw [if_pos rfl] at H; exact H
                            clear H
                            have H := H1
                            clear H1
                            replace H := Option.bind_eq_some_iff.mp H
                            obtain ⟨t292, A280, H⟩ := H
                            replace H : (some t292) = some r := H
                            have A28 := Aside0.mk A280
                            clear A280
                            obtain rfl := Option.some.inj H
                            go_wp2_with (first | ((with_reducible refine gate_callee (f := 41) rfl ?_); refine goesL_ (some 60) rfl rfl Try.func41 (by kernel_rfl) rfl #[.string a0, .int .i64 x11_2, .string a2, .int .i64 1] rfl (by (try simp only [List.map_toArray, List.map_cons, List.map_nil]); first | done | rfl | (simp only [List.length_drop, List.length_take]; rfl)) ?_; (with_reducible refine (hop_Go.calls kj17 a0 x11_2 a2 1 t289 false _ A21.out).mono ?_); rintro e w29 ⟨rfl, hb⟩; refine ⟨_, rfl, ?_⟩; have n0_ := Aside0.mk (below_step (by repeat (first | (with_reducible first | exact HB.out | apply below_alloc | apply pw_below_drewN | apply below_drew1) | exact HB.out)) hb); clear HB; have HB := n0_; clear n0_; (try clear hb); (try clear hb2); (try clear hk); (try clear hi)) | (go_at_call 35; (with_reducible refine (utf_Place.calls a0 t285 true _ A26.out).mono ?_); rintro e w30 ⟨rfl, hb⟩; have n0_ := Aside0.mk (below_step (by repeat (first | (with_reducible first | exact HB.out | apply below_alloc | apply pw_below_drewN | apply below_drew1) | exact HB.out)) hb); clear HB; have HB := n0_; clear n0_; (try clear hb); (try clear hb2); (try clear hk); (try clear hi)) | (go_at_call 36; (with_reducible refine (calamuslaw15_lives.calls kj17  t292 _ A28.out).mono ?_); rintro e w31 ⟨rfl, hb⟩; have n0_ := Aside0.mk (below_step (by repeat (first | (with_reducible first | exact HB.out | apply below_alloc | apply pw_below_drewN | apply below_drew1) | exact HB.out)) hb); clear HB; have HB := n0_; clear n0_; (try clear hb); (try clear hb2); (try clear hk); (try clear hi)))
                            go_ret
                            exact ⟨by first | rfl | (simp [errW_none, errW_some] <;> rfl) | (simp [*, errW_none, errW_some] <;> rfl), by repeat (first | (with_reducible first | exact HB.out | apply below_alloc | apply pw_below_drewN | apply below_drew1) | exact HB.out)⟩
                          · replace c27 := Bool.eq_false_iff.mpr c27
                            subst c27
                            have H1 : (some false) = some r := by rw [if_neg (show ¬ (false = true) by decide)] at H; exact H
                            clear H
                            have H := H1
                            clear H1
                            obtain rfl := Option.some.inj H
                            go_wp2_with (first | ((with_reducible refine gate_callee (f := 41) rfl ?_); refine goesL_ (some 60) rfl rfl Try.func41 (by kernel_rfl) rfl #[.string a0, .int .i64 x11_2, .string a2, .int .i64 1] rfl (by (try simp only [List.map_toArray, List.map_cons, List.map_nil]); first | done | rfl | (simp only [List.length_drop, List.length_take]; rfl)) ?_; (with_reducible refine (hop_Go.calls kj17 a0 x11_2 a2 1 t289 false _ A21.out).mono ?_); rintro e w32 ⟨rfl, hb⟩; refine ⟨_, rfl, ?_⟩; have n0_ := Aside0.mk (below_step (by repeat (first | (with_reducible first | exact HB.out | apply below_alloc | apply pw_below_drewN | apply below_drew1) | exact HB.out)) hb); clear HB; have HB := n0_; clear n0_; (try clear hb); (try clear hb2); (try clear hk); (try clear hi)) | (go_at_call 35; (with_reducible refine (utf_Place.calls a0 t285 false _ A26.out).mono ?_); rintro e w33 ⟨rfl, hb⟩; have n0_ := Aside0.mk (below_step (by repeat (first | (with_reducible first | exact HB.out | apply below_alloc | apply pw_below_drewN | apply below_drew1) | exact HB.out)) hb); clear HB; have HB := n0_; clear n0_; (try clear hb); (try clear hb2); (try clear hk); (try clear hi)))
                            go_ret
                            exact ⟨by first | rfl | (simp [errW_none, errW_some] <;> rfl) | (simp [*, errW_none, errW_some] <;> rfl), by repeat (first | (with_reducible first | exact HB.out | apply below_alloc | apply pw_below_drewN | apply below_drew1) | exact HB.out)⟩
                        · replace c25 := Bool.eq_false_iff.mpr c25
                          subst c25
                          have H1 : ((calamuslaw15_lives.f kj17).bind fun t293 => (some t293)) = some r := by rw [if_neg (show ¬ (false = true) by decide)] at H; exact H
                          clear H
                          have H := H1
                          clear H1
                          replace H := Option.bind_eq_some_iff.mp H
                          obtain ⟨t293, A340, H⟩ := H
                          replace H : (some t293) = some r := H
                          have A34 := Aside0.mk A340
                          clear A340
                          obtain rfl := Option.some.inj H
                          go_wp2_with (first | ((with_reducible refine gate_callee (f := 41) rfl ?_); refine goesL_ (some 60) rfl rfl Try.func41 (by kernel_rfl) rfl #[.string a0, .int .i64 x11_2, .string a2, .int .i64 1] rfl (by (try simp only [List.map_toArray, List.map_cons, List.map_nil]); first | done | rfl | (simp only [List.length_drop, List.length_take]; rfl)) ?_; (with_reducible refine (hop_Go.calls kj17 a0 x11_2 a2 1 t289 false _ A21.out).mono ?_); rintro e w35 ⟨rfl, hb⟩; refine ⟨_, rfl, ?_⟩; have n0_ := Aside0.mk (below_step (by repeat (first | (with_reducible first | exact HB.out | apply below_alloc | apply pw_below_drewN | apply below_drew1) | exact HB.out)) hb); clear HB; have HB := n0_; clear n0_; (try clear hb); (try clear hb2); (try clear hk); (try clear hi)) | (go_at_call 36; (with_reducible refine (calamuslaw15_lives.calls kj17  t293 _ A34.out).mono ?_); rintro e w36 ⟨rfl, hb⟩; have n0_ := Aside0.mk (below_step (by repeat (first | (with_reducible first | exact HB.out | apply below_alloc | apply pw_below_drewN | apply below_drew1) | exact HB.out)) hb); clear HB; have HB := n0_; clear n0_; (try clear hb); (try clear hb2); (try clear hk); (try clear hi)))
                          go_ret
                          exact ⟨by first | rfl | (simp [errW_none, errW_some] <;> rfl) | (simp [*, errW_none, errW_some] <;> rfl), by repeat (first | (with_reducible first | exact HB.out | apply below_alloc | apply pw_below_drewN | apply below_drew1) | exact HB.out)⟩
                      · rw [if_neg c24] at H
                        have c24b0 : (t285 == x11_2) = false := beq_eq_false_iff_ne.mpr c24
                        have c24b1 : (t285 != x11_2) = true := bne_iff_ne.mpr c24
                        obtain rfl := Option.some.inj H
                        go_wp2_with (first | ((with_reducible refine gate_callee (f := 41) rfl ?_); refine goesL_ (some 60) rfl rfl Try.func41 (by kernel_rfl) rfl #[.string a0, .int .i64 x11_2, .string a2, .int .i64 1] rfl (by (try simp only [List.map_toArray, List.map_cons, List.map_nil]); first | done | rfl | (simp only [List.length_drop, List.length_take]; rfl)) ?_; (with_reducible refine (hop_Go.calls kj17 a0 x11_2 a2 1 t289 false _ A21.out).mono ?_); rintro e w37 ⟨rfl, hb⟩; refine ⟨_, rfl, ?_⟩; have n0_ := Aside0.mk (below_step (by repeat (first | (with_reducible first | exact HB.out | apply below_alloc | apply pw_below_drewN | apply below_drew1) | exact HB.out)) hb); clear HB; have HB := n0_; clear n0_; (try clear hb); (try clear hb2); (try clear hk); (try clear hi)))
                        go_ret
                        exact ⟨by first | rfl | (simp [errW_none, errW_some] <;> rfl) | (simp [*, errW_none, errW_some] <;> rfl), by repeat (first | (with_reducible first | exact HB.out | apply below_alloc | apply pw_below_drewN | apply below_drew1) | exact HB.out)⟩
                  · replace c20 := Bool.eq_false_iff.mpr c20
                    subst c20
                    have H1 : (if t285 = x11_2 then (if t286 = true then ((utf_Place.f a0 t285).bind fun t294 => (if t294 = true then ((calamuslaw15_lives.f kj17).bind fun t295 => (some t295)) else (some false))) else ((calamuslaw15_lives.f kj17).bind fun t296 => (some t296))) else (some false)) = some r := by rw [if_neg (show ¬ (false = true) by decide)] at H; exact H
                    clear H
                    have H := H1
                    clear H1
                    by_cases c38 : t285 = x11_2
                    · rw [if_pos c38] at H
                      have c38b0 : (t285 == x11_2) = true := beq_iff_eq.mpr c38
                      have c38b1 : (t285 != x11_2) = false := bne_eq_false_iff_eq.mpr c38
                      clear c38
                      by_cases c39 : t286 = true
                      · subst c39
                        have H1 : ((utf_Place.f a0 t285).bind fun t294 => (if t294 = true then ((calamuslaw15_lives.f kj17).bind fun t295 => (some t295)) else (some false))) = some r := by rw [if_pos rfl] at H; exact H
                        clear H
                        have H := H1
                        clear H1
                        replace H := Option.bind_eq_some_iff.mp H
                        obtain ⟨t294, A400, H⟩ := H
                        replace H : (if t294 = true then ((calamuslaw15_lives.f kj17).bind fun t295 => (some t295)) else (some false)) = some r := H
                        have A40 := Aside0.mk A400
                        clear A400
                        by_cases c41 : t294 = true
                        · subst c41
                          have H1 : ((calamuslaw15_lives.f kj17).bind fun t295 => (some t295)) = some r := by rw [if_pos rfl] at H; exact H
                          clear H
                          have H := H1
                          clear H1
                          replace H := Option.bind_eq_some_iff.mp H
                          obtain ⟨t295, A420, H⟩ := H
                          replace H : (some t295) = some r := H
                          have A42 := Aside0.mk A420
                          clear A420
                          obtain rfl := Option.some.inj H
                          go_wp2_with (first | (go_at_call 35; (with_reducible refine (utf_Place.calls a0 t285 true _ A40.out).mono ?_); rintro e w43 ⟨rfl, hb⟩; have n0_ := Aside0.mk (below_step (by repeat (first | (with_reducible first | exact HB.out | apply below_alloc | apply pw_below_drewN | apply below_drew1) | exact HB.out)) hb); clear HB; have HB := n0_; clear n0_; (try clear hb); (try clear hb2); (try clear hk); (try clear hi)) | (go_at_call 36; (with_reducible refine (calamuslaw15_lives.calls kj17  t295 _ A42.out).mono ?_); rintro e w44 ⟨rfl, hb⟩; have n0_ := Aside0.mk (below_step (by repeat (first | (with_reducible first | exact HB.out | apply below_alloc | apply pw_below_drewN | apply below_drew1) | exact HB.out)) hb); clear HB; have HB := n0_; clear n0_; (try clear hb); (try clear hb2); (try clear hk); (try clear hi)))
                          go_ret
                          exact ⟨by first | rfl | (simp [errW_none, errW_some] <;> rfl) | (simp [*, errW_none, errW_some] <;> rfl), by repeat (first | (with_reducible first | exact HB.out | apply below_alloc | apply pw_below_drewN | apply below_drew1) | exact HB.out)⟩
                        · replace c41 := Bool.eq_false_iff.mpr c41
                          subst c41
                          have H1 : (some false) = some r := by rw [if_neg (show ¬ (false = true) by decide)] at H; exact H
                          clear H
                          have H := H1
                          clear H1
                          obtain rfl := Option.some.inj H
                          go_wp2_with (first | (go_at_call 35; (with_reducible refine (utf_Place.calls a0 t285 false _ A40.out).mono ?_); rintro e w45 ⟨rfl, hb⟩; have n0_ := Aside0.mk (below_step (by repeat (first | (with_reducible first | exact HB.out | apply below_alloc | apply pw_below_drewN | apply below_drew1) | exact HB.out)) hb); clear HB; have HB := n0_; clear n0_; (try clear hb); (try clear hb2); (try clear hk); (try clear hi)))
                          go_ret
                          exact ⟨by first | rfl | (simp [errW_none, errW_some] <;> rfl) | (simp [*, errW_none, errW_some] <;> rfl), by repeat (first | (with_reducible first | exact HB.out | apply below_alloc | apply pw_below_drewN | apply below_drew1) | exact HB.out)⟩
                      · replace c39 := Bool.eq_false_iff.mpr c39
                        subst c39
                        have H1 : ((calamuslaw15_lives.f kj17).bind fun t296 => (some t296)) = some r := by rw [if_neg (show ¬ (false = true) by decide)] at H; exact H
                        clear H
                        have H := H1
                        clear H1
                        replace H := Option.bind_eq_some_iff.mp H
                        obtain ⟨t296, A460, H⟩ := H
                        replace H : (some t296) = some r := H
                        have A46 := Aside0.mk A460
                        clear A460
                        obtain rfl := Option.some.inj H
                        go_wp2_with (first | (go_at_call 36; (with_reducible refine (calamuslaw15_lives.calls kj17  t296 _ A46.out).mono ?_); rintro e w47 ⟨rfl, hb⟩; have n0_ := Aside0.mk (below_step (by repeat (first | (with_reducible first | exact HB.out | apply below_alloc | apply pw_below_drewN | apply below_drew1) | exact HB.out)) hb); clear HB; have HB := n0_; clear n0_; (try clear hb); (try clear hb2); (try clear hk); (try clear hi)))
                        go_ret
                        exact ⟨by first | rfl | (simp [errW_none, errW_some] <;> rfl) | (simp [*, errW_none, errW_some] <;> rfl), by repeat (first | (with_reducible first | exact HB.out | apply below_alloc | apply pw_below_drewN | apply below_drew1) | exact HB.out)⟩
                    · rw [if_neg c38] at H
                      have c38b0 : (t285 == x11_2) = false := beq_eq_false_iff_ne.mpr c38
                      have c38b1 : (t285 != x11_2) = true := bne_iff_ne.mpr c38
                      obtain rfl := Option.some.inj H
                      go_wp2
                      go_ret
                      exact ⟨by first | rfl | (simp [errW_none, errW_some] <;> rfl) | (simp [*, errW_none, errW_some] <;> rfl), by repeat (first | (with_reducible first | exact HB.out | apply below_alloc | apply pw_below_drewN | apply below_drew1) | exact HB.out)⟩

/-- THE ONE PURE STATEMENT of calamuslaw15_HopTimes: yours. -/
def calamuslaw15_HopTimes.Pure : Prop := ∀ (a0 : ByteArray) (a1 : Int) (a2 : ByteArray) (a3 : Int), a0.size ≤ 140737488351232 → (Lit.int .i64 a1).wf = true → a2.size ≤ 140737488351232 → (Lit.int .u8 a3).wf = true → ∃ k, calamuslaw15_HopTimes.f k a0 a1 a2 a3 = some true
theorem calamuslaw15_HopTimes.walk (P : calamuslaw15_HopTimes.Pure) (a0 : ByteArray) (a1 : Int) (a2 : ByteArray) (a3 : Int) (w : World) (w0 : a0.size ≤ 140737488351232) (w1 : (Lit.int .i64 a1).wf = true) (w2 : a2.size ≤ 140737488351232) (w3 : (Lit.int .u8 a3).wf = true) :
    Calls Try.prog 12 #[.string a0, .int .i64 a1, .string a2, .int .u8 a3] w fun e w' => e = .returned (.bool true) ∧ Below w.heap.size w w' := by
  obtain ⟨k, h⟩ := P a0 a1 a2 a3 w0 w1 w2 w3
  refine (calamuslaw15_HopTimes.calls k a0 a1 a2 a3 true w h).mono ?_
  rintro e w' ⟨rfl, hd⟩
  exact ⟨rfl, hd⟩

end Go.Proofs.Ythjlhbblflmajaa.Q
/- The statement HopTimes. -/
namespace Go.Proofs.Ythjlhbblflmajaa
open Go.RowKit
set_option linter.unusedVariables false
set_option linter.unusedSimpArgs false
open Go.RowKit Go.Proofs.Ythjlhbblflmajaa.Q Go.Proofs.YthjlhbblflmajaaW.PrintWords Go.Proofs.YthjlhbblflmajaaW.PrintMore
theorem times_l0 (t : ByteArray) (p : Int) (key : ByteArray) (ht : t.size ≤ 1000000) (hk : hasK key = true) (hv : placeB (ls t) p = true) (n : Nat) (hn : n ≤ 255) : ∀ (d i : Nat), d + i = n →
    Ev (fun k => calamuslaw15_HopTimes.l0 k t key n (runS (stepH (ls t) (kdK key) (bigK key)) n p) true (runS (stepH (ls t) (kdK key) (bigK key)) i p) true i) true := by
  intro d
  have fin : ∀ one, one = runS (stepH (ls t) (kdK key) (bigK key)) n p → ∀ i, Ev (fun k => calamuslaw15_HopTimes.j2 k t key n (runS (stepH (ls t) (kdK key) (bigK key)) n p) true one true i false) true := by
    rintro one rfl i
    refine Ev.step (fun _ => (by rw [calamuslaw15_HopTimes.j2])) ?_
    rw [utf_Place.eq t _ (by omega), run_place n p hv]
    simp only [Option.bind_some]
    exact Ev.neg (by decide) (Ev.pos trivial (Ev.pos trivial (Ev.pos trivial (Ev.bind lives_ev (Ev.ret rfl)))))
  induction d with
  | zero =>
    intro i hd
    refine Ev.step (fun _ => (by rw [calamuslaw15_HopTimes.l0])) ?_
    rw [w64 (n := (n : Int)) (by omega) (by omega)]
    refine Ev.neg (by omega) (fin _ ?_ _)
    have : i = n := by omega
    rw [this]
  | succ d ih =>
    intro i hd
    have hq := run_place i p hv (kd := kdK key) (big := bigK key)
    refine Ev.step (fun _ => (by rw [calamuslaw15_HopTimes.l0])) ?_
    rw [w64 (n := (n : Int)) (by omega) (by omega)]
    refine Ev.pos (by omega) ?_
    refine Ev.step (fun _ => (by rw [calamuslaw15_HopTimes.j2])) ?_
    refine Ev.pos rfl ?_
    have hg := hop_go t (runS (stepH (ls t) (kdK key) (bigK key)) i p) key 1 ht (by omega)
    have e1 : goI (ls t) (runS (stepH (ls t) (kdK key) (bigK key)) i p) key 1 = goS (stepH (ls t) (kdK key) (bigK key)) (runS (stepH (ls t) (kdK key) (bigK key)) i p) 1 := by
      unfold goI; rw [if_pos ⟨hk, hq⟩]; rfl
    rw [e1] at hg
    cases hf : stepH (ls t) (kdK key) (bigK key) (runS (stepH (ls t) (kdK key) (bigK key)) i p) with
    | none =>
      have e2 : goS (stepH (ls t) (kdK key) (bigK key)) (runS (stepH (ls t) (kdK key) (bigK key)) i p) 1 = (0, false) := by unfold goS; rw [hf]
      rw [e2] at hg
      refine Ev.bind hg (Ev.neg (by decide) ?_)
      have e3 : runS (stepH (ls t) (kdK key) (bigK key)) n p = runS (stepH (ls t) (kdK key) (bigK key)) i p := by
        have := run_stop hf (d + 1)
        rw [show i + (d + 1) = n by omega] at this; exact this
      rw [e3, utf_Place.eq t _ (by omega), hq]
      simp only [Option.bind_some]
      exact Ev.pos trivial (Ev.pos trivial (Ev.pos trivial (Ev.bind lives_ev (Ev.ret rfl))))
    | some q =>
      have e2 : goS (stepH (ls t) (kdK key) (bigK key)) (runS (stepH (ls t) (kdK key) (bigK key)) i p) 1 = (q, true) := by
        unfold goS; rw [hf]
        show ((match stepH (ls t) (kdK key) (bigK key) (runS (stepH (ls t) (kdK key) (bigK key)) i p) with | none => _ | some q => runS (stepH (ls t) (kdK key) (bigK key)) 0 q), true) = _
        rw [hf]; rfl
      rw [e2] at hg
      refine Ev.bind hg (Ev.pos rfl ?_)
      rw [w64 (n := (i : Int) + 1) (by omega) (by omega)]
      have e3 : q = runS (stepH (ls t) (kdK key) (bigK key)) (i + 1) p := by rw [run_more, hf]
      have := ih (i + 1) (by omega)
      rw [← e3] at this; exact this
theorem hopTimes_pure (t : ByteArray) (p : Int) (key : ByteArray) (n : Int) (ht : t.size ≤ 140737488351232) (hn : 0 ≤ n ∧ n ≤ 255) : ∃ k, calamuslaw15_HopTimes.f k t p key n = some true := by
  refine Ev.at ?_
  unfold calamuslaw15_HopTimes.f
  have lv : Ev (fun k => calamuslaw15_HopTimes.j0 k t p key n true) true := by
    refine Ev.step (fun _ => (by rw [calamuslaw15_HopTimes.j0])) ?_
    exact Ev.pos rfl (Ev.bind lives_ev (Ev.ret rfl))
  refine Ev.ite (fun h => lv) (fun h => Ev.ite (fun h1 => lv) (fun h1 => ?_))
  by_cases h2 : n > 20
  · rw [decide_eq_true h2]; exact lv
  · rw [decide_eq_false h2]
    refine Ev.step (fun _ => (by rw [calamuslaw15_HopTimes.j0])) ?_
    rw [w64 (n := n) (by omega) (by omega)]
    refine Ev.neg (by decide) (Ev.bind (hop_go t p key n (by omega) (by omega)) (Ev.bind (hop_go t p key 1 (by omega) (by omega)) ?_))
    obtain ⟨m, rfl⟩ : ∃ m : Nat, n = m := ⟨n.toNat, by omega⟩
    have em : (max (m : Int) 1).toNat = m := by omega
    have e1 : (max (1 : Int) 1).toNat = 1 := by decide
    have bad : Ev (fun k => calamuslaw15_HopTimes.l0 k t key m 0 false 0 false 1) true := by
      refine Ev.step (fun _ => (by rw [calamuslaw15_HopTimes.l0])) ?_
      have q : ∀ i, Ev (fun k => calamuslaw15_HopTimes.j2 k t key m 0 false 0 false i false) true := by
        intro i
        refine Ev.step (fun _ => (by rw [calamuslaw15_HopTimes.j2])) ?_
        exact Ev.neg (by decide) (Ev.pos rfl (Ev.neg (by decide) (Ev.bind lives_ev (Ev.ret rfl))))
      exact Ev.ite (fun _ => q _) (fun _ => q _)
    unfold goI
    by_cases hc : hasK key = true ∧ placeB (ls t) p = true
    · simp only [if_pos hc, em, e1]
      cases hf : stepH (ls t) (kdK key) (bigK key) p with
      | none =>
        have g : ∀ j, goS (stepH (ls t) (kdK key) (bigK key)) p j = (0, false) := fun j => by unfold goS; rw [hf]
        simp only [g]
        exact Ev.neg (by decide) bad
      | some q =>
        have g : ∀ j, goS (stepH (ls t) (kdK key) (bigK key)) p j = (runS (stepH (ls t) (kdK key) (bigK key)) j p, true) := fun j => by unfold goS; rw [hf]
        simp only [g]
        exact Ev.neg (by decide) (times_l0 t p key (by omega) hc.1 hc.2 m (by omega) (m - 1) 1 (by omega))
    · simp only [if_neg hc]
      exact Ev.neg (by decide) bad
theorem HopTimes_p (t : ByteArray) (p : Int) (key : ByteArray) (n : Int) (ht : t.size ≤ 140737488351232) (hp : -9223372036854775808 ≤ p ∧ p ≤ 9223372036854775807) (hk : key.size ≤ 140737488351232) (hn : 0 ≤ n ∧ n ≤ 255) : ∃ k, calamuslaw15_HopTimes.f k t p key n = some true := hopTimes_pure t p key n ht hn
end Go.Proofs.Ythjlhbblflmajaa
