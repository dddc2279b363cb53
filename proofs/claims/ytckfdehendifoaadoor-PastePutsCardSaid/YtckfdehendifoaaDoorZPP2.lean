/- Joined by merge.py out of this work's texts: QP2, PPl, PPn, L4, PPr, QP4, QP5, PPe, PPf, PPg. -/
import Derived.Test.YtckfdehendifoaaDoorZPP1
import Derived.Test.YtckfdehendifoaaDoorZPP0
-- Printed by this work's xp.py out of the translation. Lean checks it.
namespace Go.Proofs.YtckfdehendifoaaDoor.QP
open Go.RowKit Go.Proofs.YtckfdehendifoaaDoorW.PrintWords Go.Proofs.YtckfdehendifoaaDoorW.PrintLast Go.Proofs.YtckfdehendifoaaDoorW.PrintMore
attribute [local go_sem] max2_int min2_int max_two min_two max_three min_three max_four min_four   -- for this text's walks alone
set_option linter.unusedVariables false
set_option linter.unusedSimpArgs false


/-! ### paste_Put -/
mutual
def paste_Put.j0 : Nat → ByteArray → Int → Bool → Int → Bool → Int → Bool → ByteArray → Option (ByteArray × Int × Int)
  | 0, _, _, _, _, _, _, _, _ => none
  | k + 1, x0, x1, x3, x4, x26, x119000, x119001, x119002 => if x26 = true then (some ((⟨#[]⟩ : ByteArray), 0, 1)) else (if x119002.toList = ([] : List UInt8) then (paste_Put.j1 k x0 x1 x3 x4 (!x119001) x119000 x119001 x119002) else (paste_Put.j1 k x0 x1 x3 x4 false x119000 x119001 x119002))
def paste_Put.j1 : Nat → ByteArray → Int → Bool → Int → Bool → Int → Bool → ByteArray → Option (ByteArray × Int × Int)
  | 0, _, _, _, _, _, _, _, _ => none
  | k + 1, x0, x1, x3, x4, x34, x119000, x119001, x119002 => if x34 = true then (some ((⟨#[]⟩ : ByteArray), 0, 7)) else (if x119001 = true then ((line_Of.f x0 x1).bind fun t121 => ((paste_lines.f k x0 t121 x119002 x3 (mx x4 1)).bind fun bt122 => (some (bt122.1, bt122.2.1, bt122.2.2)))) else ((paste_times.f k x119002 (⟨#[]⟩ : ByteArray) (mx x4 1)).bind fun bt125 => (if bt125.2 = true then (if x3 = true then (paste_Put.j2 k x0 x1 bt125.1 false) else ((paste_stop.f x0 x1).bind fun t127 => (paste_Put.j2 k x0 x1 bt125.1 (!t127)))) else (some ((⟨#[]⟩ : ByteArray), 0, 8)))))
def paste_Put.j2 : Nat → ByteArray → Int → ByteArray → Bool → Option (ByteArray × Int × Int)
  | 0, _, _, _, _ => none
  | k + 1, x0, x1, x13, x67 => if x67 = true then ((utf_Next.f x0 x1).bind fun t128 => (paste_Put.j3 k x0 t128 x13)) else (paste_Put.j3 k x0 x1 x13)
def paste_Put.j3 : Nat → ByteArray → Int → ByteArray → Option (ByteArray × Int × Int)
  | 0, _, _, _ => none
  | k + 1, x0, x1, x13 => (paste_insert.f x0 x1 x13).bind fun bt129 => (if bt129.2 = 0 then ((strings_Contains.f x13 (⟨#[10]⟩ : ByteArray)).bind fun t131 => (if t131 = true then ((line_Clamp.f bt129.1 x1).bind fun t132 => (some (bt129.1, t132, 0))) else ((utf_Prev.f bt129.1 (wrap64 (x1 + (x13.size : Int)))).bind fun t133 => (some (bt129.1, t133, 0))))) else (some ((⟨#[]⟩ : ByteArray), 0, bt129.2)))
end
def paste_Put.f (k : Nat) (a0 : ByteArray) (a1 : Int) (a2_0 : Int) (a2_1 : Bool) (a2_2 : ByteArray) (a3 : Bool) (a4 : Int) : Option (ByteArray × Int × Int) := (utf_Place.f a0 a1).bind fun t119 => (if t119 = true then ((utf_Valid.f a2_2).bind fun t120 => (paste_Put.j0 k a0 a1 a3 a4 (!t120) a2_0 a2_1 a2_2)) else (paste_Put.j0 k a0 a1 a3 a4 true a2_0 a2_1 a2_2))
theorem paste_Put.mono_l : ∀ k, (∀ y0 y1 y2 y3 y4 y5 y6 y7, LeO (paste_Put.j0 k y0 y1 y2 y3 y4 y5 y6 y7) (paste_Put.j0 (k + 1) y0 y1 y2 y3 y4 y5 y6 y7)) ∧ (∀ y0 y1 y2 y3 y4 y5 y6 y7, LeO (paste_Put.j1 k y0 y1 y2 y3 y4 y5 y6 y7) (paste_Put.j1 (k + 1) y0 y1 y2 y3 y4 y5 y6 y7)) ∧ (∀ y0 y1 y2 y3, LeO (paste_Put.j2 k y0 y1 y2 y3) (paste_Put.j2 (k + 1) y0 y1 y2 y3)) ∧ (∀ y0 y1 y2, LeO (paste_Put.j3 k y0 y1 y2) (paste_Put.j3 (k + 1) y0 y1 y2))
  | 0 => ⟨fun _ _ _ _ _ _ _ _ r h => by simp [paste_Put.j0] at h, fun _ _ _ _ _ _ _ _ r h => by simp [paste_Put.j1] at h, fun _ _ _ _ r h => by simp [paste_Put.j2] at h, fun _ _ _ r h => by simp [paste_Put.j3] at h⟩
  | k + 1 => by
    obtain ⟨ih0, ih1, ih2, ih3⟩ := paste_Put.mono_l k
    refine ⟨?_, ?_, ?_, ?_⟩
    · intro y0 y1 y2 y3 y4 y5 y6 y7
      unfold paste_Put.j0
      repeat' first
      | (with_reducible exact ih0 _ _ _ _ _ _ _ _)
      | (with_reducible exact ih1 _ _ _ _ _ _ _ _)
      | (with_reducible exact ih2 _ _ _ _)
      | (with_reducible exact ih3 _ _ _)
      | (with_reducible exact paste_lines.mono _ _ _ _ _ _)
      | (with_reducible exact paste_times.mono _ _ _ _)
      | (with_reducible exact LeO.refl _)
      | (with_reducible exact LeO.none _)
      | (with_reducible refine LeO.ite ?_ ?_)
      | (with_reducible refine LeO.bind ?_ (fun _ => ?_))
      | exact ih0 _ _ _ _ _ _ _ _
      | exact ih1 _ _ _ _ _ _ _ _
      | exact ih2 _ _ _ _
      | exact ih3 _ _ _
      | exact paste_lines.mono _ _ _ _ _ _
      | exact paste_times.mono _ _ _ _
      | exact LeO.none _
      | refine LeO.ite ?_ ?_
      | refine LeO.bind ?_ (fun _ => ?_)
    · intro y0 y1 y2 y3 y4 y5 y6 y7
      unfold paste_Put.j1
      repeat' first
      | (with_reducible exact ih0 _ _ _ _ _ _ _ _)
      | (with_reducible exact ih1 _ _ _ _ _ _ _ _)
      | (with_reducible exact ih2 _ _ _ _)
      | (with_reducible exact ih3 _ _ _)
      | (with_reducible exact paste_lines.mono _ _ _ _ _ _)
      | (with_reducible exact paste_times.mono _ _ _ _)
      | (with_reducible exact LeO.refl _)
      | (with_reducible exact LeO.none _)
      | (with_reducible refine LeO.ite ?_ ?_)
      | (with_reducible refine LeO.bind ?_ (fun _ => ?_))
      | exact ih0 _ _ _ _ _ _ _ _
      | exact ih1 _ _ _ _ _ _ _ _
      | exact ih2 _ _ _ _
      | exact ih3 _ _ _
      | exact paste_lines.mono _ _ _ _ _ _
      | exact paste_times.mono _ _ _ _
      | exact LeO.none _
      | refine LeO.ite ?_ ?_
      | refine LeO.bind ?_ (fun _ => ?_)
    · intro y0 y1 y2 y3
      unfold paste_Put.j2
      repeat' first
      | (with_reducible exact ih0 _ _ _ _ _ _ _ _)
      | (with_reducible exact ih1 _ _ _ _ _ _ _ _)
      | (with_reducible exact ih2 _ _ _ _)
      | (with_reducible exact ih3 _ _ _)
      | (with_reducible exact paste_lines.mono _ _ _ _ _ _)
      | (with_reducible exact paste_times.mono _ _ _ _)
      | (with_reducible exact LeO.refl _)
      | (with_reducible exact LeO.none _)
      | (with_reducible refine LeO.ite ?_ ?_)
      | (with_reducible refine LeO.bind ?_ (fun _ => ?_))
      | exact ih0 _ _ _ _ _ _ _ _
      | exact ih1 _ _ _ _ _ _ _ _
      | exact ih2 _ _ _ _
      | exact ih3 _ _ _
      | exact paste_lines.mono _ _ _ _ _ _
      | exact paste_times.mono _ _ _ _
      | exact LeO.none _
      | refine LeO.ite ?_ ?_
      | refine LeO.bind ?_ (fun _ => ?_)
    · intro y0 y1 y2
      unfold paste_Put.j3
      repeat' first
      | (with_reducible exact ih0 _ _ _ _ _ _ _ _)
      | (with_reducible exact ih1 _ _ _ _ _ _ _ _)
      | (with_reducible exact ih2 _ _ _ _)
      | (with_reducible exact ih3 _ _ _)
      | (with_reducible exact paste_lines.mono _ _ _ _ _ _)
      | (with_reducible exact paste_times.mono _ _ _ _)
      | (with_reducible exact LeO.refl _)
      | (with_reducible exact LeO.none _)
      | (with_reducible refine LeO.ite ?_ ?_)
      | (with_reducible refine LeO.bind ?_ (fun _ => ?_))
      | exact ih0 _ _ _ _ _ _ _ _
      | exact ih1 _ _ _ _ _ _ _ _
      | exact ih2 _ _ _ _
      | exact ih3 _ _ _
      | exact paste_lines.mono _ _ _ _ _ _
      | exact paste_times.mono _ _ _ _
      | exact LeO.none _
      | refine LeO.ite ?_ ?_
      | refine LeO.bind ?_ (fun _ => ?_)
theorem paste_Put.mono : ∀ a0 a1 a2 a3 a4 a5 a6 k, LeO (paste_Put.f k a0 a1 a2 a3 a4 a5 a6) (paste_Put.f (k + 1) a0 a1 a2 a3 a4 a5 a6) := by
  intro a0 a1 a2 a3 a4 a5 a6 k
  obtain ⟨ih0, ih1, ih2, ih3⟩ := paste_Put.mono_l k
  unfold paste_Put.f
  repeat' first
      | (with_reducible exact ih0 _ _ _ _ _ _ _ _)
      | (with_reducible exact ih1 _ _ _ _ _ _ _ _)
      | (with_reducible exact ih2 _ _ _ _)
      | (with_reducible exact ih3 _ _ _)
      | (with_reducible exact paste_lines.mono _ _ _ _ _ _)
      | (with_reducible exact paste_times.mono _ _ _ _)
      | (with_reducible exact LeO.refl _)
      | (with_reducible exact LeO.none _)
      | (with_reducible refine LeO.ite ?_ ?_)
      | (with_reducible refine LeO.bind ?_ (fun _ => ?_))
      | exact ih0 _ _ _ _ _ _ _ _
      | exact ih1 _ _ _ _ _ _ _ _
      | exact ih2 _ _ _ _
      | exact ih3 _ _ _
      | exact paste_lines.mono _ _ _ _ _ _
      | exact paste_times.mono _ _ _ _
      | exact LeO.none _
      | refine LeO.ite ?_ ?_
      | refine LeO.bind ?_ (fun _ => ?_)
def paste_Put.T6 : Bool × List (List Nat × List Nat) := (true, [([], []), ([], []), ([], []), ([1, 2], [1, 2]), ([], []), ([4], [4]), ([], []), ([], []), ([7], [7]), ([0, 3, 5, 6, 8, 3], [0, 3, 5, 6, 8]), ([9], [9]), ([9], [9]), ([9], [9]), ([10, 9, 0, 1, 2, 3, 4, 5, 6, 7, 8, 9, 10, 11, 12], [10]), ([11, 13, 0, 1, 2, 3, 4, 5, 6, 7, 8, 9, 10, 11, 12, 13], [11]), ([12, 14, 0, 1, 2, 3, 4, 5, 6, 7, 8, 9, 10, 11, 12, 13, 14], [12])])
def paste_Put.B6 : List Nat := [0, 0, 0, 6, 0, 16, 0, 0, 128, 511, 1023, 1023, 1023, 8191, 16383, 32767]
theorem paste_Put.tab6 : rtab .any (opsOf Tryd.f8 6) = paste_Put.T6 := by kernel_rfl
theorem paste_Put.bits6 : waitsOk paste_Put.T6.2 paste_Put.B6 = true := by kernel_rfl
set_option maxHeartbeats 8000000 in
set_option maxRecDepth 100000 in
theorem paste_Put.calls (k : Nat) (a0 : ByteArray) (a1 : Int) (a2_0 : Int) (a2_1 : Bool) (a2_2 : ByteArray) (a3 : Bool) (a4 : Int) (r1 : ByteArray) (r2 : Int) (r3 : Int) (w : World) (h : paste_Put.f k a0 a1 a2_0 a2_1 a2_2 a3 a4 = some (r1, r2, r3)) :
    Calls Tryd.prog 8 #[.string a0, .int .i64 a1, .agg #[.int .i64 a2_0, .bool a2_1, .string a2_2], .bool a3, .int .i64 a4] w fun e w' => e = .returned (.tuple #[.string r1, .int .i64 r2, .int .i64 r3]) ∧ Below w.heap.size w w' := by
  have hu23 := Tryd.underlying23
  have HB := Aside0.mk (Below.refl w.heap.size w)
  have H : ((utf_Place.f a0 a1).bind fun t119 => (if t119 = true then ((utf_Valid.f a2_2).bind fun t120 => (paste_Put.j0 k a0 a1 a3 a4 (!t120) a2_0 a2_1 a2_2)) else (paste_Put.j0 k a0 a1 a3 a4 true a2_0 a2_1 a2_2))) = some (r1, r2, r3) := h
  clear h
  have HC6 := Aside0.mk H
  clear H
  go_enter Tryd.func8, Tryd.ntmps8
  go_upto_region 1 with (first | ((with_reducible refine gate_dst (N := 7) rfl ?_); refine box_event ?hg (N := 7) ?hd (cs := #[.int .i64 a2_0, .bool a2_1, .string a2_2]) (t := 23) ?hr ?_; (case hd => rfl); (case hg => rfl); (case hr => first | (go_simp; done) | (go_simp; rfl)); intro gb118 hg w7 hbox hb; have n0_ := Aside0.mk (below_step (by repeat (first | (with_reducible first | exact HB.out | apply below_alloc | apply pw_below_drewN | apply below_drew1) | exact HB.out)) hb); have n1_ := Aside0.mk (hbox); have n2_ := Aside0.mk ((by rw [hg]; exact (below_size (by repeat (first | (with_reducible first | exact HB.out | apply below_alloc | apply pw_below_drewN | apply below_drew1) | exact HB.out))) : w.heap.size ≤ gb118)); have n3_ := Aside0.mk ((by rw [hg]; exact (below_size (by repeat (first | (with_reducible first | exact HB.out | apply below_alloc | apply pw_below_drewN | apply below_drew1) | exact HB.out))) : w.heap.size ≤ gb118)); clear HB; have HB := n0_; have BK118 := n1_; have GW118 := n2_; have GE118 := n3_; clear n0_ n1_ n2_ n3_; clear hb hbox hg))
  (try simp only [Act.put, List.setIfInBounds_toArray, List.set_cons_zero, List.set_cons_succ])
  go_cut [26] (fun v26 wc => ∃ (kq : Nat) (x26_5 : Bool), v26 = .bool x26_5 ∧ Aside0 (paste_Put.j0 kq a0 a1 a3 a4 x26_5 a2_0 a2_1 a2_2 = some (r1, r2, r3)) ∧ Aside0 (kq ≤ k) ∧ Aside0 (wc.heap[gb118]? = some (.cells #[.int .i64 a2_0, .bool a2_1, .string a2_2] 23 (0, 0))) ∧ Aside0 (Below w.heap.size w wc))
  case first =>
    have H := HC6.out
    clear HC6
    replace H := Option.bind_eq_some_iff.mp H
    obtain ⟨t119, A80, H⟩ := H
    replace H : (if t119 = true then ((utf_Valid.f a2_2).bind fun t120 => (paste_Put.j0 k a0 a1 a3 a4 (!t120) a2_0 a2_1 a2_2)) else (paste_Put.j0 k a0 a1 a3 a4 true a2_0 a2_1 a2_2)) = some (r1, r2, r3) := H
    have A8 := Aside0.mk A80
    clear A80
    by_cases c9 : t119 = true
    · subst c9
      have H1 : ((utf_Valid.f a2_2).bind fun t120 => (paste_Put.j0 k a0 a1 a3 a4 (!t120) a2_0 a2_1 a2_2)) = some (r1, r2, r3) := by rw [if_pos rfl] at H; exact H
      clear H
      have H := H1
      clear H1
      replace H := Option.bind_eq_some_iff.mp H
      obtain ⟨t120, A100, H⟩ := H
      replace H : (paste_Put.j0 k a0 a1 a3 a4 (!t120) a2_0 a2_1 a2_2) = some (r1, r2, r3) := H
      have A10 := Aside0.mk A100
      clear A100
      have H' := Aside0.mk H
      clear H
      go_wp2_with (first | ((with_reducible refine gate_callee (f := 19) rfl ?_); refine goesL_ (some 19) rfl rfl Tryd.func19 (by kernel_rfl) rfl #[.string a0, .int .i64 a1] rfl (by (try simp only [List.map_toArray, List.map_cons, List.map_nil]); first | done | rfl | (simp only [List.length_drop, List.length_take]; rfl)) ?_; (with_reducible refine (utf_Place.calls a0 a1 true _ A8.out).mono ?_); rintro e w11 ⟨rfl, hb⟩; refine ⟨_, rfl, ?_⟩; have n0_ := Aside0.mk (blk_below (g := gb118) (o := .cells #[.int .i64 a2_0, .bool a2_1, .string a2_2] 23 (0, 0)) (by (with_reducible repeat (first | refine blk_drewN ?_ _ | refine blk_drew ?_ | refine blk_alloc ?_ _)); exact BK118.out) hb); have n1_ := Aside0.mk (below_step (by repeat (first | (with_reducible first | exact HB.out | apply below_alloc | apply pw_below_drewN | apply below_drew1 | refine below_set ?_ GE118.out) | exact HB.out)) hb); clear BK118; clear HB; have BK118 := n0_; have HB := n1_; clear n0_ n1_; (try clear hb); (try clear hb2); (try clear hk); (try clear hi); have hcz12_0 : w11.cell? ⟨gb118, 0, none⟩ = some (.int .i64 a2_0) := (blk_cell BK118.out 0).trans rfl; have hcz12_1 : w11.cell? ⟨gb118, 1, none⟩ = some (.bool a2_1) := (blk_cell BK118.out 1).trans rfl; have hcz12_2 : w11.cell? ⟨gb118, 2, none⟩ = some (.string a2_2) := (blk_cell BK118.out 2).trans rfl; have hfz12_0 := blk_frozen BK118.out 0; have hfz12_1 := blk_frozen BK118.out 1; have hfz12_2 := blk_frozen BK118.out 2) | (go_at_call 20; (with_reducible refine (utf_Valid.calls a2_2 t120 _ A10.out).mono ?_); rintro e w13 ⟨rfl, hb⟩; have n0_ := Aside0.mk (blk_below (g := gb118) (o := .cells #[.int .i64 a2_0, .bool a2_1, .string a2_2] 23 (0, 0)) (by (with_reducible repeat (first | refine blk_drewN ?_ _ | refine blk_drew ?_ | refine blk_alloc ?_ _)); exact BK118.out) hb); have n1_ := Aside0.mk (below_step (by repeat (first | (with_reducible first | exact HB.out | apply below_alloc | apply pw_below_drewN | apply below_drew1 | refine below_set ?_ GE118.out) | exact HB.out)) hb); clear BK118; clear HB; have BK118 := n0_; have HB := n1_; clear n0_ n1_; (try clear hb); (try clear hb2); (try clear hk); (try clear hi)))
      go_meet
      case rel => exact ⟨_, (!t120), (by first | rfl | (simp; done) | (simp [*]; done)), H', ⟨by first | omega | exact Nat.le_refl _⟩, ⟨by (with_reducible repeat (first | refine blk_drewN ?_ _ | refine blk_drew ?_ | refine blk_alloc ?_ _)); exact BK118.out⟩, ⟨by repeat (first | (with_reducible first | exact HB.out | apply below_alloc | apply pw_below_drewN | apply below_drew1 | refine below_set ?_ GE118.out) | exact HB.out)⟩⟩
    · replace c9 := Bool.eq_false_iff.mpr c9
      subst c9
      have H1 : (paste_Put.j0 k a0 a1 a3 a4 true a2_0 a2_1 a2_2) = some (r1, r2, r3) := by rw [if_neg (show ¬ (false = true) by decide)] at H; exact H
      clear H
      have H := H1
      clear H1
      have H' := Aside0.mk H
      clear H
      go_wp2_with (first | ((with_reducible refine gate_callee (f := 19) rfl ?_); refine goesL_ (some 19) rfl rfl Tryd.func19 (by kernel_rfl) rfl #[.string a0, .int .i64 a1] rfl (by (try simp only [List.map_toArray, List.map_cons, List.map_nil]); first | done | rfl | (simp only [List.length_drop, List.length_take]; rfl)) ?_; (with_reducible refine (utf_Place.calls a0 a1 false _ A8.out).mono ?_); rintro e w14 ⟨rfl, hb⟩; refine ⟨_, rfl, ?_⟩; have n0_ := Aside0.mk (blk_below (g := gb118) (o := .cells #[.int .i64 a2_0, .bool a2_1, .string a2_2] 23 (0, 0)) (by (with_reducible repeat (first | refine blk_drewN ?_ _ | refine blk_drew ?_ | refine blk_alloc ?_ _)); exact BK118.out) hb); have n1_ := Aside0.mk (below_step (by repeat (first | (with_reducible first | exact HB.out | apply below_alloc | apply pw_below_drewN | apply below_drew1 | refine below_set ?_ GE118.out) | exact HB.out)) hb); clear BK118; clear HB; have BK118 := n0_; have HB := n1_; clear n0_ n1_; (try clear hb); (try clear hb2); (try clear hk); (try clear hi)))
      go_meet
      case rel => exact ⟨_, (true), (by first | rfl | (simp; done) | (simp [*]; done)), H', ⟨by first | omega | exact Nat.le_refl _⟩, ⟨by (with_reducible repeat (first | refine blk_drewN ?_ _ | refine blk_drew ?_ | refine blk_alloc ?_ _)); exact BK118.out⟩, ⟨by repeat (first | (with_reducible first | exact HB.out | apply below_alloc | apply pw_below_drewN | apply below_drew1 | refine below_set ?_ GE118.out) | exact HB.out)⟩⟩
  case rest =>
    clear HC6
    try clear c1
    try clear p2
    try clear c8
    try clear c9
    try clear hcz12_0
    try clear hcz12_1
    try clear hcz12_2
    try clear hfz12_0
    try clear hfz12_1
    try clear hfz12_2
    obtain ⟨kq, x26_5, rfl, HA, HJ5, BK118, HB⟩ := hcut
    cases kq with
    | zero => exact absurd HA.out (by simp [paste_Put.j0])
    | succ kj5 =>
      have H := HA.out
      clear HA
      simp only [paste_Put.j0] at H
      by_cases c15 : x26_5 = true
      · subst c15
        have H1 : (some ((⟨#[]⟩ : ByteArray), 0, 1)) = some (r1, r2, r3) := by rw [if_pos rfl] at H; exact H
        clear H
        have H := H1
        clear H1
        simp only [Option.some.injEq, Prod.mk.injEq] at H
        obtain ⟨rfl, rfl, rfl⟩ := H
        go_wp2
        go_ret3
        exact ⟨by first | rfl | (simp [errW_none, errW_some] <;> rfl) | (simp [*, errW_none, errW_some] <;> rfl), by repeat (first | (with_reducible first | exact HB.out | apply below_alloc | apply pw_below_drewN | apply below_drew1 | refine below_set ?_ GE118.out) | exact HB.out)⟩
      · replace c15 := Bool.eq_false_iff.mpr c15
        subst c15
        have H1 : (if a2_2.toList = ([] : List UInt8) then (paste_Put.j1 kj5 a0 a1 a3 a4 (!a2_1) a2_0 a2_1 a2_2) else (paste_Put.j1 kj5 a0 a1 a3 a4 false a2_0 a2_1 a2_2)) = some (r1, r2, r3) := by rw [if_neg (show ¬ (false = true) by decide)] at H; exact H
        clear H
        have H := H1
        clear H1
        have HC16 := Aside0.mk H
        clear H
        go_upto_region 3 with (fail)
        go_cut [34] (fun v34 wc => ∃ (kq : Nat) (x34_15 : Bool), v34 = .bool x34_15 ∧ Aside0 (paste_Put.j1 kq a0 a1 a3 a4 x34_15 a2_0 a2_1 a2_2 = some (r1, r2, r3)) ∧ Aside0 (kq ≤ kj5) ∧ Aside0 (wc.heap[gb118]? = some (.cells #[.int .i64 a2_0, .bool a2_1, .string a2_2] 23 (0, 0))) ∧ Aside0 (Below w.heap.size w wc))
        case first =>
          have H := HC16.out
          clear HC16
          by_cases c17 : a2_2.toList = ([] : List UInt8)
          · rw [if_pos c17] at H
            have c17b0 : (a2_2.toList == ([] : List UInt8)) = true := beq_iff_eq.mpr c17
            have c17b1 : (a2_2.toList != ([] : List UInt8)) = false := bne_eq_false_iff_eq.mpr c17
            clear c17
            (first | rw [c17b0] | (simp only [i64_w, i32_w]; rw [c17b0]) | skip)
            have H' := Aside0.mk H
            clear H
            have hcz18_0 : wc.cell? ⟨gb118, 0, none⟩ = some (.int .i64 a2_0) := (blk_cell BK118.out 0).trans rfl
            have hcz18_1 : wc.cell? ⟨gb118, 1, none⟩ = some (.bool a2_1) := (blk_cell BK118.out 1).trans rfl
            have hcz18_2 : wc.cell? ⟨gb118, 2, none⟩ = some (.string a2_2) := (blk_cell BK118.out 2).trans rfl
            have hfz18_0 := blk_frozen BK118.out 0
            have hfz18_1 := blk_frozen BK118.out 1
            have hfz18_2 := blk_frozen BK118.out 2
            go_wp2
            go_meet
            case rel => exact ⟨_, (!a2_1), (by first | rfl | (simp; done) | (simp [*]; done)), H', ⟨by have := HJ5.out; first | omega | exact Nat.le_refl _⟩, ⟨by (with_reducible repeat (first | refine blk_drewN ?_ _ | refine blk_drew ?_ | refine blk_alloc ?_ _)); exact BK118.out⟩, ⟨by repeat (first | (with_reducible first | exact HB.out | apply below_alloc | apply pw_below_drewN | apply below_drew1 | refine below_set ?_ GE118.out) | exact HB.out)⟩⟩
          · rw [if_neg c17] at H
            have c17b0 : (a2_2.toList == ([] : List UInt8)) = false := beq_eq_false_iff_ne.mpr c17
            have c17b1 : (a2_2.toList != ([] : List UInt8)) = true := bne_iff_ne.mpr c17
            (first | rw [c17b0] | (simp only [i64_w, i32_w]; rw [c17b0]) | skip)
            have H' := Aside0.mk H
            clear H
            have hcz19_0 : wc.cell? ⟨gb118, 0, none⟩ = some (.int .i64 a2_0) := (blk_cell BK118.out 0).trans rfl
            have hcz19_1 : wc.cell? ⟨gb118, 1, none⟩ = some (.bool a2_1) := (blk_cell BK118.out 1).trans rfl
            have hcz19_2 : wc.cell? ⟨gb118, 2, none⟩ = some (.string a2_2) := (blk_cell BK118.out 2).trans rfl
            have hfz19_0 := blk_frozen BK118.out 0
            have hfz19_1 := blk_frozen BK118.out 1
            have hfz19_2 := blk_frozen BK118.out 2
            go_wp2
            go_meet
            case rel => exact ⟨_, (false), (by first | rfl | (simp; done) | (simp [*]; done)), H', ⟨by have := HJ5.out; first | omega | exact Nat.le_refl _⟩, ⟨by (with_reducible repeat (first | refine blk_drewN ?_ _ | refine blk_drew ?_ | refine blk_alloc ?_ _)); exact BK118.out⟩, ⟨by repeat (first | (with_reducible first | exact HB.out | apply below_alloc | apply pw_below_drewN | apply below_drew1 | refine below_set ?_ GE118.out) | exact HB.out)⟩⟩
        case rest =>
          clear HC16
          try clear c1
          try clear p2
          try clear c8
          try clear c9
          try clear c15
          try clear c17
          try clear c17b0
          try clear c17b1
          try clear c19
          try clear hcz12_0
          try clear hcz12_1
          try clear hcz12_2
          try clear hcz18_0
          try clear hcz18_1
          try clear hcz18_2
          try clear hcz19_0
          try clear hcz19_1
          try clear hcz19_2
          try clear hfz12_0
          try clear hfz12_1
          try clear hfz12_2
          try clear hfz18_0
          try clear hfz18_1
          try clear hfz18_2
          try clear hfz19_0
          try clear hfz19_1
          try clear hfz19_2
          try clear p2
          obtain ⟨kq, x34_15, rfl, HA, HJ15, BK118, HB⟩ := hcut
          cases kq with
          | zero => exact absurd HA.out (by simp [paste_Put.j1])
          | succ kj15 =>
            have H := HA.out
            clear HA
            simp only [paste_Put.j1] at H
            by_cases c20 : x34_15 = true
            · subst c20
              have H1 : (some ((⟨#[]⟩ : ByteArray), 0, 7)) = some (r1, r2, r3) := by rw [if_pos rfl] at H; exact H
              clear H
              have H := H1
              clear H1
              simp only [Option.some.injEq, Prod.mk.injEq] at H
              obtain ⟨rfl, rfl, rfl⟩ := H
              go_wp2
              go_ret3
              exact ⟨by first | rfl | (simp [errW_none, errW_some] <;> rfl) | (simp [*, errW_none, errW_some] <;> rfl), by repeat (first | (with_reducible first | exact HB.out | apply below_alloc | apply pw_below_drewN | apply below_drew1 | refine below_set ?_ GE118.out) | exact HB.out)⟩
            · replace c20 := Bool.eq_false_iff.mpr c20
              subst c20
              have H1 : (if a2_1 = true then ((line_Of.f a0 a1).bind fun t121 => ((paste_lines.f kj15 a0 t121 a2_2 a3 (mx a4 1)).bind fun bt122 => (some (bt122.1, bt122.2.1, bt122.2.2)))) else ((paste_times.f kj15 a2_2 (⟨#[]⟩ : ByteArray) (mx a4 1)).bind fun bt125 => (if bt125.2 = true then (if a3 = true then (paste_Put.j2 kj15 a0 a1 bt125.1 false) else ((paste_stop.f a0 a1).bind fun t127 => (paste_Put.j2 kj15 a0 a1 bt125.1 (!t127)))) else (some ((⟨#[]⟩ : ByteArray), 0, 8))))) = some (r1, r2, r3) := by rw [if_neg (show ¬ (false = true) by decide)] at H; exact H
              clear H
              have H := H1
              clear H1
              by_cases c21 : a2_1 = true
              · subst c21
                have H1 : ((line_Of.f a0 a1).bind fun t121 => ((paste_lines.f kj15 a0 t121 a2_2 a3 (mx a4 1)).bind fun bt122 => (some (bt122.1, bt122.2.1, bt122.2.2)))) = some (r1, r2, r3) := by rw [if_pos rfl] at H; exact H
                clear H
                have H := H1
                clear H1
                replace H := Option.bind_eq_some_iff.mp H
                obtain ⟨t121, A220, H⟩ := H
                replace H : ((paste_lines.f kj15 a0 t121 a2_2 a3 (mx a4 1)).bind fun bt122 => (some (bt122.1, bt122.2.1, bt122.2.2))) = some (r1, r2, r3) := H
                have A22 := Aside0.mk A220
                clear A220
                obtain ⟨ji23, hji23⟩ : ∃ j_ : Int, (mx a4 1) = j_ := ⟨_, rfl⟩
                replace H : ((paste_lines.f kj15 a0 t121 a2_2 a3 (ji23)).bind fun bt122 => (some (bt122.1, bt122.2.1, bt122.2.2))) = some (r1, r2, r3) := by first | (rw [hji23] at H; exact H) | (simp only [hji23] at H ⊢; exact H)
                (try rw [hji23] at A22)
                have hji23_ : (if a4 < 1 then 1 else a4) = ji23 := hji23
                replace H := Option.bind_eq_some_iff.mp H
                obtain ⟨⟨t122, t123, t124⟩, A240, H⟩ := H
                replace H : (some (t122, t123, t124)) = some (r1, r2, r3) := H
                have A24 := Aside0.mk A240
                clear A240
                simp only [Option.some.injEq, Prod.mk.injEq] at H
                obtain ⟨rfl, rfl, rfl⟩ := H
                have hcz25_0 : wc.cell? ⟨gb118, 0, none⟩ = some (.int .i64 a2_0) := (blk_cell BK118.out 0).trans rfl
                have hcz25_1 : wc.cell? ⟨gb118, 1, none⟩ = some (.bool true) := (blk_cell BK118.out 1).trans rfl
                have hcz25_2 : wc.cell? ⟨gb118, 2, none⟩ = some (.string a2_2) := (blk_cell BK118.out 2).trans rfl
                have hfz25_0 := blk_frozen BK118.out 0
                have hfz25_1 := blk_frozen BK118.out 1
                have hfz25_2 := blk_frozen BK118.out 2
                try go_wp2
                have n0_ := Aside0.mk (blk_drew BK118.out)
                have n1_ := Aside0.mk (below_drew1 HB.out)
                clear BK118
                clear HB
                have BK118 := n0_
                have HB := n1_
                clear n0_ n1_
                refine start_ (n := 16) (S := fun w' => w'.cell? ⟨gb118, 0, none⟩ = some (.int .i64 a2_0) ∧ w'.cell? ⟨gb118, 1, none⟩ = some (.bool true) ∧ w'.cell? ⟨gb118, 2, none⟩ = some (.string a2_2)) (ds := []) #[false, false, false, false, false, false, false, false, false, false, false, false, false, false, false, false] (by kernel_rfl) rfl rfl ⟨(blk_cell BK118.out 0).trans rfl, (blk_cell BK118.out 1).trans rfl, (blk_cell BK118.out 2).trans rfl⟩ (fun hHeld => ?_); refine with_tabW paste_Put.tab6 paste_Put.bits6 (fun HT_ HW_ => ?_)
                generalize wc.drew = w26 at BK118 HB hHeld ⊢
                refine pure_ (i := 0) (N := some 37) (v := ?_) (a' := ?_) #[true, false, false, false, false, false, false, false, false, false, false, false, false, false, false, false] rfl rfl (any_of HT_.out (by kernel_rfl)) (fun _ _ _ h => h) (Or.inl ⟨by rfl, ?_⟩) ?_ ?_
                rotate_left
                · intro w'
                  go_simp
                  with_reducible rfl
                rotate_left
                · simp only [Act.put, List.setIfInBounds_toArray, List.set_cons_zero, List.set_cons_succ, i64_w, i32_w]
                  rfl
                refine pure_ (i := 1) (N := some 38) (v := ?_) (a' := ?_) #[true, true, false, false, false, false, false, false, false, false, false, false, false, false, false, false] rfl rfl (any_of HT_.out (by kernel_rfl)) (fun _ _ _ h => h) (Or.inl ⟨by rfl, ?_⟩) ?_ ?_
                rotate_left
                · intro w'
                  go_simp
                  with_reducible rfl
                rotate_left
                · simp only [Act.put, List.setIfInBounds_toArray, List.set_cons_zero, List.set_cons_succ, i64_w, i32_w]
                  rfl
                refine pure_ (i := 2) (N := some 39) (v := ?_) (a' := ?_) #[true, true, true, false, false, false, false, false, false, false, false, false, false, false, false, false] rfl rfl (any_of HT_.out (by kernel_rfl)) (fun _ _ _ h => h) (Or.inl ⟨by rfl, ?_⟩) ?_ ?_
                rotate_left
                · intro w'
                  go_simp
                  with_reducible rfl
                rotate_left
                · simp only [Act.put, List.setIfInBounds_toArray, List.set_cons_zero, List.set_cons_succ, i64_w, i32_w]
                  rfl
                refine pure_ (i := 4) (N := some 41) (v := ?_) (a' := ?_) #[true, true, true, false, true, false, false, false, false, false, false, false, false, false, false, false] rfl rfl (any_of HT_.out (by kernel_rfl)) (fun _ _ _ h => h) (Or.inl ⟨by rfl, ?_⟩) ?_ ?_
                rotate_left
                · intro w'
                  go_simp
                  with_reducible rfl
                rotate_left
                · simp only [Act.put, List.setIfInBounds_toArray, List.set_cons_zero, List.set_cons_succ, i64_w, i32_w]
                  rfl
                refine pure_ (i := 6) (N := some 43) (v := ?_) (a' := ?_) #[true, true, true, false, true, false, true, false, false, false, false, false, false, false, false, false] rfl rfl (any_of HT_.out (by kernel_rfl)) (fun _ _ _ h => h) (Or.inl ⟨by rfl, ?_⟩) ?_ ?_
                rotate_left
                · intro w'
                  go_simp
                  with_reducible rfl
                rotate_left
                · simp only [Act.put, List.setIfInBounds_toArray, List.set_cons_zero, List.set_cons_succ, i64_w, i32_w]
                  rfl
                refine pure_ (i := 7) (N := some 44) (v := ?_) (a' := ?_) #[true, true, true, false, true, false, true, true, false, false, false, false, false, false, false, false] rfl rfl (any_of HT_.out (by kernel_rfl)) (fun _ _ _ h => h) (Or.inl ⟨by rfl, ?_⟩) ?_ ?_
                rotate_left
                · intro w'
                  go_simp
                  with_reducible rfl
                rotate_left
                · simp only [Act.put, List.setIfInBounds_toArray, List.set_cons_zero, List.set_cons_succ, i64_w, i32_w]
                  rfl
                refine pure_ (i := 8) (N := some 45) (v := ?_) (a' := ?_) #[true, true, true, false, true, false, true, true, true, false, false, false, false, false, false, false] rfl rfl (any_of HT_.out (by kernel_rfl)) (fun _ _ _ h => h) (Or.inl ⟨by rfl, ?_⟩) ?_ ?_
                rotate_left
                · intro w'
                  go_simp
                  with_reducible rfl
                rotate_left
                · simp only [Act.put, List.setIfInBounds_toArray, List.set_cons_zero, List.set_cons_succ, i64_w, i32_w]
                  rfl
                refine take_ (i := 5) (N := some 42) (v := ?_) (a' := ?_) #[true, true, true, false, true, true, true, true, true, false, false, false, false, false, false, false] rfl rfl (take_ofW HT_.out HW_.out (by kernel_rfl)) (fun _ _ _ h => h) (Or.inl ⟨by rfl, ?_⟩) hHeld ?_ ?_
                rotate_left
                · rintro w' ⟨s0, s1, s2⟩
                  go_simp
                  with_reducible rfl
                rotate_left
                · simp only [Act.put, List.setIfInBounds_toArray, List.set_cons_zero, List.set_cons_succ, i64_w, i32_w]
                  rfl
                refine one_ (i := 3) (N := some 40) #[true, true, true, true, true, true, true, true, true, false, false, false, false, false, false, false] rfl rfl (one_of HT_.out (by kernel_rfl)) (by decide) (fun K hK => ?_)
                refine goes_ Tryd.func22 (by kernel_rfl) rfl #[.string a0, .int .i64 a1] (by rfl) rfl rfl (by (try simp only [List.map_toArray, List.map_cons, List.map_nil]); first | done | rfl | (simp only [List.length_drop, List.length_take]; rfl)) ?_
                with_reducible refine (line_Of.calls a0 a1 t121 _ A22.out).mono ?_
                rintro e w27 ⟨rfl, hb⟩
                refine ⟨_, rfl, ?_⟩
                have n0_ := Aside0.mk (blk_below (g := gb118) (o := .cells #[.int .i64 a2_0, .bool true, .string a2_2] 23 (0, 0)) (by (with_reducible repeat (first | refine blk_drewN ?_ _ | refine blk_drew ?_ | refine blk_alloc ?_ _)); exact BK118.out) hb)
                have n1_ := Aside0.mk (below_step (by repeat (first | (with_reducible first | exact HB.out | apply below_alloc | apply pw_below_drewN | apply below_drew1 | refine below_set ?_ GE118.out) | exact HB.out)) hb)
                clear BK118
                clear HB
                have BK118 := n0_
                have HB := n1_
                clear n0_ n1_
                (try clear hb)
                (try clear hb2)
                (try clear hk)
                (try clear hi)
                refine hK.out _ _ ⟨(blk_cell BK118.out 0).trans rfl, (blk_cell BK118.out 1).trans rfl, (blk_cell BK118.out 2).trans rfl⟩ (fun hHeld => ?_)
                clear hK K
                refine norm_ (a' := ?_) ?_ ?_
                rotate_left
                · show Act.put _ (some 40) _ = _
                  simp only [Act.put, List.setIfInBounds_toArray, List.set_cons_zero, List.set_cons_succ, i64_w, i32_w]
                  rfl
                refine one_ (i := 9) (N := some 46) #[true, true, true, true, true, true, true, true, true, true, false, false, false, false, false, false] rfl rfl (one_of HT_.out (by kernel_rfl)) (by decide) (fun K hK => ?_)
                refine goes_ Tryd.func21 (by kernel_rfl) rfl #[.string a0, .int .i64 t121, .string a2_2, .bool a3, .int .i64 ji23] (by rfl) rfl rfl (by (try simp only [List.map_toArray, List.map_cons, List.map_nil]); first | done | (simp only [hji23]; rfl) | rfl | (simp only [List.length_drop, List.length_take]; rfl)) ?_
                with_reducible refine (paste_lines.calls kj15 a0 t121 a2_2 a3 ji23 t122 t123 t124 _ A24.out).mono ?_
                rintro e w28 ⟨rfl, hb⟩
                refine ⟨_, rfl, ?_⟩
                have n0_ := Aside0.mk (blk_below (g := gb118) (o := .cells #[.int .i64 a2_0, .bool true, .string a2_2] 23 (0, 0)) (by (with_reducible repeat (first | refine blk_drewN ?_ _ | refine blk_drew ?_ | refine blk_alloc ?_ _)); exact BK118.out) hb)
                have n1_ := Aside0.mk (below_step (by repeat (first | (with_reducible first | exact HB.out | apply below_alloc | apply pw_below_drewN | apply below_drew1 | refine below_set ?_ GE118.out) | exact HB.out)) hb)
                clear BK118
                clear HB
                have BK118 := n0_
                have HB := n1_
                clear n0_ n1_
                (try clear hb)
                (try clear hb2)
                (try clear hk)
                (try clear hi)
                refine hK.out _ _ ⟨(blk_cell BK118.out 0).trans rfl, (blk_cell BK118.out 1).trans rfl, (blk_cell BK118.out 2).trans rfl⟩ (fun hHeld => ?_)
                clear hK K
                refine norm_ (a' := ?_) ?_ ?_
                rotate_left
                · show Act.put _ (some 46) _ = _
                  simp only [Act.put, List.setIfInBounds_toArray, List.set_cons_zero, List.set_cons_succ, i64_w, i32_w]
                  rfl
                refine pure_ (i := 10) (N := some 47) (v := ?_) (a' := ?_) #[true, true, true, true, true, true, true, true, true, true, true, false, false, false, false, false] rfl rfl (any_of HT_.out (by kernel_rfl)) (fun _ _ _ h => h) (Or.inl ⟨by rfl, ?_⟩) ?_ ?_
                rotate_left
                · intro w'
                  go_simp
                  with_reducible rfl
                rotate_left
                · simp only [Act.put, List.setIfInBounds_toArray, List.set_cons_zero, List.set_cons_succ, i64_w, i32_w]
                  rfl
                refine pure_ (i := 11) (N := some 48) (v := ?_) (a' := ?_) #[true, true, true, true, true, true, true, true, true, true, true, true, false, false, false, false] rfl rfl (any_of HT_.out (by kernel_rfl)) (fun _ _ _ h => h) (Or.inl ⟨by rfl, ?_⟩) ?_ ?_
                rotate_left
                · intro w'
                  go_simp
                  with_reducible rfl
                rotate_left
                · simp only [Act.put, List.setIfInBounds_toArray, List.set_cons_zero, List.set_cons_succ, i64_w, i32_w]
                  rfl
                refine pure_ (i := 12) (N := some 49) (v := ?_) (a' := ?_) #[true, true, true, true, true, true, true, true, true, true, true, true, true, false, false, false] rfl rfl (any_of HT_.out (by kernel_rfl)) (fun _ _ _ h => h) (Or.inl ⟨by rfl, ?_⟩) ?_ ?_
                rotate_left
                · intro w'
                  go_simp
                  with_reducible rfl
                rotate_left
                · simp only [Act.put, List.setIfInBounds_toArray, List.set_cons_zero, List.set_cons_succ, i64_w, i32_w]
                  rfl
                refine pure_ (i := 13) (N := some 10) (v := ?_) (a' := ?_) #[true, true, true, true, true, true, true, true, true, true, true, true, true, true, false, false] rfl rfl (any_of HT_.out (by kernel_rfl)) (fun _ _ _ h => h) (Or.inl ⟨by rfl, ?_⟩) ?_ ?_
                rotate_left
                · intro w'
                  go_simp
                  with_reducible rfl
                rotate_left
                · simp only [Act.put, List.setIfInBounds_toArray, List.set_cons_zero, List.set_cons_succ, i64_w, i32_w]
                  rfl
                refine pure_ (i := 14) (N := some 11) (v := ?_) (a' := ?_) #[true, true, true, true, true, true, true, true, true, true, true, true, true, true, true, false] rfl rfl (any_of HT_.out (by kernel_rfl)) (fun _ _ _ h => h) (Or.inl ⟨by rfl, ?_⟩) ?_ ?_
                rotate_left
                · intro w'
                  go_simp
                  with_reducible rfl
                rotate_left
                · simp only [Act.put, List.setIfInBounds_toArray, List.set_cons_zero, List.set_cons_succ, i64_w, i32_w]
                  rfl
                refine pure_ (i := 15) (N := some 12) (v := ?_) (a' := ?_) #[true, true, true, true, true, true, true, true, true, true, true, true, true, true, true, true] rfl rfl (any_of HT_.out (by kernel_rfl)) (fun _ _ _ h => h) (Or.inl ⟨by rfl, ?_⟩) ?_ ?_
                rotate_left
                · intro w'
                  go_simp
                  with_reducible rfl
                rotate_left
                · simp only [Act.put, List.setIfInBounds_toArray, List.set_cons_zero, List.set_cons_succ, i64_w, i32_w]
                  rfl
                refine done_ (done_of HT_.out (by kernel_rfl)) ?_
                try go_wp2
                go_ret3
                exact ⟨by first | rfl | (simp [errW_none, errW_some] <;> rfl) | (simp only [← hji23]; first | rfl | (simp [errW_none, errW_some] <;> rfl)) | (simp [*, errW_none, errW_some] <;> rfl), by repeat (first | (with_reducible first | exact HB.out | apply below_alloc | apply pw_below_drewN | apply below_drew1 | refine below_set ?_ GE118.out) | exact HB.out)⟩
              · replace c21 := Bool.eq_false_iff.mpr c21
                subst c21
                have H1 : ((paste_times.f kj15 a2_2 (⟨#[]⟩ : ByteArray) (mx a4 1)).bind fun bt125 => (if bt125.2 = true then (if a3 = true then (paste_Put.j2 kj15 a0 a1 bt125.1 false) else ((paste_stop.f a0 a1).bind fun t127 => (paste_Put.j2 kj15 a0 a1 bt125.1 (!t127)))) else (some ((⟨#[]⟩ : ByteArray), 0, 8)))) = some (r1, r2, r3) := by rw [if_neg (show ¬ (false = true) by decide)] at H; exact H
                clear H
                have H := H1
                clear H1
                obtain ⟨ji29, hji29⟩ : ∃ j_ : Int, (mx a4 1) = j_ := ⟨_, rfl⟩
                replace H : ((paste_times.f kj15 a2_2 (⟨#[]⟩ : ByteArray) (ji29)).bind fun bt125 => (if bt125.2 = true then (if a3 = true then (paste_Put.j2 kj15 a0 a1 bt125.1 false) else ((paste_stop.f a0 a1).bind fun t127 => (paste_Put.j2 kj15 a0 a1 bt125.1 (!t127)))) else (some ((⟨#[]⟩ : ByteArray), 0, 8)))) = some (r1, r2, r3) := by first | (rw [hji29] at H; exact H) | (simp only [hji29] at H ⊢; exact H)
                have hji29_ : (if a4 < 1 then 1 else a4) = ji29 := hji29
                replace H := Option.bind_eq_some_iff.mp H
                obtain ⟨⟨t125, t126⟩, A300, H⟩ := H
                replace H : (if t126 = true then (if a3 = true then (paste_Put.j2 kj15 a0 a1 t125 false) else ((paste_stop.f a0 a1).bind fun t127 => (paste_Put.j2 kj15 a0 a1 t125 (!t127)))) else (some ((⟨#[]⟩ : ByteArray), 0, 8))) = some (r1, r2, r3) := H
                have A30 := Aside0.mk A300
                clear A300
                by_cases c31 : t126 = true
                · subst c31
                  have H1 : (if a3 = true then (paste_Put.j2 kj15 a0 a1 t125 false) else ((paste_stop.f a0 a1).bind fun t127 => (paste_Put.j2 kj15 a0 a1 t125 (!t127)))) = some (r1, r2, r3) := by rw [if_pos rfl] at H; exact H
                  clear H
                  have H := H1
                  clear H1
                  have HC32 := Aside0.mk H
                  clear H
                  have hcz33_0 : wc.cell? ⟨gb118, 0, none⟩ = some (.int .i64 a2_0) := (blk_cell BK118.out 0).trans rfl
                  have hcz33_1 : wc.cell? ⟨gb118, 1, none⟩ = some (.bool false) := (blk_cell BK118.out 1).trans rfl
                  have hcz33_2 : wc.cell? ⟨gb118, 2, none⟩ = some (.string a2_2) := (blk_cell BK118.out 2).trans rfl
                  have hfz33_0 := blk_frozen BK118.out 0
                  have hfz33_1 := blk_frozen BK118.out 1
                  have hfz33_2 := blk_frozen BK118.out 2
                  go_upto_region 10 with (first | ((with_reducible refine gate_callee (f := 23) rfl ?_); refine goesL_ (some 55) rfl rfl Tryd.func23 (by kernel_rfl) rfl #[.string a2_2, .string (⟨#[]⟩ : ByteArray), .int .i64 ji29] rfl (by (try simp only [List.map_toArray, List.map_cons, List.map_nil]); first | done | (simp only [hji29]; rfl) | rfl | (simp only [List.length_drop, List.length_take]; rfl)) ?_; (with_reducible refine (paste_times.calls kj15 a2_2 (⟨#[]⟩ : ByteArray) ji29 t125 true _ A30.out).mono ?_); rintro e w34 ⟨rfl, hb⟩; refine ⟨_, rfl, ?_⟩; have n0_ := Aside0.mk (blk_below (g := gb118) (o := .cells #[.int .i64 a2_0, .bool false, .string a2_2] 23 (0, 0)) (by (with_reducible repeat (first | refine blk_drewN ?_ _ | refine blk_drew ?_ | refine blk_alloc ?_ _)); exact BK118.out) hb); have n1_ := Aside0.mk (below_step (by repeat (first | (with_reducible first | exact HB.out | apply below_alloc | apply pw_below_drewN | apply below_drew1 | refine below_set ?_ GE118.out) | exact HB.out)) hb); clear BK118; clear HB; have BK118 := n0_; have HB := n1_; clear n0_ n1_; (try clear hb); (try clear hb2); (try clear hk); (try clear hi)))
                  (try simp only [Act.put, List.setIfInBounds_toArray, List.set_cons_zero, List.set_cons_succ])
                  go_cut [67] (fun v67 wc => ∃ (kq : Nat) (x67_31 : Bool), v67 = .bool x67_31 ∧ Aside0 (paste_Put.j2 kq a0 a1 t125 x67_31 = some (r1, r2, r3)) ∧ Aside0 (kq ≤ kj15) ∧ Aside0 (wc.heap[gb118]? = some (.cells #[.int .i64 a2_0, .bool false, .string a2_2] 23 (0, 0))) ∧ Aside0 (Below w.heap.size w wc))
                  case first =>
                    have H := HC32.out
                    clear HC32
                    by_cases c35 : a3 = true
                    · subst c35
                      have H1 : (paste_Put.j2 kj15 a0 a1 t125 false) = some (r1, r2, r3) := by rw [if_pos rfl] at H; exact H
                      clear H
                      have H := H1
                      clear H1
                      have H' := Aside0.mk H
                      clear H
                      go_wp2
                      go_meet
                      case rel => exact ⟨_, (false), (by first | rfl | (simp; done) | (simp [*]; done)), H', ⟨by have := HJ5.out; have := HJ15.out; first | omega | exact Nat.le_refl _⟩, ⟨by (with_reducible repeat (first | refine blk_drewN ?_ _ | refine blk_drew ?_ | refine blk_alloc ?_ _)); exact BK118.out⟩, ⟨by repeat (first | (with_reducible first | exact HB.out | apply below_alloc | apply pw_below_drewN | apply below_drew1 | refine below_set ?_ GE118.out) | exact HB.out)⟩⟩
                    · replace c35 := Bool.eq_false_iff.mpr c35
                      subst c35
                      have H1 : ((paste_stop.f a0 a1).bind fun t127 => (paste_Put.j2 kj15 a0 a1 t125 (!t127))) = some (r1, r2, r3) := by rw [if_neg (show ¬ (false = true) by decide)] at H; exact H
                      clear H
                      have H := H1
                      clear H1
                      replace H := Option.bind_eq_some_iff.mp H
                      obtain ⟨t127, A360, H⟩ := H
                      replace H : (paste_Put.j2 kj15 a0 a1 t125 (!t127)) = some (r1, r2, r3) := H
                      have A36 := Aside0.mk A360
                      clear A360
                      have H' := Aside0.mk H
                      clear H
                      go_wp2_with (first | (go_at_call 24; (with_reducible refine (paste_stop.calls a0 a1 t127 _ A36.out).mono ?_); rintro e w' ⟨rfl, ⟨nd, rfl⟩⟩))
                      go_meet
                      case rel => exact ⟨_, (!t127), (by first | rfl | (simp; done) | (simp [*]; done)), H', ⟨by have := HJ5.out; have := HJ15.out; first | omega | exact Nat.le_refl _⟩, ⟨by (with_reducible repeat (first | refine blk_drewN ?_ _ | refine blk_drew ?_ | refine blk_alloc ?_ _)); exact BK118.out⟩, ⟨by repeat (first | (with_reducible first | exact HB.out | apply below_alloc | apply pw_below_drewN | apply below_drew1 | refine below_set ?_ GE118.out) | exact HB.out)⟩⟩
                  case rest =>
                    clear HC32
                    try clear c1
                    try clear c2
                    try clear p2
                    try clear c3
                    try clear c8
                    try clear c9
                    try clear c15
                    try clear c17
                    try clear c17b0
                    try clear c17b1
                    try clear c19
                    try clear c20
                    try clear c21
                    try clear c22
                    try clear c23
                    try clear c31
                    try clear c35
                    try clear hcz12_0
                    try clear hcz12_1
                    try clear hcz12_2
                    try clear hcz18_0
                    try clear hcz18_1
                    try clear hcz18_2
                    try clear hcz19_0
                    try clear hcz19_1
                    try clear hcz19_2
                    try clear hcz25_0
                    try clear hcz25_1
                    try clear hcz25_2
                    try clear hcz33_0
                    try clear hcz33_1
                    try clear hcz33_2
                    try clear hfz12_0
                    try clear hfz12_1
                    try clear hfz12_2
                    try clear hfz18_0
                    try clear hfz18_1
                    try clear hfz18_2
                    try clear hfz19_0
                    try clear hfz19_1
                    try clear hfz19_2
                    try clear hfz25_0
                    try clear hfz25_1
                    try clear hfz25_2
                    try clear hfz33_0
                    try clear hfz33_1
                    try clear hfz33_2
                    try clear p2
                    obtain ⟨kq, x67_31, rfl, HA, HJ31, BK118, HB⟩ := hcut
                    cases kq with
                    | zero => exact absurd HA.out (by simp [paste_Put.j2])
                    | succ kj31 =>
                      have H := HA.out
                      clear HA
                      simp only [paste_Put.j2] at H
                      have HC37 := Aside0.mk H
                      clear H
                      go_upto_if 67 with (fail)
                      go_cut [1] (fun v1 wc => ∃ (kq : Nat) (x1_36 : Int), v1 = .int .i64 x1_36 ∧ Aside0 (paste_Put.j3 kq a0 x1_36 t125 = some (r1, r2, r3)) ∧ Aside0 (kq ≤ kj31) ∧ Aside0 (wc.heap[gb118]? = some (.cells #[.int .i64 a2_0, .bool false, .string a2_2] 23 (0, 0))) ∧ Aside0 (Below w.heap.size w wc))
                      case first =>
                        have H := HC37.out
                        clear HC37
                        by_cases c38 : x67_31 = true
                        · subst c38
                          have H1 : ((utf_Next.f a0 a1).bind fun t128 => (paste_Put.j3 kj31 a0 t128 t125)) = some (r1, r2, r3) := by rw [if_pos rfl] at H; exact H
                          clear H
                          have H := H1
                          clear H1
                          replace H := Option.bind_eq_some_iff.mp H
                          obtain ⟨t128, A390, H⟩ := H
                          replace H : (paste_Put.j3 kj31 a0 t128 t125) = some (r1, r2, r3) := H
                          have A39 := Aside0.mk A390
                          clear A390
                          have H' := Aside0.mk H
                          clear H
                          go_wp2_with (first | ((with_reducible refine gate_callee (f := 25) rfl ?_); refine goesL_ (some 70) rfl rfl Tryd.func25 (by kernel_rfl) rfl #[.string a0, .int .i64 a1] rfl (by (try simp only [List.map_toArray, List.map_cons, List.map_nil]); first | done | rfl | (simp only [List.length_drop, List.length_take]; rfl)) ?_; (with_reducible refine (utf_Next.calls a0 a1 t128 _ A39.out).mono ?_); rintro e w40 ⟨rfl, hb⟩; refine ⟨_, rfl, ?_⟩; have n0_ := Aside0.mk (blk_below (g := gb118) (o := .cells #[.int .i64 a2_0, .bool false, .string a2_2] 23 (0, 0)) (by (with_reducible repeat (first | refine blk_drewN ?_ _ | refine blk_drew ?_ | refine blk_alloc ?_ _)); exact BK118.out) hb); have n1_ := Aside0.mk (below_step (by repeat (first | (with_reducible first | exact HB.out | apply below_alloc | apply pw_below_drewN | apply below_drew1 | refine below_set ?_ GE118.out) | exact HB.out)) hb); clear BK118; clear HB; have BK118 := n0_; have HB := n1_; clear n0_ n1_; (try clear hb); (try clear hb2); (try clear hk); (try clear hi)))
                          go_meet
                          case rel => exact ⟨_, (t128), (by first | rfl | (simp; done) | (simp [*]; done)), H', ⟨by have := HJ5.out; have := HJ15.out; have := HJ31.out; first | omega | exact Nat.le_refl _⟩, ⟨by (with_reducible repeat (first | refine blk_drewN ?_ _ | refine blk_drew ?_ | refine blk_alloc ?_ _)); exact BK118.out⟩, ⟨by repeat (first | (with_reducible first | exact HB.out | apply below_alloc | apply pw_below_drewN | apply below_drew1 | refine below_set ?_ GE118.out) | exact HB.out)⟩⟩
                        · replace c38 := Bool.eq_false_iff.mpr c38
                          subst c38
                          have H1 : (paste_Put.j3 kj31 a0 a1 t125) = some (r1, r2, r3) := by rw [if_neg (show ¬ (false = true) by decide)] at H; exact H
                          clear H
                          have H := H1
                          clear H1
                          have H' := Aside0.mk H
                          clear H
                          go_wp2
                          go_meet
                          case rel => exact ⟨_, (a1), (by first | rfl | (simp; done) | (simp [*]; done)), H', ⟨by have := HJ5.out; have := HJ15.out; have := HJ31.out; first | omega | exact Nat.le_refl _⟩, ⟨by (with_reducible repeat (first | refine blk_drewN ?_ _ | refine blk_drew ?_ | refine blk_alloc ?_ _)); exact BK118.out⟩, ⟨by repeat (first | (with_reducible first | exact HB.out | apply below_alloc | apply pw_below_drewN | apply below_drew1 | refine below_set ?_ GE118.out) | exact HB.out)⟩⟩
                      case rest =>
                        clear HC37
                        try clear c1
                        try clear c2
                        try clear p2
                        try clear c3
                        try clear c8
                        try clear c9
                        try clear c15
                        try clear c17
                        try clear c17b0
                        try clear c17b1
                        try clear c19
                        try clear c20
                        try clear c21
                        try clear c22
                        try clear c23
                        try clear c25
                        try clear c31
                        try clear c35
                        try clear c38
                        try clear hcz12_0
                        try clear hcz12_1
                        try clear hcz12_2
                        try clear hcz18_0
                        try clear hcz18_1
                        try clear hcz18_2
                        try clear hcz19_0
                        try clear hcz19_1
                        try clear hcz19_2
                        try clear hcz25_0
                        try clear hcz25_1
                        try clear hcz25_2
                        try clear hcz33_0
                        try clear hcz33_1
                        try clear hcz33_2
                        try clear hfz12_0
                        try clear hfz12_1
                        try clear hfz12_2
                        try clear hfz18_0
                        try clear hfz18_1
                        try clear hfz18_2
                        try clear hfz19_0
                        try clear hfz19_1
                        try clear hfz19_2
                        try clear hfz25_0
                        try clear hfz25_1
                        try clear hfz25_2
                        try clear hfz33_0
                        try clear hfz33_1
                        try clear hfz33_2
                        try clear p2
                        obtain ⟨kq, x1_36, rfl, HA, HJ36, BK118, HB⟩ := hcut
                        cases kq with
                        | zero => exact absurd HA.out (by simp [paste_Put.j3])
                        | succ kj36 =>
                          have H := HA.out
                          clear HA
                          simp only [paste_Put.j3] at H
                          replace H := Option.bind_eq_some_iff.mp H
                          obtain ⟨⟨t129, t130⟩, A410, H⟩ := H
                          replace H : (if t130 = 0 then ((strings_Contains.f t125 (⟨#[10]⟩ : ByteArray)).bind fun t131 => (if t131 = true then ((line_Clamp.f t129 x1_36).bind fun t132 => (some (t129, t132, 0))) else ((utf_Prev.f t129 (wrap64 (x1_36 + (t125.size : Int)))).bind fun t133 => (some (t129, t133, 0))))) else (some ((⟨#[]⟩ : ByteArray), 0, t130))) = some (r1, r2, r3) := H
                          have A41 := Aside0.mk A410
                          clear A410
                          by_cases c42 : t130 = 0
                          · rw [if_pos c42] at H
                            have c42b0 : (t130 == 0) = true := beq_iff_eq.mpr c42
                            have c42b1 : (t130 != 0) = false := bne_eq_false_iff_eq.mpr c42
                            clear c42
                            replace H := Option.bind_eq_some_iff.mp H
                            obtain ⟨t131, A430, H⟩ := H
                            replace H : (if t131 = true then ((line_Clamp.f t129 x1_36).bind fun t132 => (some (t129, t132, 0))) else ((utf_Prev.f t129 (wrap64 (x1_36 + (t125.size : Int)))).bind fun t133 => (some (t129, t133, 0)))) = some (r1, r2, r3) := H
                            have A43 := Aside0.mk A430
                            clear A430
                            by_cases c44 : t131 = true
                            · subst c44
                              have H1 : ((line_Clamp.f t129 x1_36).bind fun t132 => (some (t129, t132, 0))) = some (r1, r2, r3) := by rw [if_pos rfl] at H; exact H
                              clear H
                              have H := H1
                              clear H1
                              replace H := Option.bind_eq_some_iff.mp H
                              obtain ⟨t132, A450, H⟩ := H
                              replace H : (some (t129, t132, 0)) = some (r1, r2, r3) := H
                              have A45 := Aside0.mk A450
                              clear A450
                              simp only [Option.some.injEq, Prod.mk.injEq] at H
                              obtain ⟨rfl, rfl, rfl⟩ := H
                              go_wp2_with (first | ((with_reducible refine gate_callee (f := 26) rfl ?_); refine goesL_ (some 75) rfl rfl Tryd.func26 (by kernel_rfl) rfl #[.string a0, .int .i64 x1_36, .string t125] rfl (by (try simp only [List.map_toArray, List.map_cons, List.map_nil]); first | done | rfl | (simp only [List.length_drop, List.length_take]; rfl)) ?_; (with_reducible refine (paste_insert.calls a0 x1_36 t125 t129 t130 _ A41.out).mono ?_); rintro e w' ⟨rfl, ⟨nd, rfl⟩⟩; refine ⟨_, rfl, ?_⟩) | ((with_reducible refine gate_callee (f := 27) rfl ?_); refine goesL_ (some 82) rfl rfl Tryd.func27 (by kernel_rfl) rfl #[.string t125, .string (⟨#[10]⟩ : ByteArray)] rfl (by (try simp only [List.map_toArray, List.map_cons, List.map_nil]); first | done | rfl | (simp only [List.length_drop, List.length_take]; rfl)) ?_; (with_reducible refine (strings_Contains.calls t125 (⟨#[10]⟩ : ByteArray) true _ A43.out).mono ?_); rintro e w46 ⟨rfl, hb⟩; refine ⟨_, rfl, ?_⟩; have n0_ := Aside0.mk (blk_below (g := gb118) (o := .cells #[.int .i64 a2_0, .bool false, .string a2_2] 23 (0, 0)) (by (with_reducible repeat (first | refine blk_drewN ?_ _ | refine blk_drew ?_ | refine blk_alloc ?_ _)); exact BK118.out) hb); have n1_ := Aside0.mk (below_step (by repeat (first | (with_reducible first | exact HB.out | apply below_alloc | apply pw_below_drewN | apply below_drew1 | refine below_set ?_ GE118.out) | exact HB.out)) hb); clear BK118; clear HB; have BK118 := n0_; have HB := n1_; clear n0_ n1_; (try clear hb); (try clear hb2); (try clear hk); (try clear hi)) | ((with_reducible refine gate_callee (f := 28) rfl ?_); refine goesL_ (some 86) rfl rfl Tryd.func28 (by kernel_rfl) rfl #[.string t129, .int .i64 x1_36] rfl (by (try simp only [List.map_toArray, List.map_cons, List.map_nil]); first | done | rfl | (simp only [List.length_drop, List.length_take]; rfl)) ?_; (with_reducible refine (line_Clamp.calls t129 x1_36 t132 _ A45.out).mono ?_); rintro e w47 ⟨rfl, hb⟩; refine ⟨_, rfl, ?_⟩; have n0_ := Aside0.mk (blk_below (g := gb118) (o := .cells #[.int .i64 a2_0, .bool false, .string a2_2] 23 (0, 0)) (by (with_reducible repeat (first | refine blk_drewN ?_ _ | refine blk_drew ?_ | refine blk_alloc ?_ _)); exact BK118.out) hb); have n1_ := Aside0.mk (below_step (by repeat (first | (with_reducible first | exact HB.out | apply below_alloc | apply pw_below_drewN | apply below_drew1 | refine below_set ?_ GE118.out) | exact HB.out)) hb); clear BK118; clear HB; have BK118 := n0_; have HB := n1_; clear n0_ n1_; (try clear hb); (try clear hb2); (try clear hk); (try clear hi)))
                              go_ret3
                              exact ⟨by first | rfl | (simp [errW_none, errW_some] <;> rfl) | (simp only [← hji29]; first | rfl | (simp [errW_none, errW_some] <;> rfl)) | (simp [*, errW_none, errW_some] <;> rfl), by repeat (first | (with_reducible first | exact HB.out | apply below_alloc | apply pw_below_drewN | apply below_drew1 | refine below_set ?_ GE118.out) | exact HB.out)⟩
                            · replace c44 := Bool.eq_false_iff.mpr c44
                              subst c44
                              have H1 : ((utf_Prev.f t129 (wrap64 (x1_36 + (t125.size : Int)))).bind fun t133 => (some (t129, t133, 0))) = some (r1, r2, r3) := by rw [if_neg (show ¬ (false = true) by decide)] at H; exact H
                              clear H
                              have H := H1
                              clear H1
                              replace H := Option.bind_eq_some_iff.mp H
                              obtain ⟨t133, A480, H⟩ := H
                              replace H : (some (t129, t133, 0)) = some (r1, r2, r3) := H
                              have A48 := Aside0.mk A480
                              clear A480
                              simp only [Option.some.injEq, Prod.mk.injEq] at H
                              obtain ⟨rfl, rfl, rfl⟩ := H
                              go_wp2_with (first | ((with_reducible refine gate_callee (f := 26) rfl ?_); refine goesL_ (some 75) rfl rfl Tryd.func26 (by kernel_rfl) rfl #[.string a0, .int .i64 x1_36, .string t125] rfl (by (try simp only [List.map_toArray, List.map_cons, List.map_nil]); first | done | rfl | (simp only [List.length_drop, List.length_take]; rfl)) ?_; (with_reducible refine (paste_insert.calls a0 x1_36 t125 t129 t130 _ A41.out).mono ?_); rintro e w' ⟨rfl, ⟨nd, rfl⟩⟩; refine ⟨_, rfl, ?_⟩) | ((with_reducible refine gate_callee (f := 27) rfl ?_); refine goesL_ (some 82) rfl rfl Tryd.func27 (by kernel_rfl) rfl #[.string t125, .string (⟨#[10]⟩ : ByteArray)] rfl (by (try simp only [List.map_toArray, List.map_cons, List.map_nil]); first | done | rfl | (simp only [List.length_drop, List.length_take]; rfl)) ?_; (with_reducible refine (strings_Contains.calls t125 (⟨#[10]⟩ : ByteArray) false _ A43.out).mono ?_); rintro e w49 ⟨rfl, hb⟩; refine ⟨_, rfl, ?_⟩; have n0_ := Aside0.mk (blk_below (g := gb118) (o := .cells #[.int .i64 a2_0, .bool false, .string a2_2] 23 (0, 0)) (by (with_reducible repeat (first | refine blk_drewN ?_ _ | refine blk_drew ?_ | refine blk_alloc ?_ _)); exact BK118.out) hb); have n1_ := Aside0.mk (below_step (by repeat (first | (with_reducible first | exact HB.out | apply below_alloc | apply pw_below_drewN | apply below_drew1 | refine below_set ?_ GE118.out) | exact HB.out)) hb); clear BK118; clear HB; have BK118 := n0_; have HB := n1_; clear n0_ n1_; (try clear hb); (try clear hb2); (try clear hk); (try clear hi)) | ((with_reducible refine gate_callee (f := 29) rfl ?_); refine goesL_ (some 93) rfl rfl Tryd.func29 (by kernel_rfl) rfl #[.string t129, .int .i64 (wrap64 (x1_36 + (t125.size : Int)))] rfl (by (try simp only [List.map_toArray, List.map_cons, List.map_nil]); first | done | rfl | (simp only [List.length_drop, List.length_take]; rfl)) ?_; (with_reducible refine (utf_Prev.calls t129 (wrap64 (x1_36 + (t125.size : Int))) t133 _ A48.out).mono ?_); rintro e w50 ⟨rfl, hb⟩; refine ⟨_, rfl, ?_⟩; have n0_ := Aside0.mk (blk_below (g := gb118) (o := .cells #[.int .i64 a2_0, .bool false, .string a2_2] 23 (0, 0)) (by (with_reducible repeat (first | refine blk_drewN ?_ _ | refine blk_drew ?_ | refine blk_alloc ?_ _)); exact BK118.out) hb); have n1_ := Aside0.mk (below_step (by repeat (first | (with_reducible first | exact HB.out | apply below_alloc | apply pw_below_drewN | apply below_drew1 | refine below_set ?_ GE118.out) | exact HB.out)) hb); clear BK118; clear HB; have BK118 := n0_; have HB := n1_; clear n0_ n1_; (try clear hb); (try clear hb2); (try clear hk); (try clear hi)))
                              go_ret3
                              exact ⟨by first | rfl | (simp [errW_none, errW_some] <;> rfl) | (simp only [← hji29]; first | rfl | (simp [errW_none, errW_some] <;> rfl)) | (simp [*, errW_none, errW_some] <;> rfl), by repeat (first | (with_reducible first | exact HB.out | apply below_alloc | apply pw_below_drewN | apply below_drew1 | refine below_set ?_ GE118.out) | exact HB.out)⟩
                          · rw [if_neg c42] at H
                            have c42b0 : (t130 == 0) = false := beq_eq_false_iff_ne.mpr c42
                            have c42b1 : (t130 != 0) = true := bne_iff_ne.mpr c42
                            simp only [Option.some.injEq, Prod.mk.injEq] at H
                            obtain ⟨rfl, rfl, rfl⟩ := H
                            go_wp2_with (first | ((with_reducible refine gate_callee (f := 26) rfl ?_); refine goesL_ (some 75) rfl rfl Tryd.func26 (by kernel_rfl) rfl #[.string a0, .int .i64 x1_36, .string t125] rfl (by (try simp only [List.map_toArray, List.map_cons, List.map_nil]); first | done | rfl | (simp only [List.length_drop, List.length_take]; rfl)) ?_; (with_reducible refine (paste_insert.calls a0 x1_36 t125 t129 t130 _ A41.out).mono ?_); rintro e w' ⟨rfl, ⟨nd, rfl⟩⟩; refine ⟨_, rfl, ?_⟩))
                            go_ret3
                            exact ⟨by first | rfl | (simp [errW_none, errW_some] <;> rfl) | (simp only [← hji29]; first | rfl | (simp [errW_none, errW_some] <;> rfl)) | (simp [*, errW_none, errW_some] <;> rfl), by repeat (first | (with_reducible first | exact HB.out | apply below_alloc | apply pw_below_drewN | apply below_drew1 | refine below_set ?_ GE118.out) | exact HB.out)⟩
                · replace c31 := Bool.eq_false_iff.mpr c31
                  subst c31
                  have H1 : (some ((⟨#[]⟩ : ByteArray), 0, 8)) = some (r1, r2, r3) := by rw [if_neg (show ¬ (false = true) by decide)] at H; exact H
                  clear H
                  have H := H1
                  clear H1
                  simp only [Option.some.injEq, Prod.mk.injEq] at H
                  obtain ⟨rfl, rfl, rfl⟩ := H
                  have hcz51_0 : wc.cell? ⟨gb118, 0, none⟩ = some (.int .i64 a2_0) := (blk_cell BK118.out 0).trans rfl
                  have hcz51_1 : wc.cell? ⟨gb118, 1, none⟩ = some (.bool false) := (blk_cell BK118.out 1).trans rfl
                  have hcz51_2 : wc.cell? ⟨gb118, 2, none⟩ = some (.string a2_2) := (blk_cell BK118.out 2).trans rfl
                  have hfz51_0 := blk_frozen BK118.out 0
                  have hfz51_1 := blk_frozen BK118.out 1
                  have hfz51_2 := blk_frozen BK118.out 2
                  go_wp2_with (first | ((with_reducible refine gate_callee (f := 23) rfl ?_); refine goesL_ (some 55) rfl rfl Tryd.func23 (by kernel_rfl) rfl #[.string a2_2, .string (⟨#[]⟩ : ByteArray), .int .i64 ji29] rfl (by (try simp only [List.map_toArray, List.map_cons, List.map_nil]); first | done | (simp only [hji29]; rfl) | rfl | (simp only [List.length_drop, List.length_take]; rfl)) ?_; (with_reducible refine (paste_times.calls kj15 a2_2 (⟨#[]⟩ : ByteArray) ji29 t125 false _ A30.out).mono ?_); rintro e w52 ⟨rfl, hb⟩; refine ⟨_, rfl, ?_⟩; have n0_ := Aside0.mk (blk_below (g := gb118) (o := .cells #[.int .i64 a2_0, .bool false, .string a2_2] 23 (0, 0)) (by (with_reducible repeat (first | refine blk_drewN ?_ _ | refine blk_drew ?_ | refine blk_alloc ?_ _)); exact BK118.out) hb); have n1_ := Aside0.mk (below_step (by repeat (first | (with_reducible first | exact HB.out | apply below_alloc | apply pw_below_drewN | apply below_drew1 | refine below_set ?_ GE118.out) | exact HB.out)) hb); clear BK118; clear HB; have BK118 := n0_; have HB := n1_; clear n0_ n1_; (try clear hb); (try clear hb2); (try clear hk); (try clear hi)))
                  go_ret3
                  exact ⟨by first | rfl | (simp [errW_none, errW_some] <;> rfl) | (simp only [← hji29]; first | rfl | (simp [errW_none, errW_some] <;> rfl)) | (simp [*, errW_none, errW_some] <;> rfl), by repeat (first | (with_reducible first | exact HB.out | apply below_alloc | apply pw_below_drewN | apply below_drew1 | refine below_set ?_ GE118.out) | exact HB.out)⟩

/-! ### calamuslaw24_lives -/
def calamuslaw24_lives.f (k : Nat)  : Option (Bool) := (paste_Put.f k (⟨#[97, 98]⟩ : ByteArray) 0 0 false (⟨#[120, 121]⟩ : ByteArray) false 1).bind fun bt134 => (if bt134.1.toList = ([97, 120, 121, 98] : List UInt8) then (if bt134.2.1 = 2 then (some (bt134.2.2 == 0)) else (some false)) else (some false))
theorem calamuslaw24_lives.mono : ∀ k, LeO (calamuslaw24_lives.f k ) (calamuslaw24_lives.f (k + 1) ) := by
  intro  k
  unfold calamuslaw24_lives.f
  repeat' first
      | (with_reducible exact paste_Put.mono _ _ _ _ _ _ _ _)
      | (with_reducible exact LeO.refl _)
      | (with_reducible exact LeO.none _)
      | (with_reducible refine LeO.ite ?_ ?_)
      | (with_reducible refine LeO.bind ?_ (fun _ => ?_))
      | exact paste_Put.mono _ _ _ _ _ _ _ _
      | exact LeO.none _
      | refine LeO.ite ?_ ?_
      | refine LeO.bind ?_ (fun _ => ?_)
set_option maxHeartbeats 8000000 in
set_option maxRecDepth 100000 in
theorem calamuslaw24_lives.calls (k : Nat)  (r : Bool) (w : World) (h : calamuslaw24_lives.f k  = some r) :
    Calls Tryd.prog 7 #[] w fun e w' => e = .returned (.bool r) ∧ Below w.heap.size w w' := by
  have hu23 := Tryd.underlying23
  have HB := Aside0.mk (Below.refl w.heap.size w)
  have H : ((paste_Put.f k (⟨#[97, 98]⟩ : ByteArray) 0 0 false (⟨#[120, 121]⟩ : ByteArray) false 1).bind fun bt134 => (if bt134.1.toList = ([97, 120, 121, 98] : List UInt8) then (if bt134.2.1 = 2 then (some (bt134.2.2 == 0)) else (some false)) else (some false))) = some r := h
  clear h
  replace H := Option.bind_eq_some_iff.mp H
  obtain ⟨⟨t134, t135, t136⟩, A10, H⟩ := H
  replace H : (if t134.toList = ([97, 120, 121, 98] : List UInt8) then (if t135 = 2 then (some (t136 == 0)) else (some false)) else (some false)) = some r := H
  have A1 := Aside0.mk A10
  clear A10
  by_cases c2 : t134.toList = ([97, 120, 121, 98] : List UInt8)
  · rw [if_pos c2] at H
    have c2b0 : (t134.toList == ([97, 120, 121, 98] : List UInt8)) = true := beq_iff_eq.mpr c2
    have c2b1 : (t134.toList != ([97, 120, 121, 98] : List UInt8)) = false := bne_eq_false_iff_eq.mpr c2
    clear c2
    by_cases c3 : t135 = 2
    · rw [if_pos c3] at H
      have c3b0 : (t135 == 2) = true := beq_iff_eq.mpr c3
      have c3b1 : (t135 != 2) = false := bne_eq_false_iff_eq.mpr c3
      clear c3
      obtain rfl := Option.some.inj H
      go_enter Tryd.func7, Tryd.ntmps7
      go_wp2_with (first | ((with_reducible refine gate_callee (f := 8) rfl ?_); refine goesL_ (some 6) rfl rfl Tryd.func8 (by kernel_rfl) rfl #[.string (⟨#[97, 98]⟩ : ByteArray), .int .i64 0, .agg #[.int .i64 0, .bool false, .string (⟨#[120, 121]⟩ : ByteArray)], .bool false, .int .i64 1] rfl (by (try simp only [List.map_toArray, List.map_cons, List.map_nil]); first | done | rfl | (simp only [List.length_drop, List.length_take]; rfl)) ?_; (with_reducible refine (paste_Put.calls k (⟨#[97, 98]⟩ : ByteArray) 0 0 false (⟨#[120, 121]⟩ : ByteArray) false 1 t134 t135 t136 _ A1.out).mono ?_); rintro e w4 ⟨rfl, hb⟩; refine ⟨_, rfl, ?_⟩; have n0_ := Aside0.mk (below_step (by repeat (first | (with_reducible first | exact HB.out | apply below_alloc | apply pw_below_drewN | apply below_drew1) | exact HB.out)) hb); clear HB; have HB := n0_; clear n0_; (try clear hb); (try clear hb2); (try clear hk); (try clear hi)))
      go_ret
      exact ⟨by first | rfl | (simp [errW_none, errW_some] <;> rfl) | (simp [*, errW_none, errW_some] <;> rfl), by repeat (first | (with_reducible first | exact HB.out | apply below_alloc | apply pw_below_drewN | apply below_drew1) | exact HB.out)⟩
    · rw [if_neg c3] at H
      have c3b0 : (t135 == 2) = false := beq_eq_false_iff_ne.mpr c3
      have c3b1 : (t135 != 2) = true := bne_iff_ne.mpr c3
      obtain rfl := Option.some.inj H
      go_enter Tryd.func7, Tryd.ntmps7
      go_wp2_with (first | ((with_reducible refine gate_callee (f := 8) rfl ?_); refine goesL_ (some 6) rfl rfl Tryd.func8 (by kernel_rfl) rfl #[.string (⟨#[97, 98]⟩ : ByteArray), .int .i64 0, .agg #[.int .i64 0, .bool false, .string (⟨#[120, 121]⟩ : ByteArray)], .bool false, .int .i64 1] rfl (by (try simp only [List.map_toArray, List.map_cons, List.map_nil]); first | done | rfl | (simp only [List.length_drop, List.length_take]; rfl)) ?_; (with_reducible refine (paste_Put.calls k (⟨#[97, 98]⟩ : ByteArray) 0 0 false (⟨#[120, 121]⟩ : ByteArray) false 1 t134 t135 t136 _ A1.out).mono ?_); rintro e w5 ⟨rfl, hb⟩; refine ⟨_, rfl, ?_⟩; have n0_ := Aside0.mk (below_step (by repeat (first | (with_reducible first | exact HB.out | apply below_alloc | apply pw_below_drewN | apply below_drew1) | exact HB.out)) hb); clear HB; have HB := n0_; clear n0_; (try clear hb); (try clear hb2); (try clear hk); (try clear hi)))
      go_ret
      exact ⟨by first | rfl | (simp [errW_none, errW_some] <;> rfl) | (simp [*, errW_none, errW_some] <;> rfl), by repeat (first | (with_reducible first | exact HB.out | apply below_alloc | apply pw_below_drewN | apply below_drew1) | exact HB.out)⟩
  · rw [if_neg c2] at H
    have c2b0 : (t134.toList == ([97, 120, 121, 98] : List UInt8)) = false := beq_eq_false_iff_ne.mpr c2
    have c2b1 : (t134.toList != ([97, 120, 121, 98] : List UInt8)) = true := bne_iff_ne.mpr c2
    obtain rfl := Option.some.inj H
    go_enter Tryd.func7, Tryd.ntmps7
    go_wp2_with (first | ((with_reducible refine gate_callee (f := 8) rfl ?_); refine goesL_ (some 6) rfl rfl Tryd.func8 (by kernel_rfl) rfl #[.string (⟨#[97, 98]⟩ : ByteArray), .int .i64 0, .agg #[.int .i64 0, .bool false, .string (⟨#[120, 121]⟩ : ByteArray)], .bool false, .int .i64 1] rfl (by (try simp only [List.map_toArray, List.map_cons, List.map_nil]); first | done | rfl | (simp only [List.length_drop, List.length_take]; rfl)) ?_; (with_reducible refine (paste_Put.calls k (⟨#[97, 98]⟩ : ByteArray) 0 0 false (⟨#[120, 121]⟩ : ByteArray) false 1 t134 t135 t136 _ A1.out).mono ?_); rintro e w6 ⟨rfl, hb⟩; refine ⟨_, rfl, ?_⟩; have n0_ := Aside0.mk (below_step (by repeat (first | (with_reducible first | exact HB.out | apply below_alloc | apply pw_below_drewN | apply below_drew1) | exact HB.out)) hb); clear HB; have HB := n0_; clear n0_; (try clear hb); (try clear hb2); (try clear hk); (try clear hi)))
    go_ret
    exact ⟨by first | rfl | (simp [errW_none, errW_some] <;> rfl) | (simp [*, errW_none, errW_some] <;> rfl), by repeat (first | (with_reducible first | exact HB.out | apply below_alloc | apply pw_below_drewN | apply below_drew1) | exact HB.out)⟩





end Go.Proofs.YtckfdehendifoaaDoor.QP
/- Layer 24 lives (MOD QP). -/
namespace Go.Proofs.YtckfdehendifoaaDoor
open Go.RowKit
set_option linter.unusedVariables false
set_option linter.unusedSimpArgs false
open Go.RowKit Go.Proofs.YtckfdehendifoaaDoor.QP Go.Proofs.YtckfdehendifoaaDoorW.PrintWords Go.Proofs.YtckfdehendifoaaDoorW.PrintMore
theorem put24 : Ev (fun K => paste_Put.f K ⟨#[97, 98]⟩ 0 0 false ⟨#[120, 121]⟩ false 1) (⟨#[97, 120, 121, 98]⟩, 2, 0) := by
  have hp : placeB (ls ⟨#[97, 98]⟩) ((0 : Nat) : Int) = true := by decide +kernel
  have he : endI (ls ⟨#[97, 98]⟩) (ofI (ls ⟨#[97, 98]⟩) ((0 : Nat) : Int)) = (2 : Nat) := by decide +kernel
  unfold paste_Put.f
  refine Ev.call (utf_Place.eq _ _ (by decide)) (Ev.pos hp (Ev.call (utf_Valid.eq _ (by decide)) ?_))
  rw [show validL (ls ⟨#[120, 121]⟩) = true by decide +kernel]
  refine Ev.step (fun _ => (by rw [paste_Put.j0])) ?_
  refine Ev.neg (by simp) (Ev.neg (by rw [toList_ls]; decide) ?_)
  refine Ev.step (fun _ => (by rw [paste_Put.j1])) ?_
  rw [mx_eq, show max (1 : Int) 1 = ((1 : Nat) : Int) by decide]
  refine Ev.neg (by simp) (Ev.neg (by simp) (Ev.bind (times_ev ⟨#[120, 121]⟩ ⟨#[]⟩ 1 (by decide) (by decide) (by decide)) (Ev.pos rfl (Ev.neg (by simp) (Ev.call (stop_val ⟨#[97, 98]⟩ hp he (by decide)) ?_)))))
  rw [show (!decide ((0 : Nat) = 2)) = true by decide, show repT ⟨#[120, 121]⟩ ⟨#[]⟩ 1 = ⟨#[120, 121]⟩ from ba_ext (by rw [ls_repT]; rfl)]
  refine Ev.step (fun _ => (by rw [paste_Put.j2])) ?_
  refine Ev.pos rfl (Ev.call (utf_Next.eq _ _ (by decide)) ?_)
  rw [show nextI (ls ⟨#[97, 98]⟩) 0 = ((1 : Nat) : Int) by decide +kernel]
  refine Ev.step (fun _ => (by rw [paste_Put.j3])) ?_
  refine Ev.call (insert_ok ⟨#[97, 98]⟩ ⟨#[120, 121]⟩ 1 (by decide) (by decide)) (Ev.pos rfl ?_)
  rw [show ((⟨#[97, 98]⟩ : ByteArray).extract 0 1 ++ ⟨#[120, 121]⟩) ++ (⟨#[97, 98]⟩ : ByteArray).extract 1 (⟨#[97, 98]⟩ : ByteArray).size = ⟨#[97, 120, 121, 98]⟩ from ba_ext (by rw [ls_cat, ls_cat, ls_ext2, ls_ext]; rfl)]
  refine Ev.call (strings_Contains.eq _) ?_
  rw [show decide (0 ≤ Lib.indexByte (ls ⟨#[120, 121]⟩) 10) = false by decide +kernel]
  refine Ev.neg (by simp) (Ev.call (utf_Prev.eq _ _ (by decide)) (Ev.ret ?_))
  rw [show wrap64 (((1 : Nat) : Int) + ((⟨#[120, 121]⟩ : ByteArray).size : Int)) = 3 from w64 (by decide) (by decide), show prevI (ls ⟨#[97, 120, 121, 98]⟩) 3 = 2 by decide +kernel]
theorem lives24 : Ev (fun K => calamuslaw24_lives.f K) true := by
  unfold calamuslaw24_lives.f
  exact Ev.bind put24 (Ev.pos (by rw [toList_ls]) (Ev.pos rfl (Ev.ret rfl)))
theorem lives24' : Ev (fun K => (calamuslaw24_lives.f K).bind fun t => some t) true := Ev.bind lives24 (Ev.ret rfl)
end Go.Proofs.YtckfdehendifoaaDoor
/- line.First in plain words (MOD QP). -/
namespace Go.Proofs.YtckfdehendifoaaDoor
open Go.RowKit
set_option linter.unusedVariables false
set_option linter.unusedSimpArgs false
open Go.RowKit Go.Proofs.YtckfdehendifoaaDoor.QP Go.Proofs.YtckfdehendifoaaDoorW.PrintWords Go.Proofs.YtckfdehendifoaaDoorW.PrintMore
theorem first_val (t : ByteArray) (k : Int) (ht : t.size ≤ 1000000) : line_First.f t k = some (firstI (ls t) k) := by
  unfold line_First.f firstI
  rw [line_find.eq t k (by omega)]
  simp only [Option.bind_some]
  cases hl : lineI (ls t) k with
  | none => simp
  | some x =>
    obtain ⟨a1, a2, a3, _, _⟩ := lineI_le hl
    rw [ls_len] at a2
    have hs : startI (ls t) k = x.1 := by unfold startI; rw [hl]
    have he : endI (ls t) k = x.2 := by unfold endI; rw [hl]
    rw [hs, he]
    have hrow : ls (t.extract x.1 x.2) = rowL (ls t) x := ls_ext2 t x.1 x.2
    have hrl : (rowL (ls t) x).length = x.2 - x.1 := rowL_len a1 (by rw [ls_len]; exact a2)
    have hbl := blk_le (rowL (ls t) x)
    have hts : (trS (t.extract x.1 x.2) ⟨#[32, 9]⟩).size = (x.2 - x.1) - blk (rowL (ls t) x) := by
      rw [trS_size _ _ rfl, hrow, ← ls_len, hrow, hrl]
    rw [if_pos (show (some x).isSome = true from rfl), if_pos (show (0 : Int) ≤ x.1 by omega), if_pos (show (x.1 : Int) ≤ x.2 by omega), if_pos (show (x.2 : Int) ≤ t.size by omega), Int.toNat_natCast, Int.toNat_natCast, strings_TrimLeft.eq _ _ ⟨by decide, by decide⟩]
    simp only [Option.bind_some]
    rw [line_Clamp.eq t _ (by omega)]
    simp only [Option.bind_some]
    rw [hrl]
    by_cases hc : blk (rowL (ls t) x) = x.2 - x.1
    · rw [if_pos ((empty_iff _).2 (by rw [hts]; omega)), if_pos hc]
    · rw [if_neg (fun h => hc (by have := (empty_iff _).1 h; rw [hts] at this; omega)), if_neg hc, w64 (by rw [hts]; omega) (by rw [hts]; omega), hts]
      congr 1; omega
end Go.Proofs.YtckfdehendifoaaDoor
/- The contract of line.Normal. -/
namespace Go.Proofs.YtckfdehendifoaaDoor
open Go.RowKit
set_option linter.unusedVariables false
set_option linter.unusedSimpArgs false
set_option maxHeartbeats 4000000 in
set_option maxRecDepth 100000 in
theorem lnormal_c (s : ByteArray) (p : Int) (w : World) (hs : s.size ≤ 1099511627775) : Calls Tryd.prog 11 #[.string s, .int .i64 p] w fun e w' => e = .returned (.bool (normalB (ls s) p)) ∧ Ext w w' := by
  rcases place_cases s p with hp | ⟨q, rfl, hq, hp, hv⟩
  · have H : Hid (normalB (ls s) p = false) := Lib.hid (by unfold normalB; rw [hp]; rfl)
    go_enter Tryd.func11, Tryd.ntmps11
    go_wp2_with (first | (go_at_call 19; refine (place_c _ _ _ (by omega)).mono ?_; rintro e w1 ⟨rfl, hx1⟩))
    go_ret
    exact ⟨retb H.out.symm, (by (repeat (first | exact Ext.refl _ | exact ‹Ext _ _› | refine Ext.alloc ?_ _ | refine Ext.drew ?_ | refine Ext.drewN ?_ _ | (refine Ext.setCell ?_ (by first | omega | (simp; done) | (simp; omega)) _) | refine Ext.trans ?_ ‹Ext _ _›)))⟩
  · have H : Hid (normalB (ls s) q = (!endsB (ls s) q || decide (lst (ls s) q = q))) := Lib.hid (by unfold normalB; rw [hp, Int.toNat_natCast, Bool.true_and])
    obtain ⟨b, hb⟩ : ∃ b, endsB (ls s) q = b := ⟨_, rfl⟩
    have Hb := Lib.hid hb
    obtain ⟨m, hm⟩ : ∃ m, lst (ls s) q = m := ⟨_, rfl⟩
    have Hm := Lib.hid hm
    have hbeg : ∀ w, Calls Tryd.prog 45 #[.string s, .int .i64 q] w fun e w' => e = .returned (.int .i64 (m : Nat)) ∧ Ext w w' := fun w => by rw [← hm]; exact begin_c s q hq w hs
    clear hm
    cases b with
    | true =>
      go_enter Tryd.func11, Tryd.ntmps11
      go_wp2_with (first | (go_at_call 19; refine (place_c _ _ _ (by omega)).mono ?_; rintro e w1 ⟨rfl, hx1⟩) | (go_at_call 44; refine (ends_c s q hq _ hs).mono ?_; rintro e w1 ⟨rfl, hx1⟩) | (go_at_call 45; refine (hbeg _).mono ?_; rintro e w1 ⟨rfl, hx1⟩))
      all_goals (go_ret; refine ⟨retb ?_, (by (repeat (first | exact Ext.refl _ | exact ‹Ext _ _› | refine Ext.alloc ?_ _ | refine Ext.drew ?_ | refine Ext.drewN ?_ _ | (refine Ext.setCell ?_ (by first | omega | (simp; done) | (simp; omega)) _) | refine Ext.trans ?_ ‹Ext _ _›)))⟩; rw [H.out, Hb.out, Hm.out]; first | rfl | (rw [Bool.eq_iff_iff]; simp <;> omega) | (simp <;> omega))
    | false =>
      go_enter Tryd.func11, Tryd.ntmps11
      go_wp2_with (first | (go_at_call 19; refine (place_c _ _ _ (by omega)).mono ?_; rintro e w1 ⟨rfl, hx1⟩) | (go_at_call 44; refine (ends_c s q hq _ hs).mono ?_; rintro e w1 ⟨rfl, hx1⟩))
      go_ret
      exact ⟨retb (by rw [H.out, Hb.out]; rfl), (by (repeat (first | exact Ext.refl _ | exact ‹Ext _ _› | refine Ext.alloc ?_ _ | refine Ext.drew ?_ | refine Ext.drewN ?_ _ | (refine Ext.setCell ?_ (by first | omega | (simp; done) | (simp; omega)) _) | refine Ext.trans ?_ ‹Ext _ _›)))⟩
def line_Normal.f (a0 : ByteArray) (a1 : Int) : Option (Bool) := if a0.size ≤ 1099511627775 then some (normalB (ls a0) a1) else none
theorem line_Normal.eq (a0 : ByteArray) (a1 : Int) (hg : a0.size ≤ 1099511627775) : line_Normal.f a0 a1 = some (normalB (ls a0) a1) := if_pos hg
theorem line_Normal.calls (a0 : ByteArray) (a1 : Int) (r : Bool) (w : World) (h : line_Normal.f a0 a1 = some r) : Calls Tryd.prog 11 #[.string a0, .int .i64 a1] w fun e w' => e = .returned (.bool r) ∧ Below w.heap.size w w' := by
  unfold line_Normal.f at h
  split at h
  · cases h; exact lnormal_c a0 a1 w (by omega)
  · cases h
end Go.Proofs.YtckfdehendifoaaDoor
/- The document's normal places and first signs (calamusref04) and the statements LineNormal, LineLeads in plain words (MOD QP). -/
namespace Go.Proofs.YtckfdehendifoaaDoor
open Go.RowKit
set_option linter.unusedVariables false
set_option linter.unusedSimpArgs false
open Go.RowKit Go.Proofs.YtckfdehendifoaaDoor.QP Go.Proofs.YtckfdehendifoaaDoorW.PrintWords Go.Proofs.YtckfdehendifoaaDoorW.PrintMore
theorem rnormal_val (t : ByteArray) (p : Int) (ht : t.size ≤ 1000000) : calamusref04_Normal.f t p = some (normalB (ls t) p) := by
  unfold calamusref04_Normal.f normalB
  rw [calamusref03_Place.eq t p (by omega)]
  simp only [Option.bind_some]
  split
  · rename_i hp
    obtain ⟨a, rfl, ha⟩ : ∃ a : Nat, p = a ∧ a ≤ (ls t).length := by
      unfold placeB at hp; simp at hp; exact ⟨p.toNat, by omega, by simp; omega⟩
    obtain ⟨_, hl, hv⟩ := valid_at hp
    obtain ⟨h1, h2, e, h3, h4, h5⟩ := start_of hl hv
    have he := line_end hp h3
    rw [calamusref04_Of.eq t a (by omega)]
    simp only [Option.bind_some]
    rw [calamusref04_End.eq t _ (by omega), h3]
    simp only [Option.bind_some]
    rw [hp, Bool.true_and, Int.toNat_natCast]
    split
    · rename_i hlt
      have : endsB (ls t) a = false := by
        unfold endsB
        have := (end_gt hp h3).1.1 (by omega)
        rw [decide_eq_false (by omega), decide_eq_false this.2]; rfl
      rw [this]; rfl
    · rename_i hlt
      have hae : a = e := by omega
      subst hae
      have : endsB (ls t) a = true := by unfold endsB; simpa using he
      rw [this, calamusref04_Start.eq t _ (by omega), h2]
      simp only [Option.bind_some]
      congr 1
      rw [Bool.eq_iff_iff]; simp; omega
  · rename_i hp
    rw [show placeB (ls t) p = false by simpa using hp]; rfl
theorem rclamp_l0' (t : ByteArray) (ht : t.size ≤ 1000000) (hv : validL (ls t) = true) : ∀ k : Nat, k ≤ t.size → Ev (fun n => calamusref04_Clamp.l0 n t k) (if endsB (ls t) (downTo (ls t) k) = true ∧ lst (ls t) (downTo (ls t) k) < downTo (ls t) k then prevI (ls t) (downTo (ls t) k : Nat) else (downTo (ls t) k : Nat)) := by
  have hit : ∀ k : Nat, k ≤ t.size → placeB (ls t) k = true → Ev (fun n => calamusref04_Clamp.l0 n t k) (if endsB (ls t) k = true ∧ lst (ls t) k < k then prevI (ls t) (k : Nat) else (k : Nat)) := by
    intro k hk hp
    refine Ev.step (fun _ => (by rw [calamusref04_Clamp.l0])) ?_
    rw [calamusref03_Place.eq t k (by omega), rnormal_val t k ht, calamusref03_Prev.eq t k (by omega)]
    simp only [Option.bind_some]
    have hle := lst_le (ls t) k
    refine Ev.pos hp (Ev.ite (fun h => ?_) (fun h => ?_))
    · rw [if_neg (show ¬ (endsB (ls t) k = true ∧ lst (ls t) k < k) from fun hc => by
        unfold normalB at h; rw [hp, Int.toNat_natCast, hc.1] at h; simp at h; omega)]
      exact Ev.ret rfl
    · rw [if_pos (show endsB (ls t) k = true ∧ lst (ls t) k < k by
        unfold normalB at h; rw [hp, Int.toNat_natCast] at h; simp at h; exact ⟨h.1, by omega⟩)]
      exact Ev.ret rfl
  intro k
  induction k with
  | zero => intro hk; exact hit 0 hk (place_zero hv)
  | succ k ih =>
    intro hk
    rcases Bool.eq_false_or_eq_true (placeB (ls t) ((k + 1 : Nat) : Int)) with hp | hp
    · rw [downTo_hit hp]; exact hit (k + 1) hk hp
    · rw [downTo_miss hp]
      refine Ev.step (fun _ => (by rw [calamusref04_Clamp.l0])) ?_
      rw [calamusref03_Place.eq t _ (by omega)]
      simp only [Option.bind_some]
      rw [w64 (n := ((k + 1 : Nat) : Int) - 1) (by omega) (by omega), show ((k + 1 : Nat) : Int) - 1 = k by omega]
      exact Ev.neg (by rw [hp]; decide) (ih (by omega))
theorem rclamp_ev' (t : ByteArray) (p : Int) (ht : t.size ≤ 1000000) : Ev (fun k => calamusref04_Clamp.f k t p) (clampI (ls t) p) := by
  unfold calamusref04_Clamp.f clampI
  rw [calamusref03_Valid.eq t (by omega)]
  simp only [Option.bind_some]
  refine Ev.ite (fun hv => ?_) (fun hv => ?_)
  · rw [if_pos hv]
    have key : ∀ x : Int, x = cutI (ls t) p → Ev (fun k => calamusref04_Clamp.j1 k t x) (let q := downTo (ls t) (cutI (ls t) p); if endsB (ls t) q = true ∧ lst (ls t) q < q then prevI (ls t) q else q) := by
      rintro x rfl
      refine Ev.step (fun _ => (by rw [calamusref04_Clamp.j1])) ?_
      exact rclamp_l0' t ht hv _ (by unfold cutI; rw [ls_len]; omega)
    refine Ev.ite (fun h => ?_) (fun h => ?_)
    · refine Ev.step (fun _ => (by rw [calamusref04_Clamp.j0])) ?_
      exact Ev.neg (by omega) (key _ (by unfold cutI; rw [ls_len]; omega))
    · refine Ev.step (fun _ => (by rw [calamusref04_Clamp.j0])) ?_
      refine Ev.ite (fun h2 => ?_) (fun h2 => ?_)
      · exact key _ (by unfold cutI; rw [ls_len]; omega)
      · exact key _ (by unfold cutI; rw [ls_len]; omega)
  · rw [if_neg hv]; exact Ev.ret rfl
theorem rfirst_l0 (t : ByteArray) (ht : t.size ≤ 1000000) (k : Int) (b : Nat) (hb : b ≤ t.size) (he : endI (ls t) k = b) : ∀ (d p : Nat), b - p ≤ d → p ≤ b → Ev (fun n => calamusref04_First.l0 n t k p) (if p + blk (rowL (ls t) (p, b)) = b then clampI (ls t) b else ((p + blk (rowL (ls t) (p, b)) : Nat) : Int)) := by
  have hbl : b ≤ (ls t).length := by rw [ls_len]; exact hb
  have stop : ∀ p : Nat, p ≤ b → (p = b ∨ p < b ∧ ¬ (byL (ls t) p = 32 ∨ byL (ls t) p = 9)) → Ev (fun n => calamusref04_First.j1 n t k p) (if p + blk (rowL (ls t) (p, b)) = b then clampI (ls t) b else ((p + blk (rowL (ls t) (p, b)) : Nat) : Int)) := by
    intro p hp h
    refine Ev.step (fun _ => (by rw [calamusref04_First.j1])) ?_
    rw [calamusref04_End.eq t k (by omega), he]
    simp only [Option.bind_some]
    rcases h with rfl | ⟨h1, h2⟩
    · rw [blk_nil, if_pos (show p + 0 = p from rfl)]
      exact Ev.pos rfl (Ev.bind (rclamp_ev' t p ht) (Ev.ret rfl))
    · rw [blk_no h1 hbl h2, if_neg (show ¬ p + 0 = b by omega)]
      exact Ev.neg (by omega) (Ev.ret rfl)
  intro d
  induction d with
  | zero =>
    intro p h1 h2
    obtain rfl : p = b := by omega
    refine Ev.step (fun _ => (by rw [calamusref04_First.l0])) ?_
    rw [calamusref04_End.eq t k (by omega), he]
    simp only [Option.bind_some]
    exact Ev.neg (by omega) (stop p (Nat.le_refl _) (.inl rfl))
  | succ d ih =>
    intro p h1 h2
    by_cases hpb : p = b
    · exact ih p (by omega) h2
    · have hn := ih (p + 1) (by omega) (by omega)
      refine Ev.step (fun _ => (by rw [calamusref04_First.l0])) ?_
      rw [calamusref04_End.eq t k (by omega), he, bt_nat t p (by omega)]
      simp only [Option.bind_some]
      rw [w64 (n := (p : Int) + 1) (by omega) (by omega), show (p : Int) + 1 = ((p + 1 : Nat) : Int) by omega]
      have on : (byL (ls t) p = 32 ∨ byL (ls t) p = 9) → Ev (fun n => calamusref04_First.l0 n t k ((p + 1 : Nat) : Int)) (if p + blk (rowL (ls t) (p, b)) = b then clampI (ls t) b else ((p + blk (rowL (ls t) (p, b)) : Nat) : Int)) := by
        intro h
        rw [blk_yes (by omega) hbl h, show p + (blk (rowL (ls t) (p + 1, b)) + 1) = p + 1 + blk (rowL (ls t) (p + 1, b)) by omega]
        exact hn
      refine Ev.pos (by omega) (Ev.pos (by omega) (Ev.pos (by omega) (Ev.ite (fun h => on (.inl h)) (fun h => Ev.ite (fun h3 => on (.inr h3)) (fun h3 => stop p h2 (.inr ⟨by omega, by omega⟩))))))
theorem rfirst_ev (t : ByteArray) (k : Int) (ht : t.size ≤ 1000000) : Ev (fun n => calamusref04_First.f n t k) (firstI (ls t) k) := by
  unfold calamusref04_First.f firstI
  rw [calamusref04_Start.eq t k (by omega)]
  simp only [Option.bind_some]
  cases hl : lineI (ls t) k with
  | none =>
    have hs : startI (ls t) k = -1 := by unfold startI; rw [hl]
    rw [hs]; exact Ev.pos (by omega) (Ev.ret rfl)
  | some x =>
    obtain ⟨a1, a2, a3, _, _⟩ := lineI_le hl
    rw [ls_len] at a2
    have hs : startI (ls t) k = x.1 := by unfold startI; rw [hl]
    have he : endI (ls t) k = x.2 := by unfold endI; rw [hl]
    have hrl : (rowL (ls t) x).length = x.2 - x.1 := rowL_len a1 (by rw [ls_len]; exact a2)
    have key := rfirst_l0 t ht k x.2 a2 he _ x.1 (Nat.le_refl _) a1
    rw [hs]
    show Ev _ (if blk (rowL (ls t) x) = (rowL (ls t) x).length then clampI (ls t) x.2 else ((x.1 + blk (rowL (ls t) x) : Nat) : Int))
    rw [hrl]
    have e : (if x.1 + blk (rowL (ls t) (x.1, x.2)) = x.2 then clampI (ls t) x.2 else ((x.1 + blk (rowL (ls t) (x.1, x.2)) : Nat) : Int)) = (if blk (rowL (ls t) x) = x.2 - x.1 then clampI (ls t) x.2 else ((x.1 + blk (rowL (ls t) x) : Nat) : Int)) := by
      by_cases hc : blk (rowL (ls t) x) = x.2 - x.1
      · rw [if_pos hc, if_pos (show x.1 + blk (rowL (ls t) (x.1, x.2)) = x.2 by have : blk (rowL (ls t) (x.1, x.2)) = x.2 - x.1 := hc; omega)]
      · rw [if_neg hc, if_neg (show ¬ x.1 + blk (rowL (ls t) (x.1, x.2)) = x.2 by intro h; exact hc (by have : blk (rowL (ls t) (x.1, x.2)) = blk (rowL (ls t) x) := rfl; omega))]
    rw [e] at key
    exact Ev.neg (by omega) key
end Go.Proofs.YtckfdehendifoaaDoor
-- Printed by this work's xp.py out of the translation. Lean checks it.
namespace Go.Proofs.YtckfdehendifoaaDoor.QP
open Go.RowKit Go.Proofs.YtckfdehendifoaaDoorW.PrintWords Go.Proofs.YtckfdehendifoaaDoorW.PrintLast Go.Proofs.YtckfdehendifoaaDoorW.PrintMore
attribute [local go_sem] max2_int min2_int max_two min_two max_three min_three max_four min_four   -- for this text's walks alone
set_option linter.unusedVariables false
set_option linter.unusedSimpArgs false


/-! ### calamusref24_Put -/
mutual
def calamusref24_Put.j0 : Nat → ByteArray → Int → Bool → Int → Bool → Int → Bool → ByteArray → Option (ByteArray × Int × Int)
  | 0, _, _, _, _, _, _, _, _ => none
  | k + 1, x0, x1, x3, x4, x26, x154000, x154001, x154002 => if x26 = true then (some ((⟨#[]⟩ : ByteArray), 0, 1)) else (if x154002.toList = ([] : List UInt8) then (calamusref24_Put.j1 k x0 x1 x3 x4 (!x154001) x154000 x154001 x154002) else (calamusref24_Put.j1 k x0 x1 x3 x4 false x154000 x154001 x154002))
def calamusref24_Put.j1 : Nat → ByteArray → Int → Bool → Int → Bool → Int → Bool → ByteArray → Option (ByteArray × Int × Int)
  | 0, _, _, _, _, _, _, _, _ => none
  | k + 1, x0, x1, x3, x4, x34, x154000, x154001, x154002 => if x34 = true then (some ((⟨#[]⟩ : ByteArray), 0, 7)) else ((calamusref04_Of.f x0 x1).bind fun t156 => (if x154001 = true then (calamusref24_Put.j2 k x0 x1 x3 x4 t156 x1 x3 x154000 x154001 x154002) else (calamusref24_Put.j2 k x0 x1 x3 x4 t156 x1 false x154000 x154001 x154002)))
def calamusref24_Put.j2 : Nat → ByteArray → Int → Bool → Int → Int → Int → Bool → Int → Bool → ByteArray → Option (ByteArray × Int × Int)
  | 0, _, _, _, _, _, _, _, _, _, _ => none
  | k + 1, x0, x1, x3, x4, x13, x14, x43, x154000, x154001, x154002 => if x43 = true then ((calamusref04_Start.f x0 x13).bind fun t157 => ((calamusref24_rep.f k x154002 (⟨#[10]⟩ : ByteArray) x4).bind fun t158 => (if t158.size + 1 ≤ 9223372036854775807 then (calamusref24_Put.j3 k x0 x3 x13 t157 (t158 ++ (⟨#[10]⟩ : ByteArray)) x154000 x154001 x154002) else (none)))) else (if x154001 = true then ((calamusref04_End.f x0 x13).bind fun t159 => ((calamusref24_rep.f k x154002 (⟨#[10]⟩ : ByteArray) x4).bind fun t160 => (if 1 + t160.size ≤ 9223372036854775807 then (calamusref24_Put.j3 k x0 x3 x13 t159 ((⟨#[10]⟩ : ByteArray) ++ t160) x154000 x154001 x154002) else (none)))) else ((calamusref24_rep.f k x154002 (⟨#[]⟩ : ByteArray) x4).bind fun t161 => (if x3 = true then (calamusref24_Put.j3 k x0 x3 x13 x14 t161 x154000 x154001 x154002) else ((calamusref24_stop.f x0 x1).bind fun t162 => (if t162 = true then (calamusref24_Put.j3 k x0 x3 x13 x14 t161 x154000 x154001 x154002) else ((calamusref03_Next.f x0 x1).bind fun t163 => (calamusref24_Put.j3 k x0 x3 x13 t163 t161 x154000 x154001 x154002)))))))
def calamusref24_Put.j3 : Nat → ByteArray → Bool → Int → Int → ByteArray → Int → Bool → ByteArray → Option (ByteArray × Int × Int)
  | 0, _, _, _, _, _, _, _, _ => none
  | k + 1, x0, x3, x13, x14, x15, x154000, x154001, x154002 => if 0 ≤ x14 then (if x14 ≤ (x0.size : Int) then (if (x0.extract 0 (x14 : Int).toNat).size + x15.size ≤ 9223372036854775807 then (if ((x0.extract 0 (x14 : Int).toNat) ++ x15).size + (x0.extract (x14 : Int).toNat x0.size).size ≤ 9223372036854775807 then (if ((((x0.extract 0 (x14 : Int).toNat) ++ x15) ++ (x0.extract (x14 : Int).toNat x0.size)).size : Int) > 4096 then (some ((⟨#[]⟩ : ByteArray), 0, 8)) else (if x154001 = true then (calamusref24_Put.j4 k x13 x14 x15 (((x0.extract 0 (x14 : Int).toNat) ++ x15) ++ (x0.extract (x14 : Int).toNat x0.size)) x3 x154000 x154001 x154002) else (calamusref24_Put.j4 k x13 x14 x15 (((x0.extract 0 (x14 : Int).toNat) ++ x15) ++ (x0.extract (x14 : Int).toNat x0.size)) false x154000 x154001 x154002))) else (none)) else (none)) else (none)) else (none)
def calamusref24_Put.j4 : Nat → Int → Int → ByteArray → ByteArray → Bool → Int → Bool → ByteArray → Option (ByteArray × Int × Int)
  | 0, _, _, _, _, _, _, _, _ => none
  | k + 1, x13, x14, x15, x16, x93, x154000, x154001, x154002 => if x93 = true then ((calamusref04_First.f k x16 x13).bind fun t164 => (some (x16, t164, 0))) else (if x154001 = true then ((calamusref04_First.f k x16 (wrap64 (x13 + 1))).bind fun t165 => (some (x16, t165, 0))) else ((calamusref24_feed.f x15).bind fun t166 => (if t166 = true then ((calamusref04_Clamp.f k x16 x14).bind fun t167 => (some (x16, t167, 0))) else ((calamusref03_Prev.f x16 (wrap64 (x14 + (x15.size : Int)))).bind fun t168 => (some (x16, t168, 0))))))
end
def calamusref24_Put.f (k : Nat) (a0 : ByteArray) (a1 : Int) (a2_0 : Int) (a2_1 : Bool) (a2_2 : ByteArray) (a3 : Bool) (a4 : Int) : Option (ByteArray × Int × Int) := (calamusref03_Place.f a0 a1).bind fun t154 => (if t154 = true then ((calamusref03_Valid.f a2_2).bind fun t155 => (calamusref24_Put.j0 k a0 a1 a3 a4 (!t155) a2_0 a2_1 a2_2)) else (calamusref24_Put.j0 k a0 a1 a3 a4 true a2_0 a2_1 a2_2))
theorem calamusref24_Put.mono_l : ∀ k, (∀ y0 y1 y2 y3 y4 y5 y6 y7, LeO (calamusref24_Put.j0 k y0 y1 y2 y3 y4 y5 y6 y7) (calamusref24_Put.j0 (k + 1) y0 y1 y2 y3 y4 y5 y6 y7)) ∧ (∀ y0 y1 y2 y3 y4 y5 y6 y7, LeO (calamusref24_Put.j1 k y0 y1 y2 y3 y4 y5 y6 y7) (calamusref24_Put.j1 (k + 1) y0 y1 y2 y3 y4 y5 y6 y7)) ∧ (∀ y0 y1 y2 y3 y4 y5 y6 y7 y8 y9, LeO (calamusref24_Put.j2 k y0 y1 y2 y3 y4 y5 y6 y7 y8 y9) (calamusref24_Put.j2 (k + 1) y0 y1 y2 y3 y4 y5 y6 y7 y8 y9)) ∧ (∀ y0 y1 y2 y3 y4 y5 y6 y7, LeO (calamusref24_Put.j3 k y0 y1 y2 y3 y4 y5 y6 y7) (calamusref24_Put.j3 (k + 1) y0 y1 y2 y3 y4 y5 y6 y7)) ∧ (∀ y0 y1 y2 y3 y4 y5 y6 y7, LeO (calamusref24_Put.j4 k y0 y1 y2 y3 y4 y5 y6 y7) (calamusref24_Put.j4 (k + 1) y0 y1 y2 y3 y4 y5 y6 y7))
  | 0 => ⟨fun _ _ _ _ _ _ _ _ r h => by simp [calamusref24_Put.j0] at h, fun _ _ _ _ _ _ _ _ r h => by simp [calamusref24_Put.j1] at h, fun _ _ _ _ _ _ _ _ _ _ r h => by simp [calamusref24_Put.j2] at h, fun _ _ _ _ _ _ _ _ r h => by simp [calamusref24_Put.j3] at h, fun _ _ _ _ _ _ _ _ r h => by simp [calamusref24_Put.j4] at h⟩
  | k + 1 => by
    obtain ⟨ih0, ih1, ih2, ih3, ih4⟩ := calamusref24_Put.mono_l k
    refine ⟨?_, ?_, ?_, ?_, ?_⟩
    · intro y0 y1 y2 y3 y4 y5 y6 y7
      unfold calamusref24_Put.j0
      repeat' first
      | (with_reducible exact ih0 _ _ _ _ _ _ _ _)
      | (with_reducible exact ih1 _ _ _ _ _ _ _ _)
      | (with_reducible exact ih2 _ _ _ _ _ _ _ _ _ _)
      | (with_reducible exact ih3 _ _ _ _ _ _ _ _)
      | (with_reducible exact ih4 _ _ _ _ _ _ _ _)
      | (with_reducible exact calamusref04_Clamp.mono _ _ _)
      | (with_reducible exact calamusref04_First.mono _ _ _)
      | (with_reducible exact calamusref24_rep.mono _ _ _ _)
      | (with_reducible exact LeO.refl _)
      | (with_reducible exact LeO.none _)
      | (with_reducible refine LeO.ite ?_ ?_)
      | (with_reducible refine LeO.bind ?_ (fun _ => ?_))
      | exact ih0 _ _ _ _ _ _ _ _
      | exact ih1 _ _ _ _ _ _ _ _
      | exact ih2 _ _ _ _ _ _ _ _ _ _
      | exact ih3 _ _ _ _ _ _ _ _
      | exact ih4 _ _ _ _ _ _ _ _
      | exact calamusref04_Clamp.mono _ _ _
      | exact calamusref04_First.mono _ _ _
      | exact calamusref24_rep.mono _ _ _ _
      | exact LeO.none _
      | refine LeO.ite ?_ ?_
      | refine LeO.bind ?_ (fun _ => ?_)
    · intro y0 y1 y2 y3 y4 y5 y6 y7
      unfold calamusref24_Put.j1
      repeat' first
      | (with_reducible exact ih0 _ _ _ _ _ _ _ _)
      | (with_reducible exact ih1 _ _ _ _ _ _ _ _)
      | (with_reducible exact ih2 _ _ _ _ _ _ _ _ _ _)
      | (with_reducible exact ih3 _ _ _ _ _ _ _ _)
      | (with_reducible exact ih4 _ _ _ _ _ _ _ _)
      | (with_reducible exact calamusref04_Clamp.mono _ _ _)
      | (with_reducible exact calamusref04_First.mono _ _ _)
      | (with_reducible exact calamusref24_rep.mono _ _ _ _)
      | (with_reducible exact LeO.refl _)
      | (with_reducible exact LeO.none _)
      | (with_reducible refine LeO.ite ?_ ?_)
      | (with_reducible refine LeO.bind ?_ (fun _ => ?_))
      | exact ih0 _ _ _ _ _ _ _ _
      | exact ih1 _ _ _ _ _ _ _ _
      | exact ih2 _ _ _ _ _ _ _ _ _ _
      | exact ih3 _ _ _ _ _ _ _ _
      | exact ih4 _ _ _ _ _ _ _ _
      | exact calamusref04_Clamp.mono _ _ _
      | exact calamusref04_First.mono _ _ _
      | exact calamusref24_rep.mono _ _ _ _
      | exact LeO.none _
      | refine LeO.ite ?_ ?_
      | refine LeO.bind ?_ (fun _ => ?_)
    · intro y0 y1 y2 y3 y4 y5 y6 y7 y8 y9
      unfold calamusref24_Put.j2
      repeat' first
      | (with_reducible exact ih0 _ _ _ _ _ _ _ _)
      | (with_reducible exact ih1 _ _ _ _ _ _ _ _)
      | (with_reducible exact ih2 _ _ _ _ _ _ _ _ _ _)
      | (with_reducible exact ih3 _ _ _ _ _ _ _ _)
      | (with_reducible exact ih4 _ _ _ _ _ _ _ _)
      | (with_reducible exact calamusref04_Clamp.mono _ _ _)
      | (with_reducible exact calamusref04_First.mono _ _ _)
      | (with_reducible exact calamusref24_rep.mono _ _ _ _)
      | (with_reducible exact LeO.refl _)
      | (with_reducible exact LeO.none _)
      | (with_reducible refine LeO.ite ?_ ?_)
      | (with_reducible refine LeO.bind ?_ (fun _ => ?_))
      | exact ih0 _ _ _ _ _ _ _ _
      | exact ih1 _ _ _ _ _ _ _ _
      | exact ih2 _ _ _ _ _ _ _ _ _ _
      | exact ih3 _ _ _ _ _ _ _ _
      | exact ih4 _ _ _ _ _ _ _ _
      | exact calamusref04_Clamp.mono _ _ _
      | exact calamusref04_First.mono _ _ _
      | exact calamusref24_rep.mono _ _ _ _
      | exact LeO.none _
      | refine LeO.ite ?_ ?_
      | refine LeO.bind ?_ (fun _ => ?_)
    · intro y0 y1 y2 y3 y4 y5 y6 y7
      unfold calamusref24_Put.j3
      repeat' first
      | (with_reducible exact ih0 _ _ _ _ _ _ _ _)
      | (with_reducible exact ih1 _ _ _ _ _ _ _ _)
      | (with_reducible exact ih2 _ _ _ _ _ _ _ _ _ _)
      | (with_reducible exact ih3 _ _ _ _ _ _ _ _)
      | (with_reducible exact ih4 _ _ _ _ _ _ _ _)
      | (with_reducible exact calamusref04_Clamp.mono _ _ _)
      | (with_reducible exact calamusref04_First.mono _ _ _)
      | (with_reducible exact calamusref24_rep.mono _ _ _ _)
      | (with_reducible exact LeO.refl _)
      | (with_reducible exact LeO.none _)
      | (with_reducible refine LeO.ite ?_ ?_)
      | (with_reducible refine LeO.bind ?_ (fun _ => ?_))
      | exact ih0 _ _ _ _ _ _ _ _
      | exact ih1 _ _ _ _ _ _ _ _
      | exact ih2 _ _ _ _ _ _ _ _ _ _
      | exact ih3 _ _ _ _ _ _ _ _
      | exact ih4 _ _ _ _ _ _ _ _
      | exact calamusref04_Clamp.mono _ _ _
      | exact calamusref04_First.mono _ _ _
      | exact calamusref24_rep.mono _ _ _ _
      | exact LeO.none _
      | refine LeO.ite ?_ ?_
      | refine LeO.bind ?_ (fun _ => ?_)
    · intro y0 y1 y2 y3 y4 y5 y6 y7
      unfold calamusref24_Put.j4
      repeat' first
      | (with_reducible exact ih0 _ _ _ _ _ _ _ _)
      | (with_reducible exact ih1 _ _ _ _ _ _ _ _)
      | (with_reducible exact ih2 _ _ _ _ _ _ _ _ _ _)
      | (with_reducible exact ih3 _ _ _ _ _ _ _ _)
      | (with_reducible exact ih4 _ _ _ _ _ _ _ _)
      | (with_reducible exact calamusref04_Clamp.mono _ _ _)
      | (with_reducible exact calamusref04_First.mono _ _ _)
      | (with_reducible exact calamusref24_rep.mono _ _ _ _)
      | (with_reducible exact LeO.refl _)
      | (with_reducible exact LeO.none _)
      | (with_reducible refine LeO.ite ?_ ?_)
      | (with_reducible refine LeO.bind ?_ (fun _ => ?_))
      | exact ih0 _ _ _ _ _ _ _ _
      | exact ih1 _ _ _ _ _ _ _ _
      | exact ih2 _ _ _ _ _ _ _ _ _ _
      | exact ih3 _ _ _ _ _ _ _ _
      | exact ih4 _ _ _ _ _ _ _ _
      | exact calamusref04_Clamp.mono _ _ _
      | exact calamusref04_First.mono _ _ _
      | exact calamusref24_rep.mono _ _ _ _
      | exact LeO.none _
      | refine LeO.ite ?_ ?_
      | refine LeO.bind ?_ (fun _ => ?_)
theorem calamusref24_Put.mono : ∀ a0 a1 a2 a3 a4 a5 a6 k, LeO (calamusref24_Put.f k a0 a1 a2 a3 a4 a5 a6) (calamusref24_Put.f (k + 1) a0 a1 a2 a3 a4 a5 a6) := by
  intro a0 a1 a2 a3 a4 a5 a6 k
  obtain ⟨ih0, ih1, ih2, ih3, ih4⟩ := calamusref24_Put.mono_l k
  unfold calamusref24_Put.f
  repeat' first
      | (with_reducible exact ih0 _ _ _ _ _ _ _ _)
      | (with_reducible exact ih1 _ _ _ _ _ _ _ _)
      | (with_reducible exact ih2 _ _ _ _ _ _ _ _ _ _)
      | (with_reducible exact ih3 _ _ _ _ _ _ _ _)
      | (with_reducible exact ih4 _ _ _ _ _ _ _ _)
      | (with_reducible exact calamusref04_Clamp.mono _ _ _)
      | (with_reducible exact calamusref04_First.mono _ _ _)
      | (with_reducible exact calamusref24_rep.mono _ _ _ _)
      | (with_reducible exact LeO.refl _)
      | (with_reducible exact LeO.none _)
      | (with_reducible refine LeO.ite ?_ ?_)
      | (with_reducible refine LeO.bind ?_ (fun _ => ?_))
      | exact ih0 _ _ _ _ _ _ _ _
      | exact ih1 _ _ _ _ _ _ _ _
      | exact ih2 _ _ _ _ _ _ _ _ _ _
      | exact ih3 _ _ _ _ _ _ _ _
      | exact ih4 _ _ _ _ _ _ _ _
      | exact calamusref04_Clamp.mono _ _ _
      | exact calamusref04_First.mono _ _ _
      | exact calamusref24_rep.mono _ _ _ _
      | exact LeO.none _
      | refine LeO.ite ?_ ?_
      | refine LeO.bind ?_ (fun _ => ?_)
set_option maxHeartbeats 8000000 in
set_option maxRecDepth 100000 in
theorem calamusref24_Put.calls (k : Nat) (a0 : ByteArray) (a1 : Int) (a2_0 : Int) (a2_1 : Bool) (a2_2 : ByteArray) (a3 : Bool) (a4 : Int) (r1 : ByteArray) (r2 : Int) (r3 : Int) (w : World) (h : calamusref24_Put.f k a0 a1 a2_0 a2_1 a2_2 a3 a4 = some (r1, r2, r3)) :
    Calls Tryd.prog 9 #[.string a0, .int .i64 a1, .agg #[.int .i64 a2_0, .bool a2_1, .string a2_2], .bool a3, .int .i64 a4] w fun e w' => e = .returned (.tuple #[.string r1, .int .i64 r2, .int .i64 r3]) ∧ Below w.heap.size w w' := by
  have hu23 := Tryd.underlying23
  have HB := Aside0.mk (Below.refl w.heap.size w)
  have H : ((calamusref03_Place.f a0 a1).bind fun t154 => (if t154 = true then ((calamusref03_Valid.f a2_2).bind fun t155 => (calamusref24_Put.j0 k a0 a1 a3 a4 (!t155) a2_0 a2_1 a2_2)) else (calamusref24_Put.j0 k a0 a1 a3 a4 true a2_0 a2_1 a2_2))) = some (r1, r2, r3) := h
  clear h
  have HC6 := Aside0.mk H
  clear H
  go_enter Tryd.func9, Tryd.ntmps9
  go_upto_region 1 with (first | ((with_reducible refine gate_dst (N := 7) rfl ?_); refine box_event ?hg (N := 7) ?hd (cs := #[.int .i64 a2_0, .bool a2_1, .string a2_2]) (t := 23) ?hr ?_; (case hd => rfl); (case hg => rfl); (case hr => first | (go_simp; done) | (go_simp; rfl)); intro gb153 hg w7 hbox hb; have n0_ := Aside0.mk (below_step (by repeat (first | (with_reducible first | exact HB.out | apply below_alloc | apply pw_below_drewN | apply below_drew1) | exact HB.out)) hb); have n1_ := Aside0.mk (hbox); have n2_ := Aside0.mk ((by rw [hg]; exact (below_size (by repeat (first | (with_reducible first | exact HB.out | apply below_alloc | apply pw_below_drewN | apply below_drew1) | exact HB.out))) : w.heap.size ≤ gb153)); have n3_ := Aside0.mk ((by rw [hg]; exact (below_size (by repeat (first | (with_reducible first | exact HB.out | apply below_alloc | apply pw_below_drewN | apply below_drew1) | exact HB.out))) : w.heap.size ≤ gb153)); clear HB; have HB := n0_; have BK153 := n1_; have GW153 := n2_; have GE153 := n3_; clear n0_ n1_ n2_ n3_; clear hb hbox hg))
  repeat (go_quiet (first | ((with_reducible refine gate_dst (N := 7) rfl ?_); refine box_event ?hg (N := 7) ?hd (cs := #[.int .i64 a2_0, .bool a2_1, .string a2_2]) (t := 23) ?hr ?_; (case hd => rfl); (case hg => rfl); (case hr => first | (go_simp; done) | (go_simp; rfl)); intro gb153 hg w7 hbox hb; have n0_ := Aside0.mk (below_step (by repeat (first | (with_reducible first | exact HB.out | apply below_alloc | apply pw_below_drewN | apply below_drew1) | exact HB.out)) hb); have n1_ := Aside0.mk (hbox); have n2_ := Aside0.mk ((by rw [hg]; exact (below_size (by repeat (first | (with_reducible first | exact HB.out | apply below_alloc | apply pw_below_drewN | apply below_drew1) | exact HB.out))) : w.heap.size ≤ gb153)); have n3_ := Aside0.mk ((by rw [hg]; exact (below_size (by repeat (first | (with_reducible first | exact HB.out | apply below_alloc | apply pw_below_drewN | apply below_drew1) | exact HB.out))) : w.heap.size ≤ gb153)); clear HB; have HB := n0_; have BK153 := n1_; have GW153 := n2_; have GE153 := n3_; clear n0_ n1_ n2_ n3_; clear hb hbox hg)); go_upto_region 1 with (first | ((with_reducible refine gate_dst (N := 7) rfl ?_); refine box_event ?hg (N := 7) ?hd (cs := #[.int .i64 a2_0, .bool a2_1, .string a2_2]) (t := 23) ?hr ?_; (case hd => rfl); (case hg => rfl); (case hr => first | (go_simp; done) | (go_simp; rfl)); intro gb153 hg w7 hbox hb; have n0_ := Aside0.mk (below_step (by repeat (first | (with_reducible first | exact HB.out | apply below_alloc | apply pw_below_drewN | apply below_drew1) | exact HB.out)) hb); have n1_ := Aside0.mk (hbox); have n2_ := Aside0.mk ((by rw [hg]; exact (below_size (by repeat (first | (with_reducible first | exact HB.out | apply below_alloc | apply pw_below_drewN | apply below_drew1) | exact HB.out))) : w.heap.size ≤ gb153)); have n3_ := Aside0.mk ((by rw [hg]; exact (below_size (by repeat (first | (with_reducible first | exact HB.out | apply below_alloc | apply pw_below_drewN | apply below_drew1) | exact HB.out))) : w.heap.size ≤ gb153)); clear HB; have HB := n0_; have BK153 := n1_; have GW153 := n2_; have GE153 := n3_; clear n0_ n1_ n2_ n3_; clear hb hbox hg)))
  (try simp only [Act.put, List.setIfInBounds_toArray, List.set_cons_zero, List.set_cons_succ])
  go_cut [26] (fun v26 wc => ∃ (kq : Nat) (x26_5 : Bool), v26 = .bool x26_5 ∧ Aside0 (calamusref24_Put.j0 kq a0 a1 a3 a4 x26_5 a2_0 a2_1 a2_2 = some (r1, r2, r3)) ∧ Aside0 (kq ≤ k) ∧ Aside0 (wc.heap[gb153]? = some (.cells #[.int .i64 a2_0, .bool a2_1, .string a2_2] 23 (0, 0))) ∧ Aside0 (Below w.heap.size w wc))
  case first =>
    have H := HC6.out
    clear HC6
    replace H := Option.bind_eq_some_iff.mp H
    obtain ⟨t154, A80, H⟩ := H
    replace H : (if t154 = true then ((calamusref03_Valid.f a2_2).bind fun t155 => (calamusref24_Put.j0 k a0 a1 a3 a4 (!t155) a2_0 a2_1 a2_2)) else (calamusref24_Put.j0 k a0 a1 a3 a4 true a2_0 a2_1 a2_2)) = some (r1, r2, r3) := H
    have A8 := Aside0.mk A80
    clear A80
    by_cases c9 : t154 = true
    · subst c9
      have H1 : ((calamusref03_Valid.f a2_2).bind fun t155 => (calamusref24_Put.j0 k a0 a1 a3 a4 (!t155) a2_0 a2_1 a2_2)) = some (r1, r2, r3) := by rw [if_pos rfl] at H; exact H
      clear H
      have H := H1
      clear H1
      replace H := Option.bind_eq_some_iff.mp H
      obtain ⟨t155, A100, H⟩ := H
      replace H : (calamusref24_Put.j0 k a0 a1 a3 a4 (!t155) a2_0 a2_1 a2_2) = some (r1, r2, r3) := H
      have A10 := Aside0.mk A100
      clear A100
      have H' := Aside0.mk H
      clear H
      go_wp2_with (first | (go_at_call 30; (with_reducible refine (calamusref03_Place.calls a0 a1 true _ A8.out).mono ?_); rintro e w11 ⟨rfl, hb⟩; have n0_ := Aside0.mk (blk_below (g := gb153) (o := .cells #[.int .i64 a2_0, .bool a2_1, .string a2_2] 23 (0, 0)) (by (with_reducible repeat (first | refine blk_drewN ?_ _ | refine blk_drew ?_ | refine blk_alloc ?_ _)); exact BK153.out) hb); have n1_ := Aside0.mk (below_step (by repeat (first | (with_reducible first | exact HB.out | apply below_alloc | apply pw_below_drewN | apply below_drew1 | refine below_set ?_ GE153.out) | exact HB.out)) hb); clear BK153; clear HB; have BK153 := n0_; have HB := n1_; clear n0_ n1_; (try clear hb); (try clear hb2); (try clear hk); (try clear hi); have hcz12_0 : w11.cell? ⟨gb153, 0, none⟩ = some (.int .i64 a2_0) := (blk_cell BK153.out 0).trans rfl; have hcz12_1 : w11.cell? ⟨gb153, 1, none⟩ = some (.bool a2_1) := (blk_cell BK153.out 1).trans rfl; have hcz12_2 : w11.cell? ⟨gb153, 2, none⟩ = some (.string a2_2) := (blk_cell BK153.out 2).trans rfl; have hfz12_0 := blk_frozen BK153.out 0; have hfz12_1 := blk_frozen BK153.out 1; have hfz12_2 := blk_frozen BK153.out 2) | (go_at_call 31; (with_reducible refine (calamusref03_Valid.calls a2_2 t155 _ A10.out).mono ?_); rintro e w13 ⟨rfl, hb⟩; have n0_ := Aside0.mk (blk_below (g := gb153) (o := .cells #[.int .i64 a2_0, .bool a2_1, .string a2_2] 23 (0, 0)) (by (with_reducible repeat (first | refine blk_drewN ?_ _ | refine blk_drew ?_ | refine blk_alloc ?_ _)); exact BK153.out) hb); have n1_ := Aside0.mk (below_step (by repeat (first | (with_reducible first | exact HB.out | apply below_alloc | apply pw_below_drewN | apply below_drew1 | refine below_set ?_ GE153.out) | exact HB.out)) hb); clear BK153; clear HB; have BK153 := n0_; have HB := n1_; clear n0_ n1_; (try clear hb); (try clear hb2); (try clear hk); (try clear hi)))
      repeat (go_quiet (first | (go_at_call 30; (with_reducible refine (calamusref03_Place.calls a0 a1 true _ A8.out).mono ?_); rintro e w11 ⟨rfl, hb⟩; have n0_ := Aside0.mk (blk_below (g := gb153) (o := .cells #[.int .i64 a2_0, .bool a2_1, .string a2_2] 23 (0, 0)) (by (with_reducible repeat (first | refine blk_drewN ?_ _ | refine blk_drew ?_ | refine blk_alloc ?_ _)); exact BK153.out) hb); have n1_ := Aside0.mk (below_step (by repeat (first | (with_reducible first | exact HB.out | apply below_alloc | apply pw_below_drewN | apply below_drew1 | refine below_set ?_ GE153.out) | exact HB.out)) hb); clear BK153; clear HB; have BK153 := n0_; have HB := n1_; clear n0_ n1_; (try clear hb); (try clear hb2); (try clear hk); (try clear hi); have hcz12_0 : w11.cell? ⟨gb153, 0, none⟩ = some (.int .i64 a2_0) := (blk_cell BK153.out 0).trans rfl; have hcz12_1 : w11.cell? ⟨gb153, 1, none⟩ = some (.bool a2_1) := (blk_cell BK153.out 1).trans rfl; have hcz12_2 : w11.cell? ⟨gb153, 2, none⟩ = some (.string a2_2) := (blk_cell BK153.out 2).trans rfl; have hfz12_0 := blk_frozen BK153.out 0; have hfz12_1 := blk_frozen BK153.out 1; have hfz12_2 := blk_frozen BK153.out 2) | (go_at_call 31; (with_reducible refine (calamusref03_Valid.calls a2_2 t155 _ A10.out).mono ?_); rintro e w13 ⟨rfl, hb⟩; have n0_ := Aside0.mk (blk_below (g := gb153) (o := .cells #[.int .i64 a2_0, .bool a2_1, .string a2_2] 23 (0, 0)) (by (with_reducible repeat (first | refine blk_drewN ?_ _ | refine blk_drew ?_ | refine blk_alloc ?_ _)); exact BK153.out) hb); have n1_ := Aside0.mk (below_step (by repeat (first | (with_reducible first | exact HB.out | apply below_alloc | apply pw_below_drewN | apply below_drew1 | refine below_set ?_ GE153.out) | exact HB.out)) hb); clear BK153; clear HB; have BK153 := n0_; have HB := n1_; clear n0_ n1_; (try clear hb); (try clear hb2); (try clear hk); (try clear hi))); try go_wp2_with (first | (go_at_call 30; (with_reducible refine (calamusref03_Place.calls a0 a1 true _ A8.out).mono ?_); rintro e w11 ⟨rfl, hb⟩; have n0_ := Aside0.mk (blk_below (g := gb153) (o := .cells #[.int .i64 a2_0, .bool a2_1, .string a2_2] 23 (0, 0)) (by (with_reducible repeat (first | refine blk_drewN ?_ _ | refine blk_drew ?_ | refine blk_alloc ?_ _)); exact BK153.out) hb); have n1_ := Aside0.mk (below_step (by repeat (first | (with_reducible first | exact HB.out | apply below_alloc | apply pw_below_drewN | apply below_drew1 | refine below_set ?_ GE153.out) | exact HB.out)) hb); clear BK153; clear HB; have BK153 := n0_; have HB := n1_; clear n0_ n1_; (try clear hb); (try clear hb2); (try clear hk); (try clear hi); have hcz12_0 : w11.cell? ⟨gb153, 0, none⟩ = some (.int .i64 a2_0) := (blk_cell BK153.out 0).trans rfl; have hcz12_1 : w11.cell? ⟨gb153, 1, none⟩ = some (.bool a2_1) := (blk_cell BK153.out 1).trans rfl; have hcz12_2 : w11.cell? ⟨gb153, 2, none⟩ = some (.string a2_2) := (blk_cell BK153.out 2).trans rfl; have hfz12_0 := blk_frozen BK153.out 0; have hfz12_1 := blk_frozen BK153.out 1; have hfz12_2 := blk_frozen BK153.out 2) | (go_at_call 31; (with_reducible refine (calamusref03_Valid.calls a2_2 t155 _ A10.out).mono ?_); rintro e w13 ⟨rfl, hb⟩; have n0_ := Aside0.mk (blk_below (g := gb153) (o := .cells #[.int .i64 a2_0, .bool a2_1, .string a2_2] 23 (0, 0)) (by (with_reducible repeat (first | refine blk_drewN ?_ _ | refine blk_drew ?_ | refine blk_alloc ?_ _)); exact BK153.out) hb); have n1_ := Aside0.mk (below_step (by repeat (first | (with_reducible first | exact HB.out | apply below_alloc | apply pw_below_drewN | apply below_drew1 | refine below_set ?_ GE153.out) | exact HB.out)) hb); clear BK153; clear HB; have BK153 := n0_; have HB := n1_; clear n0_ n1_; (try clear hb); (try clear hb2); (try clear hk); (try clear hi))))
      go_meet
      case rel => exact ⟨_, (!t155), (by first | rfl | (simp; done) | (simp [*]; done)), H', ⟨by first | omega | exact Nat.le_refl _⟩, ⟨by (with_reducible repeat (first | refine blk_drewN ?_ _ | refine blk_drew ?_ | refine blk_alloc ?_ _)); exact BK153.out⟩, ⟨by repeat (first | (with_reducible first | exact HB.out | apply below_alloc | apply pw_below_drewN | apply below_drew1 | refine below_set ?_ GE153.out) | exact HB.out)⟩⟩
    · replace c9 := Bool.eq_false_iff.mpr c9
      subst c9
      have H1 : (calamusref24_Put.j0 k a0 a1 a3 a4 true a2_0 a2_1 a2_2) = some (r1, r2, r3) := by rw [if_neg (show ¬ (false = true) by decide)] at H; exact H
      clear H
      have H := H1
      clear H1
      have H' := Aside0.mk H
      clear H
      go_wp2_with (first | (go_at_call 30; (with_reducible refine (calamusref03_Place.calls a0 a1 false _ A8.out).mono ?_); rintro e w14 ⟨rfl, hb⟩; have n0_ := Aside0.mk (blk_below (g := gb153) (o := .cells #[.int .i64 a2_0, .bool a2_1, .string a2_2] 23 (0, 0)) (by (with_reducible repeat (first | refine blk_drewN ?_ _ | refine blk_drew ?_ | refine blk_alloc ?_ _)); exact BK153.out) hb); have n1_ := Aside0.mk (below_step (by repeat (first | (with_reducible first | exact HB.out | apply below_alloc | apply pw_below_drewN | apply below_drew1 | refine below_set ?_ GE153.out) | exact HB.out)) hb); clear BK153; clear HB; have BK153 := n0_; have HB := n1_; clear n0_ n1_; (try clear hb); (try clear hb2); (try clear hk); (try clear hi)))
      repeat (go_quiet (first | (go_at_call 30; (with_reducible refine (calamusref03_Place.calls a0 a1 false _ A8.out).mono ?_); rintro e w14 ⟨rfl, hb⟩; have n0_ := Aside0.mk (blk_below (g := gb153) (o := .cells #[.int .i64 a2_0, .bool a2_1, .string a2_2] 23 (0, 0)) (by (with_reducible repeat (first | refine blk_drewN ?_ _ | refine blk_drew ?_ | refine blk_alloc ?_ _)); exact BK153.out) hb); have n1_ := Aside0.mk (below_step (by repeat (first | (with_reducible first | exact HB.out | apply below_alloc | apply pw_below_drewN | apply below_drew1 | refine below_set ?_ GE153.out) | exact HB.out)) hb); clear BK153; clear HB; have BK153 := n0_; have HB := n1_; clear n0_ n1_; (try clear hb); (try clear hb2); (try clear hk); (try clear hi))); try go_wp2_with (first | (go_at_call 30; (with_reducible refine (calamusref03_Place.calls a0 a1 false _ A8.out).mono ?_); rintro e w14 ⟨rfl, hb⟩; have n0_ := Aside0.mk (blk_below (g := gb153) (o := .cells #[.int .i64 a2_0, .bool a2_1, .string a2_2] 23 (0, 0)) (by (with_reducible repeat (first | refine blk_drewN ?_ _ | refine blk_drew ?_ | refine blk_alloc ?_ _)); exact BK153.out) hb); have n1_ := Aside0.mk (below_step (by repeat (first | (with_reducible first | exact HB.out | apply below_alloc | apply pw_below_drewN | apply below_drew1 | refine below_set ?_ GE153.out) | exact HB.out)) hb); clear BK153; clear HB; have BK153 := n0_; have HB := n1_; clear n0_ n1_; (try clear hb); (try clear hb2); (try clear hk); (try clear hi))))
      go_meet
      case rel => exact ⟨_, (true), (by first | rfl | (simp; done) | (simp [*]; done)), H', ⟨by first | omega | exact Nat.le_refl _⟩, ⟨by (with_reducible repeat (first | refine blk_drewN ?_ _ | refine blk_drew ?_ | refine blk_alloc ?_ _)); exact BK153.out⟩, ⟨by repeat (first | (with_reducible first | exact HB.out | apply below_alloc | apply pw_below_drewN | apply below_drew1 | refine below_set ?_ GE153.out) | exact HB.out)⟩⟩
  case rest =>
    clear HC6
    try clear p2
    try clear c9
    try clear hcz12_0
    try clear hcz12_1
    try clear hcz12_2
    try clear hfz12_0
    try clear hfz12_1
    try clear hfz12_2
    obtain ⟨kq, x26_5, rfl, HA, HJ5, BK153, HB⟩ := hcut
    cases kq with
    | zero => exact absurd HA.out (by simp [calamusref24_Put.j0])
    | succ kj5 =>
      have H := HA.out
      clear HA
      simp only [calamusref24_Put.j0] at H
      by_cases c15 : x26_5 = true
      · subst c15
        have H1 : (some ((⟨#[]⟩ : ByteArray), 0, 1)) = some (r1, r2, r3) := by rw [if_pos rfl] at H; exact H
        clear H
        have H := H1
        clear H1
        simp only [Option.some.injEq, Prod.mk.injEq] at H
        obtain ⟨rfl, rfl, rfl⟩ := H
        go_wp2
        repeat (go_quiet (fail); try go_wp2)
        go_ret3
        exact ⟨by first | rfl | (simp [errW_none, errW_some] <;> rfl) | (simp [*, errW_none, errW_some] <;> rfl), by repeat (first | (with_reducible first | exact HB.out | apply below_alloc | apply pw_below_drewN | apply below_drew1 | refine below_set ?_ GE153.out) | exact HB.out)⟩
      · replace c15 := Bool.eq_false_iff.mpr c15
        subst c15
        have H1 : (if a2_2.toList = ([] : List UInt8) then (calamusref24_Put.j1 kj5 a0 a1 a3 a4 (!a2_1) a2_0 a2_1 a2_2) else (calamusref24_Put.j1 kj5 a0 a1 a3 a4 false a2_0 a2_1 a2_2)) = some (r1, r2, r3) := by rw [if_neg (show ¬ (false = true) by decide)] at H; exact H
        clear H
        have H := H1
        clear H1
        have HC16 := Aside0.mk H
        clear H
        go_upto_region 3 with (fail)
        repeat (go_quiet (fail); go_upto_region 3 with (fail))
        go_cut [34] (fun v34 wc => ∃ (kq : Nat) (x34_15 : Bool), v34 = .bool x34_15 ∧ Aside0 (calamusref24_Put.j1 kq a0 a1 a3 a4 x34_15 a2_0 a2_1 a2_2 = some (r1, r2, r3)) ∧ Aside0 (kq ≤ kj5) ∧ Aside0 (wc.heap[gb153]? = some (.cells #[.int .i64 a2_0, .bool a2_1, .string a2_2] 23 (0, 0))) ∧ Aside0 (Below w.heap.size w wc))
        case first =>
          have H := HC16.out
          clear HC16
          by_cases c17 : a2_2.toList = ([] : List UInt8)
          · rw [if_pos c17] at H
            have c17b0 : (a2_2.toList == ([] : List UInt8)) = true := beq_iff_eq.mpr c17
            have c17b1 : (a2_2.toList != ([] : List UInt8)) = false := bne_eq_false_iff_eq.mpr c17
            clear c17
            (first | rw [c17b0] | (simp only [i64_w, i32_w]; rw [c17b0]) | skip)
            have H' := Aside0.mk H
            clear H
            have hcz18_0 : wc.cell? ⟨gb153, 0, none⟩ = some (.int .i64 a2_0) := (blk_cell BK153.out 0).trans rfl
            have hcz18_1 : wc.cell? ⟨gb153, 1, none⟩ = some (.bool a2_1) := (blk_cell BK153.out 1).trans rfl
            have hcz18_2 : wc.cell? ⟨gb153, 2, none⟩ = some (.string a2_2) := (blk_cell BK153.out 2).trans rfl
            have hfz18_0 := blk_frozen BK153.out 0
            have hfz18_1 := blk_frozen BK153.out 1
            have hfz18_2 := blk_frozen BK153.out 2
            go_wp2
            repeat (go_quiet (fail); try go_wp2)
            go_meet
            case rel => exact ⟨_, (!a2_1), (by first | rfl | (simp; done) | (simp [*]; done)), H', ⟨by have := HJ5.out; first | omega | exact Nat.le_refl _⟩, ⟨by (with_reducible repeat (first | refine blk_drewN ?_ _ | refine blk_drew ?_ | refine blk_alloc ?_ _)); exact BK153.out⟩, ⟨by repeat (first | (with_reducible first | exact HB.out | apply below_alloc | apply pw_below_drewN | apply below_drew1 | refine below_set ?_ GE153.out) | exact HB.out)⟩⟩
          · rw [if_neg c17] at H
            have c17b0 : (a2_2.toList == ([] : List UInt8)) = false := beq_eq_false_iff_ne.mpr c17
            have c17b1 : (a2_2.toList != ([] : List UInt8)) = true := bne_iff_ne.mpr c17
            (first | rw [c17b0] | (simp only [i64_w, i32_w]; rw [c17b0]) | skip)
            have H' := Aside0.mk H
            clear H
            have hcz19_0 : wc.cell? ⟨gb153, 0, none⟩ = some (.int .i64 a2_0) := (blk_cell BK153.out 0).trans rfl
            have hcz19_1 : wc.cell? ⟨gb153, 1, none⟩ = some (.bool a2_1) := (blk_cell BK153.out 1).trans rfl
            have hcz19_2 : wc.cell? ⟨gb153, 2, none⟩ = some (.string a2_2) := (blk_cell BK153.out 2).trans rfl
            have hfz19_0 := blk_frozen BK153.out 0
            have hfz19_1 := blk_frozen BK153.out 1
            have hfz19_2 := blk_frozen BK153.out 2
            go_wp2
            repeat (go_quiet (fail); try go_wp2)
            go_meet
            case rel => exact ⟨_, (false), (by first | rfl | (simp; done) | (simp [*]; done)), H', ⟨by have := HJ5.out; first | omega | exact Nat.le_refl _⟩, ⟨by (with_reducible repeat (first | refine blk_drewN ?_ _ | refine blk_drew ?_ | refine blk_alloc ?_ _)); exact BK153.out⟩, ⟨by repeat (first | (with_reducible first | exact HB.out | apply below_alloc | apply pw_below_drewN | apply below_drew1 | refine below_set ?_ GE153.out) | exact HB.out)⟩⟩
        case rest =>
          clear HC16
          try clear c1
          try clear p2
          try clear c9
          try clear c15
          try clear c17
          try clear c17b0
          try clear c17b1
          try clear hcz12_0
          try clear hcz12_1
          try clear hcz12_2
          try clear hcz18_0
          try clear hcz18_1
          try clear hcz18_2
          try clear hcz19_0
          try clear hcz19_1
          try clear hcz19_2
          try clear hfz12_0
          try clear hfz12_1
          try clear hfz12_2
          try clear hfz18_0
          try clear hfz18_1
          try clear hfz18_2
          try clear hfz19_0
          try clear hfz19_1
          try clear hfz19_2
          try clear p2
          obtain ⟨kq, x34_15, rfl, HA, HJ15, BK153, HB⟩ := hcut
          cases kq with
          | zero => exact absurd HA.out (by simp [calamusref24_Put.j1])
          | succ kj15 =>
            have H := HA.out
            clear HA
            simp only [calamusref24_Put.j1] at H
            by_cases c20 : x34_15 = true
            · subst c20
              have H1 : (some ((⟨#[]⟩ : ByteArray), 0, 7)) = some (r1, r2, r3) := by rw [if_pos rfl] at H; exact H
              clear H
              have H := H1
              clear H1
              simp only [Option.some.injEq, Prod.mk.injEq] at H
              obtain ⟨rfl, rfl, rfl⟩ := H
              go_wp2
              repeat (go_quiet (fail); try go_wp2)
              go_ret3
              exact ⟨by first | rfl | (simp [errW_none, errW_some] <;> rfl) | (simp [*, errW_none, errW_some] <;> rfl), by repeat (first | (with_reducible first | exact HB.out | apply below_alloc | apply pw_below_drewN | apply below_drew1 | refine below_set ?_ GE153.out) | exact HB.out)⟩
            · replace c20 := Bool.eq_false_iff.mpr c20
              subst c20
              have H1 : ((calamusref04_Of.f a0 a1).bind fun t156 => (if a2_1 = true then (calamusref24_Put.j2 kj15 a0 a1 a3 a4 t156 a1 a3 a2_0 a2_1 a2_2) else (calamusref24_Put.j2 kj15 a0 a1 a3 a4 t156 a1 false a2_0 a2_1 a2_2))) = some (r1, r2, r3) := by rw [if_neg (show ¬ (false = true) by decide)] at H; exact H
              clear H
              have H := H1
              clear H1
              replace H := Option.bind_eq_some_iff.mp H
              obtain ⟨t156, A210, H⟩ := H
              replace H : (if a2_1 = true then (calamusref24_Put.j2 kj15 a0 a1 a3 a4 t156 a1 a3 a2_0 a2_1 a2_2) else (calamusref24_Put.j2 kj15 a0 a1 a3 a4 t156 a1 false a2_0 a2_1 a2_2)) = some (r1, r2, r3) := H
              have A21 := Aside0.mk A210
              clear A210
              have HC22 := Aside0.mk H
              clear H
              go_upto_region 7 with (first | (go_at_call 32; (with_reducible refine (calamusref04_Of.calls a0 a1 t156 _ A21.out).mono ?_); rintro e w23 ⟨rfl, hb⟩; have n0_ := Aside0.mk (blk_below (g := gb153) (o := .cells #[.int .i64 a2_0, .bool a2_1, .string a2_2] 23 (0, 0)) (by (with_reducible repeat (first | refine blk_drewN ?_ _ | refine blk_drew ?_ | refine blk_alloc ?_ _)); exact BK153.out) hb); have n1_ := Aside0.mk (below_step (by repeat (first | (with_reducible first | exact HB.out | apply below_alloc | apply pw_below_drewN | apply below_drew1 | refine below_set ?_ GE153.out) | exact HB.out)) hb); clear BK153; clear HB; have BK153 := n0_; have HB := n1_; clear n0_ n1_; (try clear hb); (try clear hb2); (try clear hk); (try clear hi)))
              repeat (go_quiet (first | (go_at_call 32; (with_reducible refine (calamusref04_Of.calls a0 a1 t156 _ A21.out).mono ?_); rintro e w23 ⟨rfl, hb⟩; have n0_ := Aside0.mk (blk_below (g := gb153) (o := .cells #[.int .i64 a2_0, .bool a2_1, .string a2_2] 23 (0, 0)) (by (with_reducible repeat (first | refine blk_drewN ?_ _ | refine blk_drew ?_ | refine blk_alloc ?_ _)); exact BK153.out) hb); have n1_ := Aside0.mk (below_step (by repeat (first | (with_reducible first | exact HB.out | apply below_alloc | apply pw_below_drewN | apply below_drew1 | refine below_set ?_ GE153.out) | exact HB.out)) hb); clear BK153; clear HB; have BK153 := n0_; have HB := n1_; clear n0_ n1_; (try clear hb); (try clear hb2); (try clear hk); (try clear hi))); go_upto_region 7 with (first | (go_at_call 32; (with_reducible refine (calamusref04_Of.calls a0 a1 t156 _ A21.out).mono ?_); rintro e w23 ⟨rfl, hb⟩; have n0_ := Aside0.mk (blk_below (g := gb153) (o := .cells #[.int .i64 a2_0, .bool a2_1, .string a2_2] 23 (0, 0)) (by (with_reducible repeat (first | refine blk_drewN ?_ _ | refine blk_drew ?_ | refine blk_alloc ?_ _)); exact BK153.out) hb); have n1_ := Aside0.mk (below_step (by repeat (first | (with_reducible first | exact HB.out | apply below_alloc | apply pw_below_drewN | apply below_drew1 | refine below_set ?_ GE153.out) | exact HB.out)) hb); clear BK153; clear HB; have BK153 := n0_; have HB := n1_; clear n0_ n1_; (try clear hb); (try clear hb2); (try clear hk); (try clear hi))))
              (try simp only [Act.put, List.setIfInBounds_toArray, List.set_cons_zero, List.set_cons_succ])
              go_cut [43] (fun v43 wc => ∃ (kq : Nat) (x43_21 : Bool), v43 = .bool x43_21 ∧ Aside0 (calamusref24_Put.j2 kq a0 a1 a3 a4 t156 a1 x43_21 a2_0 a2_1 a2_2 = some (r1, r2, r3)) ∧ Aside0 (kq ≤ kj15) ∧ Aside0 (wc.heap[gb153]? = some (.cells #[.int .i64 a2_0, .bool a2_1, .string a2_2] 23 (0, 0))) ∧ Aside0 (Below w.heap.size w wc))
              case first =>
                have H := HC22.out
                clear HC22
                by_cases c24 : a2_1 = true
                · subst c24
                  have H1 : (calamusref24_Put.j2 kj15 a0 a1 a3 a4 t156 a1 a3 a2_0 true a2_2) = some (r1, r2, r3) := by rw [if_pos rfl] at H; exact H
                  clear H
                  have H := H1
                  clear H1
                  have H' := Aside0.mk H
                  clear H
                  have hcz25_0 : w23.cell? ⟨gb153, 0, none⟩ = some (.int .i64 a2_0) := (blk_cell BK153.out 0).trans rfl
                  have hcz25_1 : w23.cell? ⟨gb153, 1, none⟩ = some (.bool true) := (blk_cell BK153.out 1).trans rfl
                  have hcz25_2 : w23.cell? ⟨gb153, 2, none⟩ = some (.string a2_2) := (blk_cell BK153.out 2).trans rfl
                  have hfz25_0 := blk_frozen BK153.out 0
                  have hfz25_1 := blk_frozen BK153.out 1
                  have hfz25_2 := blk_frozen BK153.out 2
                  go_wp2
                  repeat (go_quiet (fail); try go_wp2)
                  go_meet
                  case rel => exact ⟨_, (a3), (by first | rfl | (simp; done) | (simp [*]; done)), H', ⟨by have := HJ5.out; have := HJ15.out; first | omega | exact Nat.le_refl _⟩, ⟨by (with_reducible repeat (first | refine blk_drewN ?_ _ | refine blk_drew ?_ | refine blk_alloc ?_ _)); exact BK153.out⟩, ⟨by repeat (first | (with_reducible first | exact HB.out | apply below_alloc | apply pw_below_drewN | apply below_drew1 | refine below_set ?_ GE153.out) | exact HB.out)⟩⟩
                · replace c24 := Bool.eq_false_iff.mpr c24
                  subst c24
                  have H1 : (calamusref24_Put.j2 kj15 a0 a1 a3 a4 t156 a1 false a2_0 false a2_2) = some (r1, r2, r3) := by rw [if_neg (show ¬ (false = true) by decide)] at H; exact H
                  clear H
                  have H := H1
                  clear H1
                  have H' := Aside0.mk H
                  clear H
                  have hcz26_0 : w23.cell? ⟨gb153, 0, none⟩ = some (.int .i64 a2_0) := (blk_cell BK153.out 0).trans rfl
                  have hcz26_1 : w23.cell? ⟨gb153, 1, none⟩ = some (.bool false) := (blk_cell BK153.out 1).trans rfl
                  have hcz26_2 : w23.cell? ⟨gb153, 2, none⟩ = some (.string a2_2) := (blk_cell BK153.out 2).trans rfl
                  have hfz26_0 := blk_frozen BK153.out 0
                  have hfz26_1 := blk_frozen BK153.out 1
                  have hfz26_2 := blk_frozen BK153.out 2
                  go_wp2
                  repeat (go_quiet (fail); try go_wp2)
                  go_meet
                  case rel => exact ⟨_, (false), (by first | rfl | (simp; done) | (simp [*]; done)), H', ⟨by have := HJ5.out; have := HJ15.out; first | omega | exact Nat.le_refl _⟩, ⟨by (with_reducible repeat (first | refine blk_drewN ?_ _ | refine blk_drew ?_ | refine blk_alloc ?_ _)); exact BK153.out⟩, ⟨by repeat (first | (with_reducible first | exact HB.out | apply below_alloc | apply pw_below_drewN | apply below_drew1 | refine below_set ?_ GE153.out) | exact HB.out)⟩⟩
              case rest =>
                clear HC22
                try clear c1
                try clear c2
                try clear p2
                try clear c9
                try clear c15
                try clear c17
                try clear c17b0
                try clear c17b1
                try clear c20
                try clear c24
                try clear hcz12_0
                try clear hcz12_1
                try clear hcz12_2
                try clear hcz18_0
                try clear hcz18_1
                try clear hcz18_2
                try clear hcz19_0
                try clear hcz19_1
                try clear hcz19_2
                try clear hcz25_0
                try clear hcz25_1
                try clear hcz25_2
                try clear hcz26_0
                try clear hcz26_1
                try clear hcz26_2
                try clear hfz12_0
                try clear hfz12_1
                try clear hfz12_2
                try clear hfz18_0
                try clear hfz18_1
                try clear hfz18_2
                try clear hfz19_0
                try clear hfz19_1
                try clear hfz19_2
                try clear hfz25_0
                try clear hfz25_1
                try clear hfz25_2
                try clear hfz26_0
                try clear hfz26_1
                try clear hfz26_2
                try clear p2
                obtain ⟨kq, x43_21, rfl, HA, HJ21, BK153, HB⟩ := hcut
                cases kq with
                | zero => exact absurd HA.out (by simp [calamusref24_Put.j2])
                | succ kj21 =>
                  have H := HA.out
                  clear HA
                  simp only [calamusref24_Put.j2] at H
                  have HC27 := Aside0.mk H
                  clear H
                  go_upto_if 43 with (fail)
                  repeat (go_quiet (fail); go_upto_if 43 with (fail))
                  go_cut [14, 15] (fun v14 v15 wc => ∃ (kq : Nat) (x14_26 : Int) (x15_26 : ByteArray), v14 = .int .i64 x14_26 ∧ v15 = .string x15_26 ∧ Aside0 (calamusref24_Put.j3 kq a0 a3 t156 x14_26 x15_26 a2_0 a2_1 a2_2 = some (r1, r2, r3)) ∧ Aside0 (kq ≤ kj21) ∧ Aside0 (wc.heap[gb153]? = some (.cells #[.int .i64 a2_0, .bool a2_1, .string a2_2] 23 (0, 0))) ∧ Aside0 (Below w.heap.size w wc))
                  case first =>
                    have H := HC27.out
                    clear HC27
                    by_cases c28 : x43_21 = true
                    · subst c28
                      have H1 : ((calamusref04_Start.f a0 t156).bind fun t157 => ((calamusref24_rep.f kj21 a2_2 (⟨#[10]⟩ : ByteArray) a4).bind fun t158 => (if t158.size + 1 ≤ 9223372036854775807 then (calamusref24_Put.j3 kj21 a0 a3 t156 t157 (t158 ++ (⟨#[10]⟩ : ByteArray)) a2_0 a2_1 a2_2) else (none)))) = some (r1, r2, r3) := by rw [if_pos rfl] at H; exact H
                      clear H
                      have H := H1
                      clear H1
                      replace H := Option.bind_eq_some_iff.mp H
                      obtain ⟨t157, A290, H⟩ := H
                      replace H : ((calamusref24_rep.f kj21 a2_2 (⟨#[10]⟩ : ByteArray) a4).bind fun t158 => (if t158.size + 1 ≤ 9223372036854775807 then (calamusref24_Put.j3 kj21 a0 a3 t156 t157 (t158 ++ (⟨#[10]⟩ : ByteArray)) a2_0 a2_1 a2_2) else (none))) = some (r1, r2, r3) := H
                      have A29 := Aside0.mk A290
                      clear A290
                      replace H := Option.bind_eq_some_iff.mp H
                      obtain ⟨t158, A300, H⟩ := H
                      replace H : (if t158.size + 1 ≤ 9223372036854775807 then (calamusref24_Put.j3 kj21 a0 a3 t156 t157 (t158 ++ (⟨#[10]⟩ : ByteArray)) a2_0 a2_1 a2_2) else (none)) = some (r1, r2, r3) := H
                      have A30 := Aside0.mk A300
                      clear A300
                      by_cases c31 : t158.size + 1 ≤ 9223372036854775807
                      · rw [if_pos c31] at H
                        have c31b0 := eq_true c31
                        have c31b1 : decide (t158.size + 1 ≤ 9223372036854775807) = true := decide_eq_true c31
                        try have c31b2 : (9223372036854775807 < t158.size + 1) = False := eq_false (Nat.not_lt.2 c31)
                        have H' := Aside0.mk H
                        clear H
                        go_wp2_with (first | (go_at_call 33; (with_reducible refine (calamusref04_Start.calls a0 t156 t157 _ A29.out).mono ?_); rintro e w32 ⟨rfl, hb⟩; have n0_ := Aside0.mk (blk_below (g := gb153) (o := .cells #[.int .i64 a2_0, .bool a2_1, .string a2_2] 23 (0, 0)) (by (with_reducible repeat (first | refine blk_drewN ?_ _ | refine blk_drew ?_ | refine blk_alloc ?_ _)); exact BK153.out) hb); have n1_ := Aside0.mk (below_step (by repeat (first | (with_reducible first | exact HB.out | apply below_alloc | apply pw_below_drewN | apply below_drew1 | refine below_set ?_ GE153.out) | exact HB.out)) hb); clear BK153; clear HB; have BK153 := n0_; have HB := n1_; clear n0_ n1_; (try clear hb); (try clear hb2); (try clear hk); (try clear hi); have hcz33_0 : w32.cell? ⟨gb153, 0, none⟩ = some (.int .i64 a2_0) := (blk_cell BK153.out 0).trans rfl; have hcz33_1 : w32.cell? ⟨gb153, 1, none⟩ = some (.bool a2_1) := (blk_cell BK153.out 1).trans rfl; have hcz33_2 : w32.cell? ⟨gb153, 2, none⟩ = some (.string a2_2) := (blk_cell BK153.out 2).trans rfl; have hfz33_0 := blk_frozen BK153.out 0; have hfz33_1 := blk_frozen BK153.out 1; have hfz33_2 := blk_frozen BK153.out 2) | (go_at_call 34; (with_reducible refine (calamusref24_rep.calls kj21 a2_2 (⟨#[10]⟩ : ByteArray) a4 t158 _ A30.out).mono ?_); rintro e w' ⟨rfl, ⟨nd, rfl⟩⟩; (try first | exact ⟨rfl, _, World.drewN_drewN _ _ _⟩ | exact ⟨rfl, _, Eq.trans (World.drewN_drewN _ _ _) (congrArg (World.drewN _) (Nat.add_assoc _ _ _))⟩)))
                        repeat (go_quiet (first | (go_at_call 33; (with_reducible refine (calamusref04_Start.calls a0 t156 t157 _ A29.out).mono ?_); rintro e w32 ⟨rfl, hb⟩; have n0_ := Aside0.mk (blk_below (g := gb153) (o := .cells #[.int .i64 a2_0, .bool a2_1, .string a2_2] 23 (0, 0)) (by (with_reducible repeat (first | refine blk_drewN ?_ _ | refine blk_drew ?_ | refine blk_alloc ?_ _)); exact BK153.out) hb); have n1_ := Aside0.mk (below_step (by repeat (first | (with_reducible first | exact HB.out | apply below_alloc | apply pw_below_drewN | apply below_drew1 | refine below_set ?_ GE153.out) | exact HB.out)) hb); clear BK153; clear HB; have BK153 := n0_; have HB := n1_; clear n0_ n1_; (try clear hb); (try clear hb2); (try clear hk); (try clear hi); have hcz33_0 : w32.cell? ⟨gb153, 0, none⟩ = some (.int .i64 a2_0) := (blk_cell BK153.out 0).trans rfl; have hcz33_1 : w32.cell? ⟨gb153, 1, none⟩ = some (.bool a2_1) := (blk_cell BK153.out 1).trans rfl; have hcz33_2 : w32.cell? ⟨gb153, 2, none⟩ = some (.string a2_2) := (blk_cell BK153.out 2).trans rfl; have hfz33_0 := blk_frozen BK153.out 0; have hfz33_1 := blk_frozen BK153.out 1; have hfz33_2 := blk_frozen BK153.out 2) | (go_at_call 34; (with_reducible refine (calamusref24_rep.calls kj21 a2_2 (⟨#[10]⟩ : ByteArray) a4 t158 _ A30.out).mono ?_); rintro e w' ⟨rfl, ⟨nd, rfl⟩⟩; (try first | exact ⟨rfl, _, World.drewN_drewN _ _ _⟩ | exact ⟨rfl, _, Eq.trans (World.drewN_drewN _ _ _) (congrArg (World.drewN _) (Nat.add_assoc _ _ _))⟩))); try go_wp2_with (first | (go_at_call 33; (with_reducible refine (calamusref04_Start.calls a0 t156 t157 _ A29.out).mono ?_); rintro e w32 ⟨rfl, hb⟩; have n0_ := Aside0.mk (blk_below (g := gb153) (o := .cells #[.int .i64 a2_0, .bool a2_1, .string a2_2] 23 (0, 0)) (by (with_reducible repeat (first | refine blk_drewN ?_ _ | refine blk_drew ?_ | refine blk_alloc ?_ _)); exact BK153.out) hb); have n1_ := Aside0.mk (below_step (by repeat (first | (with_reducible first | exact HB.out | apply below_alloc | apply pw_below_drewN | apply below_drew1 | refine below_set ?_ GE153.out) | exact HB.out)) hb); clear BK153; clear HB; have BK153 := n0_; have HB := n1_; clear n0_ n1_; (try clear hb); (try clear hb2); (try clear hk); (try clear hi); have hcz33_0 : w32.cell? ⟨gb153, 0, none⟩ = some (.int .i64 a2_0) := (blk_cell BK153.out 0).trans rfl; have hcz33_1 : w32.cell? ⟨gb153, 1, none⟩ = some (.bool a2_1) := (blk_cell BK153.out 1).trans rfl; have hcz33_2 : w32.cell? ⟨gb153, 2, none⟩ = some (.string a2_2) := (blk_cell BK153.out 2).trans rfl; have hfz33_0 := blk_frozen BK153.out 0; have hfz33_1 := blk_frozen BK153.out 1; have hfz33_2 := blk_frozen BK153.out 2) | (go_at_call 34; (with_reducible refine (calamusref24_rep.calls kj21 a2_2 (⟨#[10]⟩ : ByteArray) a4 t158 _ A30.out).mono ?_); rintro e w' ⟨rfl, ⟨nd, rfl⟩⟩; (try first | exact ⟨rfl, _, World.drewN_drewN _ _ _⟩ | exact ⟨rfl, _, Eq.trans (World.drewN_drewN _ _ _) (congrArg (World.drewN _) (Nat.add_assoc _ _ _))⟩))))
                        go_meet
                        case rel => exact ⟨_, (t157), (t158 ++ (⟨#[10]⟩ : ByteArray)), (by first | rfl | (simp; done) | (simp [*]; done)), (by first | rfl | (simp; done) | (simp [*]; done)), H', ⟨by have := HJ5.out; have := HJ15.out; have := HJ21.out; first | omega | exact Nat.le_refl _⟩, ⟨by (with_reducible repeat (first | refine blk_drewN ?_ _ | refine blk_drew ?_ | refine blk_alloc ?_ _)); exact BK153.out⟩, ⟨by repeat (first | (with_reducible first | exact HB.out | apply below_alloc | apply pw_below_drewN | apply below_drew1 | refine below_set ?_ GE153.out) | exact HB.out)⟩⟩
                      · rw [if_neg c31] at H
                        exact absurd H (by simp)
                    · replace c28 := Bool.eq_false_iff.mpr c28
                      subst c28
                      have H1 : (if a2_1 = true then ((calamusref04_End.f a0 t156).bind fun t159 => ((calamusref24_rep.f kj21 a2_2 (⟨#[10]⟩ : ByteArray) a4).bind fun t160 => (if 1 + t160.size ≤ 9223372036854775807 then (calamusref24_Put.j3 kj21 a0 a3 t156 t159 ((⟨#[10]⟩ : ByteArray) ++ t160) a2_0 a2_1 a2_2) else (none)))) else ((calamusref24_rep.f kj21 a2_2 (⟨#[]⟩ : ByteArray) a4).bind fun t161 => (if a3 = true then (calamusref24_Put.j3 kj21 a0 a3 t156 a1 t161 a2_0 a2_1 a2_2) else ((calamusref24_stop.f a0 a1).bind fun t162 => (if t162 = true then (calamusref24_Put.j3 kj21 a0 a3 t156 a1 t161 a2_0 a2_1 a2_2) else ((calamusref03_Next.f a0 a1).bind fun t163 => (calamusref24_Put.j3 kj21 a0 a3 t156 t163 t161 a2_0 a2_1 a2_2))))))) = some (r1, r2, r3) := by rw [if_neg (show ¬ (false = true) by decide)] at H; exact H
                      clear H
                      have H := H1
                      clear H1
                      by_cases c34 : a2_1 = true
                      · subst c34
                        have H1 : ((calamusref04_End.f a0 t156).bind fun t159 => ((calamusref24_rep.f kj21 a2_2 (⟨#[10]⟩ : ByteArray) a4).bind fun t160 => (if 1 + t160.size ≤ 9223372036854775807 then (calamusref24_Put.j3 kj21 a0 a3 t156 t159 ((⟨#[10]⟩ : ByteArray) ++ t160) a2_0 true a2_2) else (none)))) = some (r1, r2, r3) := by rw [if_pos rfl] at H; exact H
                        clear H
                        have H := H1
                        clear H1
                        replace H := Option.bind_eq_some_iff.mp H
                        obtain ⟨t159, A350, H⟩ := H
                        replace H : ((calamusref24_rep.f kj21 a2_2 (⟨#[10]⟩ : ByteArray) a4).bind fun t160 => (if 1 + t160.size ≤ 9223372036854775807 then (calamusref24_Put.j3 kj21 a0 a3 t156 t159 ((⟨#[10]⟩ : ByteArray) ++ t160) a2_0 true a2_2) else (none))) = some (r1, r2, r3) := H
                        have A35 := Aside0.mk A350
                        clear A350
                        replace H := Option.bind_eq_some_iff.mp H
                        obtain ⟨t160, A360, H⟩ := H
                        replace H : (if 1 + t160.size ≤ 9223372036854775807 then (calamusref24_Put.j3 kj21 a0 a3 t156 t159 ((⟨#[10]⟩ : ByteArray) ++ t160) a2_0 true a2_2) else (none)) = some (r1, r2, r3) := H
                        have A36 := Aside0.mk A360
                        clear A360
                        by_cases c37 : 1 + t160.size ≤ 9223372036854775807
                        · rw [if_pos c37] at H
                          have c37b0 := eq_true c37
                          have c37b1 : decide (1 + t160.size ≤ 9223372036854775807) = true := decide_eq_true c37
                          try have c37b2 : (9223372036854775807 < 1 + t160.size) = False := eq_false (Nat.not_lt.2 c37)
                          have H' := Aside0.mk H
                          clear H
                          have hcz38_0 : wc.cell? ⟨gb153, 0, none⟩ = some (.int .i64 a2_0) := (blk_cell BK153.out 0).trans rfl
                          have hcz38_1 : wc.cell? ⟨gb153, 1, none⟩ = some (.bool true) := (blk_cell BK153.out 1).trans rfl
                          have hcz38_2 : wc.cell? ⟨gb153, 2, none⟩ = some (.string a2_2) := (blk_cell BK153.out 2).trans rfl
                          have hfz38_0 := blk_frozen BK153.out 0
                          have hfz38_1 := blk_frozen BK153.out 1
                          have hfz38_2 := blk_frozen BK153.out 2
                          go_wp2_with (first | (go_at_call 35; (with_reducible refine (calamusref04_End.calls a0 t156 t159 _ A35.out).mono ?_); rintro e w39 ⟨rfl, hb⟩; have n0_ := Aside0.mk (blk_below (g := gb153) (o := .cells #[.int .i64 a2_0, .bool true, .string a2_2] 23 (0, 0)) (by (with_reducible repeat (first | refine blk_drewN ?_ _ | refine blk_drew ?_ | refine blk_alloc ?_ _)); exact BK153.out) hb); have n1_ := Aside0.mk (below_step (by repeat (first | (with_reducible first | exact HB.out | apply below_alloc | apply pw_below_drewN | apply below_drew1 | refine below_set ?_ GE153.out) | exact HB.out)) hb); clear BK153; clear HB; have BK153 := n0_; have HB := n1_; clear n0_ n1_; (try clear hb); (try clear hb2); (try clear hk); (try clear hi); have hcz40_0 : w39.cell? ⟨gb153, 0, none⟩ = some (.int .i64 a2_0) := (blk_cell BK153.out 0).trans rfl; have hcz40_1 : w39.cell? ⟨gb153, 1, none⟩ = some (.bool true) := (blk_cell BK153.out 1).trans rfl; have hcz40_2 : w39.cell? ⟨gb153, 2, none⟩ = some (.string a2_2) := (blk_cell BK153.out 2).trans rfl; have hfz40_0 := blk_frozen BK153.out 0; have hfz40_1 := blk_frozen BK153.out 1; have hfz40_2 := blk_frozen BK153.out 2) | (go_at_call 34; (with_reducible refine (calamusref24_rep.calls kj21 a2_2 (⟨#[10]⟩ : ByteArray) a4 t160 _ A36.out).mono ?_); rintro e w' ⟨rfl, ⟨nd, rfl⟩⟩; (try first | exact ⟨rfl, _, World.drewN_drewN _ _ _⟩ | exact ⟨rfl, _, Eq.trans (World.drewN_drewN _ _ _) (congrArg (World.drewN _) (Nat.add_assoc _ _ _))⟩)))
                          repeat (go_quiet (first | (go_at_call 35; (with_reducible refine (calamusref04_End.calls a0 t156 t159 _ A35.out).mono ?_); rintro e w39 ⟨rfl, hb⟩; have n0_ := Aside0.mk (blk_below (g := gb153) (o := .cells #[.int .i64 a2_0, .bool true, .string a2_2] 23 (0, 0)) (by (with_reducible repeat (first | refine blk_drewN ?_ _ | refine blk_drew ?_ | refine blk_alloc ?_ _)); exact BK153.out) hb); have n1_ := Aside0.mk (below_step (by repeat (first | (with_reducible first | exact HB.out | apply below_alloc | apply pw_below_drewN | apply below_drew1 | refine below_set ?_ GE153.out) | exact HB.out)) hb); clear BK153; clear HB; have BK153 := n0_; have HB := n1_; clear n0_ n1_; (try clear hb); (try clear hb2); (try clear hk); (try clear hi); have hcz40_0 : w39.cell? ⟨gb153, 0, none⟩ = some (.int .i64 a2_0) := (blk_cell BK153.out 0).trans rfl; have hcz40_1 : w39.cell? ⟨gb153, 1, none⟩ = some (.bool true) := (blk_cell BK153.out 1).trans rfl; have hcz40_2 : w39.cell? ⟨gb153, 2, none⟩ = some (.string a2_2) := (blk_cell BK153.out 2).trans rfl; have hfz40_0 := blk_frozen BK153.out 0; have hfz40_1 := blk_frozen BK153.out 1; have hfz40_2 := blk_frozen BK153.out 2) | (go_at_call 34; (with_reducible refine (calamusref24_rep.calls kj21 a2_2 (⟨#[10]⟩ : ByteArray) a4 t160 _ A36.out).mono ?_); rintro e w' ⟨rfl, ⟨nd, rfl⟩⟩; (try first | exact ⟨rfl, _, World.drewN_drewN _ _ _⟩ | exact ⟨rfl, _, Eq.trans (World.drewN_drewN _ _ _) (congrArg (World.drewN _) (Nat.add_assoc _ _ _))⟩))); try go_wp2_with (first | (go_at_call 35; (with_reducible refine (calamusref04_End.calls a0 t156 t159 _ A35.out).mono ?_); rintro e w39 ⟨rfl, hb⟩; have n0_ := Aside0.mk (blk_below (g := gb153) (o := .cells #[.int .i64 a2_0, .bool true, .string a2_2] 23 (0, 0)) (by (with_reducible repeat (first | refine blk_drewN ?_ _ | refine blk_drew ?_ | refine blk_alloc ?_ _)); exact BK153.out) hb); have n1_ := Aside0.mk (below_step (by repeat (first | (with_reducible first | exact HB.out | apply below_alloc | apply pw_below_drewN | apply below_drew1 | refine below_set ?_ GE153.out) | exact HB.out)) hb); clear BK153; clear HB; have BK153 := n0_; have HB := n1_; clear n0_ n1_; (try clear hb); (try clear hb2); (try clear hk); (try clear hi); have hcz40_0 : w39.cell? ⟨gb153, 0, none⟩ = some (.int .i64 a2_0) := (blk_cell BK153.out 0).trans rfl; have hcz40_1 : w39.cell? ⟨gb153, 1, none⟩ = some (.bool true) := (blk_cell BK153.out 1).trans rfl; have hcz40_2 : w39.cell? ⟨gb153, 2, none⟩ = some (.string a2_2) := (blk_cell BK153.out 2).trans rfl; have hfz40_0 := blk_frozen BK153.out 0; have hfz40_1 := blk_frozen BK153.out 1; have hfz40_2 := blk_frozen BK153.out 2) | (go_at_call 34; (with_reducible refine (calamusref24_rep.calls kj21 a2_2 (⟨#[10]⟩ : ByteArray) a4 t160 _ A36.out).mono ?_); rintro e w' ⟨rfl, ⟨nd, rfl⟩⟩; (try first | exact ⟨rfl, _, World.drewN_drewN _ _ _⟩ | exact ⟨rfl, _, Eq.trans (World.drewN_drewN _ _ _) (congrArg (World.drewN _) (Nat.add_assoc _ _ _))⟩))))
                          go_meet
                          case rel => exact ⟨_, (t159), ((⟨#[10]⟩ : ByteArray) ++ t160), (by first | rfl | (simp; done) | (simp [*]; done)), (by first | rfl | (simp; done) | (simp [*]; done)), H', ⟨by have := HJ5.out; have := HJ15.out; have := HJ21.out; first | omega | exact Nat.le_refl _⟩, ⟨by (with_reducible repeat (first | refine blk_drewN ?_ _ | refine blk_drew ?_ | refine blk_alloc ?_ _)); exact BK153.out⟩, ⟨by repeat (first | (with_reducible first | exact HB.out | apply below_alloc | apply pw_below_drewN | apply below_drew1 | refine below_set ?_ GE153.out) | exact HB.out)⟩⟩
                        · rw [if_neg c37] at H
                          exact absurd H (by simp)
                      · replace c34 := Bool.eq_false_iff.mpr c34
                        subst c34
                        have H1 : ((calamusref24_rep.f kj21 a2_2 (⟨#[]⟩ : ByteArray) a4).bind fun t161 => (if a3 = true then (calamusref24_Put.j3 kj21 a0 a3 t156 a1 t161 a2_0 false a2_2) else ((calamusref24_stop.f a0 a1).bind fun t162 => (if t162 = true then (calamusref24_Put.j3 kj21 a0 a3 t156 a1 t161 a2_0 false a2_2) else ((calamusref03_Next.f a0 a1).bind fun t163 => (calamusref24_Put.j3 kj21 a0 a3 t156 t163 t161 a2_0 false a2_2)))))) = some (r1, r2, r3) := by rw [if_neg (show ¬ (false = true) by decide)] at H; exact H
                        clear H
                        have H := H1
                        clear H1
                        replace H := Option.bind_eq_some_iff.mp H
                        obtain ⟨t161, A410, H⟩ := H
                        replace H : (if a3 = true then (calamusref24_Put.j3 kj21 a0 a3 t156 a1 t161 a2_0 false a2_2) else ((calamusref24_stop.f a0 a1).bind fun t162 => (if t162 = true then (calamusref24_Put.j3 kj21 a0 a3 t156 a1 t161 a2_0 false a2_2) else ((calamusref03_Next.f a0 a1).bind fun t163 => (calamusref24_Put.j3 kj21 a0 a3 t156 t163 t161 a2_0 false a2_2))))) = some (r1, r2, r3) := H
                        have A41 := Aside0.mk A410
                        clear A410
                        by_cases c42 : a3 = true
                        · subst c42
                          have H1 : (calamusref24_Put.j3 kj21 a0 true t156 a1 t161 a2_0 false a2_2) = some (r1, r2, r3) := by rw [if_pos rfl] at H; exact H
                          clear H
                          have H := H1
                          clear H1
                          have H' := Aside0.mk H
                          clear H
                          have hcz43_0 : wc.cell? ⟨gb153, 0, none⟩ = some (.int .i64 a2_0) := (blk_cell BK153.out 0).trans rfl
                          have hcz43_1 : wc.cell? ⟨gb153, 1, none⟩ = some (.bool false) := (blk_cell BK153.out 1).trans rfl
                          have hcz43_2 : wc.cell? ⟨gb153, 2, none⟩ = some (.string a2_2) := (blk_cell BK153.out 2).trans rfl
                          have hfz43_0 := blk_frozen BK153.out 0
                          have hfz43_1 := blk_frozen BK153.out 1
                          have hfz43_2 := blk_frozen BK153.out 2
                          go_wp2_with (first | (go_at_call 34; (with_reducible refine (calamusref24_rep.calls kj21 a2_2 (⟨#[]⟩ : ByteArray) a4 t161 _ A41.out).mono ?_); rintro e w' ⟨rfl, ⟨nd, rfl⟩⟩; (try first | exact ⟨rfl, _, World.drewN_drewN _ _ _⟩ | exact ⟨rfl, _, Eq.trans (World.drewN_drewN _ _ _) (congrArg (World.drewN _) (Nat.add_assoc _ _ _))⟩)))
                          repeat (go_quiet (first | (go_at_call 34; (with_reducible refine (calamusref24_rep.calls kj21 a2_2 (⟨#[]⟩ : ByteArray) a4 t161 _ A41.out).mono ?_); rintro e w' ⟨rfl, ⟨nd, rfl⟩⟩; (try first | exact ⟨rfl, _, World.drewN_drewN _ _ _⟩ | exact ⟨rfl, _, Eq.trans (World.drewN_drewN _ _ _) (congrArg (World.drewN _) (Nat.add_assoc _ _ _))⟩))); try go_wp2_with (first | (go_at_call 34; (with_reducible refine (calamusref24_rep.calls kj21 a2_2 (⟨#[]⟩ : ByteArray) a4 t161 _ A41.out).mono ?_); rintro e w' ⟨rfl, ⟨nd, rfl⟩⟩; (try first | exact ⟨rfl, _, World.drewN_drewN _ _ _⟩ | exact ⟨rfl, _, Eq.trans (World.drewN_drewN _ _ _) (congrArg (World.drewN _) (Nat.add_assoc _ _ _))⟩))))
                          go_meet
                          case rel => exact ⟨_, (a1), (t161), (by first | rfl | (simp; done) | (simp [*]; done)), (by first | rfl | (simp; done) | (simp [*]; done)), H', ⟨by have := HJ5.out; have := HJ15.out; have := HJ21.out; first | omega | exact Nat.le_refl _⟩, ⟨by (with_reducible repeat (first | refine blk_drewN ?_ _ | refine blk_drew ?_ | refine blk_alloc ?_ _)); exact BK153.out⟩, ⟨by repeat (first | (with_reducible first | exact HB.out | apply below_alloc | apply pw_below_drewN | apply below_drew1 | refine below_set ?_ GE153.out) | exact HB.out)⟩⟩
                        · replace c42 := Bool.eq_false_iff.mpr c42
                          subst c42
                          have H1 : ((calamusref24_stop.f a0 a1).bind fun t162 => (if t162 = true then (calamusref24_Put.j3 kj21 a0 false t156 a1 t161 a2_0 false a2_2) else ((calamusref03_Next.f a0 a1).bind fun t163 => (calamusref24_Put.j3 kj21 a0 false t156 t163 t161 a2_0 false a2_2)))) = some (r1, r2, r3) := by rw [if_neg (show ¬ (false = true) by decide)] at H; exact H
                          clear H
                          have H := H1
                          clear H1
                          replace H := Option.bind_eq_some_iff.mp H
                          obtain ⟨t162, A440, H⟩ := H
                          replace H : (if t162 = true then (calamusref24_Put.j3 kj21 a0 false t156 a1 t161 a2_0 false a2_2) else ((calamusref03_Next.f a0 a1).bind fun t163 => (calamusref24_Put.j3 kj21 a0 false t156 t163 t161 a2_0 false a2_2))) = some (r1, r2, r3) := H
                          have A44 := Aside0.mk A440
                          clear A440
                          by_cases c45 : t162 = true
                          · subst c45
                            have H1 : (calamusref24_Put.j3 kj21 a0 false t156 a1 t161 a2_0 false a2_2) = some (r1, r2, r3) := by rw [if_pos rfl] at H; exact H
                            clear H
                            have H := H1
                            clear H1
                            have H' := Aside0.mk H
                            clear H
                            have hcz46_0 : wc.cell? ⟨gb153, 0, none⟩ = some (.int .i64 a2_0) := (blk_cell BK153.out 0).trans rfl
                            have hcz46_1 : wc.cell? ⟨gb153, 1, none⟩ = some (.bool false) := (blk_cell BK153.out 1).trans rfl
                            have hcz46_2 : wc.cell? ⟨gb153, 2, none⟩ = some (.string a2_2) := (blk_cell BK153.out 2).trans rfl
                            have hfz46_0 := blk_frozen BK153.out 0
                            have hfz46_1 := blk_frozen BK153.out 1
                            have hfz46_2 := blk_frozen BK153.out 2
                            go_wp2_with (first | (go_at_call 34; (with_reducible refine (calamusref24_rep.calls kj21 a2_2 (⟨#[]⟩ : ByteArray) a4 t161 _ A41.out).mono ?_); rintro e w' ⟨rfl, ⟨nd, rfl⟩⟩; (try first | exact ⟨rfl, _, World.drewN_drewN _ _ _⟩ | exact ⟨rfl, _, Eq.trans (World.drewN_drewN _ _ _) (congrArg (World.drewN _) (Nat.add_assoc _ _ _))⟩)) | (go_at_call 36; (with_reducible refine (calamusref24_stop.calls a0 a1 true _ A44.out).mono ?_); rintro e w47 ⟨rfl, hb⟩; have n0_ := Aside0.mk (blk_below (g := gb153) (o := .cells #[.int .i64 a2_0, .bool false, .string a2_2] 23 (0, 0)) (by (with_reducible repeat (first | refine blk_drewN ?_ _ | refine blk_drew ?_ | refine blk_alloc ?_ _)); exact BK153.out) hb); have n1_ := Aside0.mk (below_step (by repeat (first | (with_reducible first | exact HB.out | apply below_alloc | apply pw_below_drewN | apply below_drew1 | refine below_set ?_ GE153.out) | exact HB.out)) hb); clear BK153; clear HB; have BK153 := n0_; have HB := n1_; clear n0_ n1_; (try clear hb); (try clear hb2); (try clear hk); (try clear hi)))
                            repeat (go_quiet (first | (go_at_call 34; (with_reducible refine (calamusref24_rep.calls kj21 a2_2 (⟨#[]⟩ : ByteArray) a4 t161 _ A41.out).mono ?_); rintro e w' ⟨rfl, ⟨nd, rfl⟩⟩; (try first | exact ⟨rfl, _, World.drewN_drewN _ _ _⟩ | exact ⟨rfl, _, Eq.trans (World.drewN_drewN _ _ _) (congrArg (World.drewN _) (Nat.add_assoc _ _ _))⟩)) | (go_at_call 36; (with_reducible refine (calamusref24_stop.calls a0 a1 true _ A44.out).mono ?_); rintro e w47 ⟨rfl, hb⟩; have n0_ := Aside0.mk (blk_below (g := gb153) (o := .cells #[.int .i64 a2_0, .bool false, .string a2_2] 23 (0, 0)) (by (with_reducible repeat (first | refine blk_drewN ?_ _ | refine blk_drew ?_ | refine blk_alloc ?_ _)); exact BK153.out) hb); have n1_ := Aside0.mk (below_step (by repeat (first | (with_reducible first | exact HB.out | apply below_alloc | apply pw_below_drewN | apply below_drew1 | refine below_set ?_ GE153.out) | exact HB.out)) hb); clear BK153; clear HB; have BK153 := n0_; have HB := n1_; clear n0_ n1_; (try clear hb); (try clear hb2); (try clear hk); (try clear hi))); try go_wp2_with (first | (go_at_call 34; (with_reducible refine (calamusref24_rep.calls kj21 a2_2 (⟨#[]⟩ : ByteArray) a4 t161 _ A41.out).mono ?_); rintro e w' ⟨rfl, ⟨nd, rfl⟩⟩; (try first | exact ⟨rfl, _, World.drewN_drewN _ _ _⟩ | exact ⟨rfl, _, Eq.trans (World.drewN_drewN _ _ _) (congrArg (World.drewN _) (Nat.add_assoc _ _ _))⟩)) | (go_at_call 36; (with_reducible refine (calamusref24_stop.calls a0 a1 true _ A44.out).mono ?_); rintro e w47 ⟨rfl, hb⟩; have n0_ := Aside0.mk (blk_below (g := gb153) (o := .cells #[.int .i64 a2_0, .bool false, .string a2_2] 23 (0, 0)) (by (with_reducible repeat (first | refine blk_drewN ?_ _ | refine blk_drew ?_ | refine blk_alloc ?_ _)); exact BK153.out) hb); have n1_ := Aside0.mk (below_step (by repeat (first | (with_reducible first | exact HB.out | apply below_alloc | apply pw_below_drewN | apply below_drew1 | refine below_set ?_ GE153.out) | exact HB.out)) hb); clear BK153; clear HB; have BK153 := n0_; have HB := n1_; clear n0_ n1_; (try clear hb); (try clear hb2); (try clear hk); (try clear hi))))
                            go_meet
                            case rel => exact ⟨_, (a1), (t161), (by first | rfl | (simp; done) | (simp [*]; done)), (by first | rfl | (simp; done) | (simp [*]; done)), H', ⟨by have := HJ5.out; have := HJ15.out; have := HJ21.out; first | omega | exact Nat.le_refl _⟩, ⟨by (with_reducible repeat (first | refine blk_drewN ?_ _ | refine blk_drew ?_ | refine blk_alloc ?_ _)); exact BK153.out⟩, ⟨by repeat (first | (with_reducible first | exact HB.out | apply below_alloc | apply pw_below_drewN | apply below_drew1 | refine below_set ?_ GE153.out) | exact HB.out)⟩⟩
                          · replace c45 := Bool.eq_false_iff.mpr c45
                            subst c45
                            have H1 : ((calamusref03_Next.f a0 a1).bind fun t163 => (calamusref24_Put.j3 kj21 a0 false t156 t163 t161 a2_0 false a2_2)) = some (r1, r2, r3) := by rw [if_neg (show ¬ (false = true) by decide)] at H; exact H
                            clear H
                            have H := H1
                            clear H1
                            replace H := Option.bind_eq_some_iff.mp H
                            obtain ⟨t163, A480, H⟩ := H
                            replace H : (calamusref24_Put.j3 kj21 a0 false t156 t163 t161 a2_0 false a2_2) = some (r1, r2, r3) := H
                            have A48 := Aside0.mk A480
                            clear A480
                            have H' := Aside0.mk H
                            clear H
                            have hcz49_0 : wc.cell? ⟨gb153, 0, none⟩ = some (.int .i64 a2_0) := (blk_cell BK153.out 0).trans rfl
                            have hcz49_1 : wc.cell? ⟨gb153, 1, none⟩ = some (.bool false) := (blk_cell BK153.out 1).trans rfl
                            have hcz49_2 : wc.cell? ⟨gb153, 2, none⟩ = some (.string a2_2) := (blk_cell BK153.out 2).trans rfl
                            have hfz49_0 := blk_frozen BK153.out 0
                            have hfz49_1 := blk_frozen BK153.out 1
                            have hfz49_2 := blk_frozen BK153.out 2
                            go_wp2_with (first | (go_at_call 34; (with_reducible refine (calamusref24_rep.calls kj21 a2_2 (⟨#[]⟩ : ByteArray) a4 t161 _ A41.out).mono ?_); rintro e w' ⟨rfl, ⟨nd, rfl⟩⟩; (try first | exact ⟨rfl, _, World.drewN_drewN _ _ _⟩ | exact ⟨rfl, _, Eq.trans (World.drewN_drewN _ _ _) (congrArg (World.drewN _) (Nat.add_assoc _ _ _))⟩)) | (go_at_call 36; (with_reducible refine (calamusref24_stop.calls a0 a1 false _ A44.out).mono ?_); rintro e w50 ⟨rfl, hb⟩; have n0_ := Aside0.mk (blk_below (g := gb153) (o := .cells #[.int .i64 a2_0, .bool false, .string a2_2] 23 (0, 0)) (by (with_reducible repeat (first | refine blk_drewN ?_ _ | refine blk_drew ?_ | refine blk_alloc ?_ _)); exact BK153.out) hb); have n1_ := Aside0.mk (below_step (by repeat (first | (with_reducible first | exact HB.out | apply below_alloc | apply pw_below_drewN | apply below_drew1 | refine below_set ?_ GE153.out) | exact HB.out)) hb); clear BK153; clear HB; have BK153 := n0_; have HB := n1_; clear n0_ n1_; (try clear hb); (try clear hb2); (try clear hk); (try clear hi)) | (go_at_call 37; (with_reducible refine (calamusref03_Next.calls a0 a1 t163 _ A48.out).mono ?_); rintro e w51 ⟨rfl, hb⟩; have n0_ := Aside0.mk (blk_below (g := gb153) (o := .cells #[.int .i64 a2_0, .bool false, .string a2_2] 23 (0, 0)) (by (with_reducible repeat (first | refine blk_drewN ?_ _ | refine blk_drew ?_ | refine blk_alloc ?_ _)); exact BK153.out) hb); have n1_ := Aside0.mk (below_step (by repeat (first | (with_reducible first | exact HB.out | apply below_alloc | apply pw_below_drewN | apply below_drew1 | refine below_set ?_ GE153.out) | exact HB.out)) hb); clear BK153; clear HB; have BK153 := n0_; have HB := n1_; clear n0_ n1_; (try clear hb); (try clear hb2); (try clear hk); (try clear hi)))
                            repeat (go_quiet (first | (go_at_call 34; (with_reducible refine (calamusref24_rep.calls kj21 a2_2 (⟨#[]⟩ : ByteArray) a4 t161 _ A41.out).mono ?_); rintro e w' ⟨rfl, ⟨nd, rfl⟩⟩; (try first | exact ⟨rfl, _, World.drewN_drewN _ _ _⟩ | exact ⟨rfl, _, Eq.trans (World.drewN_drewN _ _ _) (congrArg (World.drewN _) (Nat.add_assoc _ _ _))⟩)) | (go_at_call 36; (with_reducible refine (calamusref24_stop.calls a0 a1 false _ A44.out).mono ?_); rintro e w50 ⟨rfl, hb⟩; have n0_ := Aside0.mk (blk_below (g := gb153) (o := .cells #[.int .i64 a2_0, .bool false, .string a2_2] 23 (0, 0)) (by (with_reducible repeat (first | refine blk_drewN ?_ _ | refine blk_drew ?_ | refine blk_alloc ?_ _)); exact BK153.out) hb); have n1_ := Aside0.mk (below_step (by repeat (first | (with_reducible first | exact HB.out | apply below_alloc | apply pw_below_drewN | apply below_drew1 | refine below_set ?_ GE153.out) | exact HB.out)) hb); clear BK153; clear HB; have BK153 := n0_; have HB := n1_; clear n0_ n1_; (try clear hb); (try clear hb2); (try clear hk); (try clear hi)) | (go_at_call 37; (with_reducible refine (calamusref03_Next.calls a0 a1 t163 _ A48.out).mono ?_); rintro e w51 ⟨rfl, hb⟩; have n0_ := Aside0.mk (blk_below (g := gb153) (o := .cells #[.int .i64 a2_0, .bool false, .string a2_2] 23 (0, 0)) (by (with_reducible repeat (first | refine blk_drewN ?_ _ | refine blk_drew ?_ | refine blk_alloc ?_ _)); exact BK153.out) hb); have n1_ := Aside0.mk (below_step (by repeat (first | (with_reducible first | exact HB.out | apply below_alloc | apply pw_below_drewN | apply below_drew1 | refine below_set ?_ GE153.out) | exact HB.out)) hb); clear BK153; clear HB; have BK153 := n0_; have HB := n1_; clear n0_ n1_; (try clear hb); (try clear hb2); (try clear hk); (try clear hi))); try go_wp2_with (first | (go_at_call 34; (with_reducible refine (calamusref24_rep.calls kj21 a2_2 (⟨#[]⟩ : ByteArray) a4 t161 _ A41.out).mono ?_); rintro e w' ⟨rfl, ⟨nd, rfl⟩⟩; (try first | exact ⟨rfl, _, World.drewN_drewN _ _ _⟩ | exact ⟨rfl, _, Eq.trans (World.drewN_drewN _ _ _) (congrArg (World.drewN _) (Nat.add_assoc _ _ _))⟩)) | (go_at_call 36; (with_reducible refine (calamusref24_stop.calls a0 a1 false _ A44.out).mono ?_); rintro e w50 ⟨rfl, hb⟩; have n0_ := Aside0.mk (blk_below (g := gb153) (o := .cells #[.int .i64 a2_0, .bool false, .string a2_2] 23 (0, 0)) (by (with_reducible repeat (first | refine blk_drewN ?_ _ | refine blk_drew ?_ | refine blk_alloc ?_ _)); exact BK153.out) hb); have n1_ := Aside0.mk (below_step (by repeat (first | (with_reducible first | exact HB.out | apply below_alloc | apply pw_below_drewN | apply below_drew1 | refine below_set ?_ GE153.out) | exact HB.out)) hb); clear BK153; clear HB; have BK153 := n0_; have HB := n1_; clear n0_ n1_; (try clear hb); (try clear hb2); (try clear hk); (try clear hi)) | (go_at_call 37; (with_reducible refine (calamusref03_Next.calls a0 a1 t163 _ A48.out).mono ?_); rintro e w51 ⟨rfl, hb⟩; have n0_ := Aside0.mk (blk_below (g := gb153) (o := .cells #[.int .i64 a2_0, .bool false, .string a2_2] 23 (0, 0)) (by (with_reducible repeat (first | refine blk_drewN ?_ _ | refine blk_drew ?_ | refine blk_alloc ?_ _)); exact BK153.out) hb); have n1_ := Aside0.mk (below_step (by repeat (first | (with_reducible first | exact HB.out | apply below_alloc | apply pw_below_drewN | apply below_drew1 | refine below_set ?_ GE153.out) | exact HB.out)) hb); clear BK153; clear HB; have BK153 := n0_; have HB := n1_; clear n0_ n1_; (try clear hb); (try clear hb2); (try clear hk); (try clear hi))))
                            go_meet
                            case rel => exact ⟨_, (t163), (t161), (by first | rfl | (simp; done) | (simp [*]; done)), (by first | rfl | (simp; done) | (simp [*]; done)), H', ⟨by have := HJ5.out; have := HJ15.out; have := HJ21.out; first | omega | exact Nat.le_refl _⟩, ⟨by (with_reducible repeat (first | refine blk_drewN ?_ _ | refine blk_drew ?_ | refine blk_alloc ?_ _)); exact BK153.out⟩, ⟨by repeat (first | (with_reducible first | exact HB.out | apply below_alloc | apply pw_below_drewN | apply below_drew1 | refine below_set ?_ GE153.out) | exact HB.out)⟩⟩
                  case rest =>
                    clear HC27
                    try clear c1
                    try clear c2
                    try clear p2
                    try clear c3
                    try clear c4
                    try clear c9
                    try clear c15
                    try clear c17
                    try clear c17b0
                    try clear c17b1
                    try clear c20
                    try clear c24
                    try clear c28
                    try clear c31
                    try clear c31b0
                    try clear c31b1
                    try clear c31b2
                    try clear c34
                    try clear c37
                    try clear c37b0
                    try clear c37b1
                    try clear c37b2
                    try clear c42
                    try clear c45
                    try clear hcz12_0
                    try clear hcz12_1
                    try clear hcz12_2
                    try clear hcz18_0
                    try clear hcz18_1
                    try clear hcz18_2
                    try clear hcz19_0
                    try clear hcz19_1
                    try clear hcz19_2
                    try clear hcz25_0
                    try clear hcz25_1
                    try clear hcz25_2
                    try clear hcz26_0
                    try clear hcz26_1
                    try clear hcz26_2
                    try clear hcz33_0
                    try clear hcz33_1
                    try clear hcz33_2
                    try clear hcz38_0
                    try clear hcz38_1
                    try clear hcz38_2
                    try clear hcz40_0
                    try clear hcz40_1
                    try clear hcz40_2
                    try clear hcz43_0
                    try clear hcz43_1
                    try clear hcz43_2
                    try clear hcz46_0
                    try clear hcz46_1
                    try clear hcz46_2
                    try clear hcz49_0
                    try clear hcz49_1
                    try clear hcz49_2
                    try clear hfz12_0
                    try clear hfz12_1
                    try clear hfz12_2
                    try clear hfz18_0
                    try clear hfz18_1
                    try clear hfz18_2
                    try clear hfz19_0
                    try clear hfz19_1
                    try clear hfz19_2
                    try clear hfz25_0
                    try clear hfz25_1
                    try clear hfz25_2
                    try clear hfz26_0
                    try clear hfz26_1
                    try clear hfz26_2
                    try clear hfz33_0
                    try clear hfz33_1
                    try clear hfz33_2
                    try clear hfz38_0
                    try clear hfz38_1
                    try clear hfz38_2
                    try clear hfz40_0
                    try clear hfz40_1
                    try clear hfz40_2
                    try clear hfz43_0
                    try clear hfz43_1
                    try clear hfz43_2
                    try clear hfz46_0
                    try clear hfz46_1
                    try clear hfz46_2
                    try clear hfz49_0
                    try clear hfz49_1
                    try clear hfz49_2
                    try clear p2
                    obtain ⟨kq, x14_26, x15_26, rfl, rfl, HA, HJ26, BK153, HB⟩ := hcut
                    cases kq with
                    | zero => exact absurd HA.out (by simp [calamusref24_Put.j3])
                    | succ kj26 =>
                      have H := HA.out
                      clear HA
                      simp only [calamusref24_Put.j3] at H
                      by_cases c52 : 0 ≤ x14_26
                      · rw [if_pos c52] at H
                        have c52b0 := eq_true c52
                        have c52b1 : decide (0 ≤ x14_26) = true := decide_eq_true c52
                        clear c52
                        by_cases c53 : x14_26 ≤ (a0.size : Int)
                        · rw [if_pos c53] at H
                          have c53b0 := eq_true c53
                          have c53b1 : decide (x14_26 ≤ (a0.size : Int)) = true := decide_eq_true c53
                          clear c53
                          by_cases c54 : (a0.extract 0 (x14_26 : Int).toNat).size + x15_26.size ≤ 9223372036854775807
                          · rw [if_pos c54] at H
                            have c54b0 := eq_true c54
                            have c54b1 : decide ((a0.extract 0 (x14_26 : Int).toNat).size + x15_26.size ≤ 9223372036854775807) = true := decide_eq_true c54
                            try have c54b2 : (9223372036854775807 < (a0.extract 0 (x14_26 : Int).toNat).size + x15_26.size) = False := eq_false (Nat.not_lt.2 c54)
                            have c55b0 := eq_true (of_decide_eq_true (by first | (with_reducible assumption) | assumption) : 0 ≤ x14_26)
                            have c56b0 := eq_true (of_decide_eq_true (by first | (with_reducible assumption) | assumption) : x14_26 ≤ (a0.size : Int))
                            by_cases c57 : ((a0.extract 0 (x14_26 : Int).toNat) ++ x15_26).size + (a0.extract (x14_26 : Int).toNat a0.size).size ≤ 9223372036854775807
                            · rw [if_pos c57] at H
                              have c57b0 := eq_true c57
                              have c57b1 : decide (((a0.extract 0 (x14_26 : Int).toNat) ++ x15_26).size + (a0.extract (x14_26 : Int).toNat a0.size).size ≤ 9223372036854775807) = true := decide_eq_true c57
                              try have c57b2 : (9223372036854775807 < ((a0.extract 0 (x14_26 : Int).toNat) ++ x15_26).size + (a0.extract (x14_26 : Int).toNat a0.size).size) = False := eq_false (Nat.not_lt.2 c57)
                              by_cases c58 : ((((a0.extract 0 (x14_26 : Int).toNat) ++ x15_26) ++ (a0.extract (x14_26 : Int).toNat a0.size)).size : Int) > 4096
                              · rw [if_pos c58] at H
                                have c58b0 : decide (4096 < ((((a0.extract 0 (x14_26 : Int).toNat) ++ x15_26) ++ (a0.extract (x14_26 : Int).toNat a0.size)).size : Int)) = true := decide_eq_true c58
                                have c58b1 : decide (4096 < (((a0.extract 0 (x14_26 : Int).toNat) ++ x15_26) ++ (a0.extract (x14_26 : Int).toNat a0.size)).size) = true := decide_eq_true (by omega)
                                have c58e : ((((a0.extract 0 (x14_26 : Int).toNat) ++ x15_26) ++ (a0.extract (x14_26 : Int).toNat a0.size)).size : Int) = max x14_26 0 + (x15_26.size : Int) + ((a0.size - x14_26.toNat : Nat) : Int) := by
                                  simp only [ByteArray.size_append, ByteArray.size_extract] at *; simp only [eq_iff_iff, iff_true, decide_eq_true_eq] at *; omega
                                have c58b2 := c58b0
                                rw [c58e] at c58b2
                                clear c58e
                                clear c58
                                simp only [Option.some.injEq, Prod.mk.injEq] at H
                                obtain ⟨rfl, rfl, rfl⟩ := H
                                go_wp2
                                repeat (go_quiet (fail); try go_wp2)
                                go_ret3
                                exact ⟨by first | rfl | (simp [errW_none, errW_some] <;> rfl) | (simp [*, errW_none, errW_some] <;> rfl), by repeat (first | (with_reducible first | exact HB.out | apply below_alloc | apply pw_below_drewN | apply below_drew1 | refine below_set ?_ GE153.out) | exact HB.out)⟩
                              · rw [if_neg c58] at H
                                have c58b0 : decide (4096 < ((((a0.extract 0 (x14_26 : Int).toNat) ++ x15_26) ++ (a0.extract (x14_26 : Int).toNat a0.size)).size : Int)) = false := decide_eq_false c58
                                have c58b1 : decide (4096 < (((a0.extract 0 (x14_26 : Int).toNat) ++ x15_26) ++ (a0.extract (x14_26 : Int).toNat a0.size)).size) = false := decide_eq_false (by omega)
                                have c58e : ((((a0.extract 0 (x14_26 : Int).toNat) ++ x15_26) ++ (a0.extract (x14_26 : Int).toNat a0.size)).size : Int) = max x14_26 0 + (x15_26.size : Int) + ((a0.size - x14_26.toNat : Nat) : Int) := by
                                  simp only [ByteArray.size_append, ByteArray.size_extract] at *; simp only [eq_iff_iff, iff_true, decide_eq_true_eq] at *; omega
                                have c58b2 := c58b0
                                rw [c58e] at c58b2
                                clear c58e
                                clear c58
                                have HC59 := Aside0.mk H
                                clear H
                                go_upto_region 19 with (fail)
                                repeat (go_quiet (fail); go_upto_region 19 with (fail))
                                go_cut [93] (fun v93 wc => ∃ (kq : Nat) (x93_58 : Bool), v93 = .bool x93_58 ∧ Aside0 (calamusref24_Put.j4 kq t156 x14_26 x15_26 (((a0.extract 0 (x14_26 : Int).toNat) ++ x15_26) ++ (a0.extract (x14_26 : Int).toNat a0.size)) x93_58 a2_0 a2_1 a2_2 = some (r1, r2, r3)) ∧ Aside0 (kq ≤ kj26) ∧ Aside0 (wc.heap[gb153]? = some (.cells #[.int .i64 a2_0, .bool a2_1, .string a2_2] 23 (0, 0))) ∧ Aside0 (Below w.heap.size w wc))
                                case first =>
                                  have H := HC59.out
                                  clear HC59
                                  by_cases c60 : a2_1 = true
                                  · subst c60
                                    have H1 : (calamusref24_Put.j4 kj26 t156 x14_26 x15_26 (((a0.extract 0 (x14_26 : Int).toNat) ++ x15_26) ++ (a0.extract (x14_26 : Int).toNat a0.size)) a3 a2_0 true a2_2) = some (r1, r2, r3) := by rw [if_pos rfl] at H; exact H
                                    clear H
                                    have H := H1
                                    clear H1
                                    have H' := Aside0.mk H
                                    clear H
                                    have hcz61_0 : wc.cell? ⟨gb153, 0, none⟩ = some (.int .i64 a2_0) := (blk_cell BK153.out 0).trans rfl
                                    have hcz61_1 : wc.cell? ⟨gb153, 1, none⟩ = some (.bool true) := (blk_cell BK153.out 1).trans rfl
                                    have hcz61_2 : wc.cell? ⟨gb153, 2, none⟩ = some (.string a2_2) := (blk_cell BK153.out 2).trans rfl
                                    have hfz61_0 := blk_frozen BK153.out 0
                                    have hfz61_1 := blk_frozen BK153.out 1
                                    have hfz61_2 := blk_frozen BK153.out 2
                                    go_wp2
                                    repeat (go_quiet (fail); try go_wp2)
                                    go_meet
                                    case rel => exact ⟨_, (a3), (by first | rfl | (simp; done) | (simp [*]; done)), H', ⟨by have := HJ5.out; have := HJ15.out; have := HJ21.out; have := HJ26.out; first | omega | exact Nat.le_refl _⟩, ⟨by (with_reducible repeat (first | refine blk_drewN ?_ _ | refine blk_drew ?_ | refine blk_alloc ?_ _)); exact BK153.out⟩, ⟨by repeat (first | (with_reducible first | exact HB.out | apply below_alloc | apply pw_below_drewN | apply below_drew1 | refine below_set ?_ GE153.out) | exact HB.out)⟩⟩
                                  · replace c60 := Bool.eq_false_iff.mpr c60
                                    subst c60
                                    have H1 : (calamusref24_Put.j4 kj26 t156 x14_26 x15_26 (((a0.extract 0 (x14_26 : Int).toNat) ++ x15_26) ++ (a0.extract (x14_26 : Int).toNat a0.size)) false a2_0 false a2_2) = some (r1, r2, r3) := by rw [if_neg (show ¬ (false = true) by decide)] at H; exact H
                                    clear H
                                    have H := H1
                                    clear H1
                                    have H' := Aside0.mk H
                                    clear H
                                    have hcz62_0 : wc.cell? ⟨gb153, 0, none⟩ = some (.int .i64 a2_0) := (blk_cell BK153.out 0).trans rfl
                                    have hcz62_1 : wc.cell? ⟨gb153, 1, none⟩ = some (.bool false) := (blk_cell BK153.out 1).trans rfl
                                    have hcz62_2 : wc.cell? ⟨gb153, 2, none⟩ = some (.string a2_2) := (blk_cell BK153.out 2).trans rfl
                                    have hfz62_0 := blk_frozen BK153.out 0
                                    have hfz62_1 := blk_frozen BK153.out 1
                                    have hfz62_2 := blk_frozen BK153.out 2
                                    go_wp2
                                    repeat (go_quiet (fail); try go_wp2)
                                    go_meet
                                    case rel => exact ⟨_, (false), (by first | rfl | (simp; done) | (simp [*]; done)), H', ⟨by have := HJ5.out; have := HJ15.out; have := HJ21.out; have := HJ26.out; first | omega | exact Nat.le_refl _⟩, ⟨by (with_reducible repeat (first | refine blk_drewN ?_ _ | refine blk_drew ?_ | refine blk_alloc ?_ _)); exact BK153.out⟩, ⟨by repeat (first | (with_reducible first | exact HB.out | apply below_alloc | apply pw_below_drewN | apply below_drew1 | refine below_set ?_ GE153.out) | exact HB.out)⟩⟩
                                case rest =>
                                  clear HC59
                                  try clear c1
                                  try clear c2
                                  try clear p2
                                  try clear c3
                                  try clear c4
                                  try clear c5
                                  try clear c6
                                  try clear c9
                                  try clear c15
                                  try clear c17
                                  try clear c17b0
                                  try clear c17b1
                                  try clear c20
                                  try clear c24
                                  try clear c28
                                  try clear c31
                                  try clear c31b0
                                  try clear c31b1
                                  try clear c31b2
                                  try clear c34
                                  try clear c37
                                  try clear c37b0
                                  try clear c37b1
                                  try clear c37b2
                                  try clear c42
                                  try clear c45
                                  try clear c52
                                  try clear c52b0
                                  try clear c52b1
                                  try clear c53
                                  try clear c53b0
                                  try clear c53b1
                                  try clear c54
                                  try clear c54b0
                                  try clear c54b1
                                  try clear c54b2
                                  try clear c55
                                  try clear c55b0
                                  try clear c56
                                  try clear c56b0
                                  try clear c57
                                  try clear c57b0
                                  try clear c57b1
                                  try clear c57b2
                                  try clear c58
                                  try clear c58b0
                                  try clear c58b1
                                  try clear c60
                                  try clear hcz12_0
                                  try clear hcz12_1
                                  try clear hcz12_2
                                  try clear hcz18_0
                                  try clear hcz18_1
                                  try clear hcz18_2
                                  try clear hcz19_0
                                  try clear hcz19_1
                                  try clear hcz19_2
                                  try clear hcz25_0
                                  try clear hcz25_1
                                  try clear hcz25_2
                                  try clear hcz26_0
                                  try clear hcz26_1
                                  try clear hcz26_2
                                  try clear hcz33_0
                                  try clear hcz33_1
                                  try clear hcz33_2
                                  try clear hcz38_0
                                  try clear hcz38_1
                                  try clear hcz38_2
                                  try clear hcz40_0
                                  try clear hcz40_1
                                  try clear hcz40_2
                                  try clear hcz43_0
                                  try clear hcz43_1
                                  try clear hcz43_2
                                  try clear hcz46_0
                                  try clear hcz46_1
                                  try clear hcz46_2
                                  try clear hcz49_0
                                  try clear hcz49_1
                                  try clear hcz49_2
                                  try clear hcz61_0
                                  try clear hcz61_1
                                  try clear hcz61_2
                                  try clear hcz62_0
                                  try clear hcz62_1
                                  try clear hcz62_2
                                  try clear hfz12_0
                                  try clear hfz12_1
                                  try clear hfz12_2
                                  try clear hfz18_0
                                  try clear hfz18_1
                                  try clear hfz18_2
                                  try clear hfz19_0
                                  try clear hfz19_1
                                  try clear hfz19_2
                                  try clear hfz25_0
                                  try clear hfz25_1
                                  try clear hfz25_2
                                  try clear hfz26_0
                                  try clear hfz26_1
                                  try clear hfz26_2
                                  try clear hfz33_0
                                  try clear hfz33_1
                                  try clear hfz33_2
                                  try clear hfz38_0
                                  try clear hfz38_1
                                  try clear hfz38_2
                                  try clear hfz40_0
                                  try clear hfz40_1
                                  try clear hfz40_2
                                  try clear hfz43_0
                                  try clear hfz43_1
                                  try clear hfz43_2
                                  try clear hfz46_0
                                  try clear hfz46_1
                                  try clear hfz46_2
                                  try clear hfz49_0
                                  try clear hfz49_1
                                  try clear hfz49_2
                                  try clear hfz61_0
                                  try clear hfz61_1
                                  try clear hfz61_2
                                  try clear hfz62_0
                                  try clear hfz62_1
                                  try clear hfz62_2
                                  try clear p2
                                  obtain ⟨kq, x93_58, rfl, HA, HJ58, BK153, HB⟩ := hcut
                                  cases kq with
                                  | zero => exact absurd HA.out (by simp [calamusref24_Put.j4])
                                  | succ kj58 =>
                                    have H := HA.out
                                    clear HA
                                    simp only [calamusref24_Put.j4] at H
                                    by_cases c63 : x93_58 = true
                                    · subst c63
                                      have H1 : ((calamusref04_First.f kj58 (((a0.extract 0 (x14_26 : Int).toNat) ++ x15_26) ++ (a0.extract (x14_26 : Int).toNat a0.size)) t156).bind fun t164 => (some ((((a0.extract 0 (x14_26 : Int).toNat) ++ x15_26) ++ (a0.extract (x14_26 : Int).toNat a0.size)), t164, 0))) = some (r1, r2, r3) := by rw [if_pos rfl] at H; exact H
                                      clear H
                                      have H := H1
                                      clear H1
                                      replace H := Option.bind_eq_some_iff.mp H
                                      obtain ⟨t164, A640, H⟩ := H
                                      replace H : (some ((((a0.extract 0 (x14_26 : Int).toNat) ++ x15_26) ++ (a0.extract (x14_26 : Int).toNat a0.size)), t164, 0)) = some (r1, r2, r3) := H
                                      have A64 := Aside0.mk A640
                                      clear A640
                                      simp only [Option.some.injEq, Prod.mk.injEq] at H
                                      obtain ⟨rfl, rfl, rfl⟩ := H
                                      go_wp2_with (first | (go_at_call 38; (with_reducible refine (calamusref04_First.calls kj58 (((a0.extract 0 (x14_26 : Int).toNat) ++ x15_26) ++ (a0.extract (x14_26 : Int).toNat a0.size)) t156 t164 _ A64.out).mono ?_); rintro e w65 ⟨rfl, hb⟩; have n0_ := Aside0.mk (blk_below (g := gb153) (o := .cells #[.int .i64 a2_0, .bool a2_1, .string a2_2] 23 (0, 0)) (by (with_reducible repeat (first | refine blk_drewN ?_ _ | refine blk_drew ?_ | refine blk_alloc ?_ _)); exact BK153.out) hb); have n1_ := Aside0.mk (below_step (by repeat (first | (with_reducible first | exact HB.out | apply below_alloc | apply pw_below_drewN | apply below_drew1 | refine below_set ?_ GE153.out) | exact HB.out)) hb); clear BK153; clear HB; have BK153 := n0_; have HB := n1_; clear n0_ n1_; (try clear hb); (try clear hb2); (try clear hk); (try clear hi)))
                                      repeat (go_quiet (first | (go_at_call 38; (with_reducible refine (calamusref04_First.calls kj58 (((a0.extract 0 (x14_26 : Int).toNat) ++ x15_26) ++ (a0.extract (x14_26 : Int).toNat a0.size)) t156 t164 _ A64.out).mono ?_); rintro e w65 ⟨rfl, hb⟩; have n0_ := Aside0.mk (blk_below (g := gb153) (o := .cells #[.int .i64 a2_0, .bool a2_1, .string a2_2] 23 (0, 0)) (by (with_reducible repeat (first | refine blk_drewN ?_ _ | refine blk_drew ?_ | refine blk_alloc ?_ _)); exact BK153.out) hb); have n1_ := Aside0.mk (below_step (by repeat (first | (with_reducible first | exact HB.out | apply below_alloc | apply pw_below_drewN | apply below_drew1 | refine below_set ?_ GE153.out) | exact HB.out)) hb); clear BK153; clear HB; have BK153 := n0_; have HB := n1_; clear n0_ n1_; (try clear hb); (try clear hb2); (try clear hk); (try clear hi))); try go_wp2_with (first | (go_at_call 38; (with_reducible refine (calamusref04_First.calls kj58 (((a0.extract 0 (x14_26 : Int).toNat) ++ x15_26) ++ (a0.extract (x14_26 : Int).toNat a0.size)) t156 t164 _ A64.out).mono ?_); rintro e w65 ⟨rfl, hb⟩; have n0_ := Aside0.mk (blk_below (g := gb153) (o := .cells #[.int .i64 a2_0, .bool a2_1, .string a2_2] 23 (0, 0)) (by (with_reducible repeat (first | refine blk_drewN ?_ _ | refine blk_drew ?_ | refine blk_alloc ?_ _)); exact BK153.out) hb); have n1_ := Aside0.mk (below_step (by repeat (first | (with_reducible first | exact HB.out | apply below_alloc | apply pw_below_drewN | apply below_drew1 | refine below_set ?_ GE153.out) | exact HB.out)) hb); clear BK153; clear HB; have BK153 := n0_; have HB := n1_; clear n0_ n1_; (try clear hb); (try clear hb2); (try clear hk); (try clear hi))))
                                      go_ret3
                                      exact ⟨by first | rfl | (simp [errW_none, errW_some] <;> rfl) | (simp [*, errW_none, errW_some] <;> rfl), by repeat (first | (with_reducible first | exact HB.out | apply below_alloc | apply pw_below_drewN | apply below_drew1 | refine below_set ?_ GE153.out) | exact HB.out)⟩
                                    · replace c63 := Bool.eq_false_iff.mpr c63
                                      subst c63
                                      have H1 : (if a2_1 = true then ((calamusref04_First.f kj58 (((a0.extract 0 (x14_26 : Int).toNat) ++ x15_26) ++ (a0.extract (x14_26 : Int).toNat a0.size)) (wrap64 (t156 + 1))).bind fun t165 => (some ((((a0.extract 0 (x14_26 : Int).toNat) ++ x15_26) ++ (a0.extract (x14_26 : Int).toNat a0.size)), t165, 0))) else ((calamusref24_feed.f x15_26).bind fun t166 => (if t166 = true then ((calamusref04_Clamp.f kj58 (((a0.extract 0 (x14_26 : Int).toNat) ++ x15_26) ++ (a0.extract (x14_26 : Int).toNat a0.size)) x14_26).bind fun t167 => (some ((((a0.extract 0 (x14_26 : Int).toNat) ++ x15_26) ++ (a0.extract (x14_26 : Int).toNat a0.size)), t167, 0))) else ((calamusref03_Prev.f (((a0.extract 0 (x14_26 : Int).toNat) ++ x15_26) ++ (a0.extract (x14_26 : Int).toNat a0.size)) (wrap64 (x14_26 + (x15_26.size : Int)))).bind fun t168 => (some ((((a0.extract 0 (x14_26 : Int).toNat) ++ x15_26) ++ (a0.extract (x14_26 : Int).toNat a0.size)), t168, 0)))))) = some (r1, r2, r3) := by rw [if_neg (show ¬ (false = true) by decide)] at H; exact H
                                      clear H
                                      have H := H1
                                      clear H1
                                      by_cases c66 : a2_1 = true
                                      · subst c66
                                        have H1 : ((calamusref04_First.f kj58 (((a0.extract 0 (x14_26 : Int).toNat) ++ x15_26) ++ (a0.extract (x14_26 : Int).toNat a0.size)) (wrap64 (t156 + 1))).bind fun t165 => (some ((((a0.extract 0 (x14_26 : Int).toNat) ++ x15_26) ++ (a0.extract (x14_26 : Int).toNat a0.size)), t165, 0))) = some (r1, r2, r3) := by rw [if_pos rfl] at H; exact H
                                        clear H
                                        have H := H1
                                        clear H1
                                        replace H := Option.bind_eq_some_iff.mp H
                                        obtain ⟨t165, A670, H⟩ := H
                                        replace H : (some ((((a0.extract 0 (x14_26 : Int).toNat) ++ x15_26) ++ (a0.extract (x14_26 : Int).toNat a0.size)), t165, 0)) = some (r1, r2, r3) := H
                                        have A67 := Aside0.mk A670
                                        clear A670
                                        simp only [Option.some.injEq, Prod.mk.injEq] at H
                                        obtain ⟨rfl, rfl, rfl⟩ := H
                                        have hcz68_0 : wc.cell? ⟨gb153, 0, none⟩ = some (.int .i64 a2_0) := (blk_cell BK153.out 0).trans rfl
                                        have hcz68_1 : wc.cell? ⟨gb153, 1, none⟩ = some (.bool true) := (blk_cell BK153.out 1).trans rfl
                                        have hcz68_2 : wc.cell? ⟨gb153, 2, none⟩ = some (.string a2_2) := (blk_cell BK153.out 2).trans rfl
                                        have hfz68_0 := blk_frozen BK153.out 0
                                        have hfz68_1 := blk_frozen BK153.out 1
                                        have hfz68_2 := blk_frozen BK153.out 2
                                        go_wp2_with (first | (go_at_call 38; (with_reducible refine (calamusref04_First.calls kj58 (((a0.extract 0 (x14_26 : Int).toNat) ++ x15_26) ++ (a0.extract (x14_26 : Int).toNat a0.size)) (wrap64 (t156 + 1)) t165 _ A67.out).mono ?_); rintro e w69 ⟨rfl, hb⟩; have n0_ := Aside0.mk (blk_below (g := gb153) (o := .cells #[.int .i64 a2_0, .bool true, .string a2_2] 23 (0, 0)) (by (with_reducible repeat (first | refine blk_drewN ?_ _ | refine blk_drew ?_ | refine blk_alloc ?_ _)); exact BK153.out) hb); have n1_ := Aside0.mk (below_step (by repeat (first | (with_reducible first | exact HB.out | apply below_alloc | apply pw_below_drewN | apply below_drew1 | refine below_set ?_ GE153.out) | exact HB.out)) hb); clear BK153; clear HB; have BK153 := n0_; have HB := n1_; clear n0_ n1_; (try clear hb); (try clear hb2); (try clear hk); (try clear hi)))
                                        repeat (go_quiet (first | (go_at_call 38; (with_reducible refine (calamusref04_First.calls kj58 (((a0.extract 0 (x14_26 : Int).toNat) ++ x15_26) ++ (a0.extract (x14_26 : Int).toNat a0.size)) (wrap64 (t156 + 1)) t165 _ A67.out).mono ?_); rintro e w69 ⟨rfl, hb⟩; have n0_ := Aside0.mk (blk_below (g := gb153) (o := .cells #[.int .i64 a2_0, .bool true, .string a2_2] 23 (0, 0)) (by (with_reducible repeat (first | refine blk_drewN ?_ _ | refine blk_drew ?_ | refine blk_alloc ?_ _)); exact BK153.out) hb); have n1_ := Aside0.mk (below_step (by repeat (first | (with_reducible first | exact HB.out | apply below_alloc | apply pw_below_drewN | apply below_drew1 | refine below_set ?_ GE153.out) | exact HB.out)) hb); clear BK153; clear HB; have BK153 := n0_; have HB := n1_; clear n0_ n1_; (try clear hb); (try clear hb2); (try clear hk); (try clear hi))); try go_wp2_with (first | (go_at_call 38; (with_reducible refine (calamusref04_First.calls kj58 (((a0.extract 0 (x14_26 : Int).toNat) ++ x15_26) ++ (a0.extract (x14_26 : Int).toNat a0.size)) (wrap64 (t156 + 1)) t165 _ A67.out).mono ?_); rintro e w69 ⟨rfl, hb⟩; have n0_ := Aside0.mk (blk_below (g := gb153) (o := .cells #[.int .i64 a2_0, .bool true, .string a2_2] 23 (0, 0)) (by (with_reducible repeat (first | refine blk_drewN ?_ _ | refine blk_drew ?_ | refine blk_alloc ?_ _)); exact BK153.out) hb); have n1_ := Aside0.mk (below_step (by repeat (first | (with_reducible first | exact HB.out | apply below_alloc | apply pw_below_drewN | apply below_drew1 | refine below_set ?_ GE153.out) | exact HB.out)) hb); clear BK153; clear HB; have BK153 := n0_; have HB := n1_; clear n0_ n1_; (try clear hb); (try clear hb2); (try clear hk); (try clear hi))))
                                        go_ret3
                                        exact ⟨by first | rfl | (simp [errW_none, errW_some] <;> rfl) | (simp [*, errW_none, errW_some] <;> rfl), by repeat (first | (with_reducible first | exact HB.out | apply below_alloc | apply pw_below_drewN | apply below_drew1 | refine below_set ?_ GE153.out) | exact HB.out)⟩
                                      · replace c66 := Bool.eq_false_iff.mpr c66
                                        subst c66
                                        have H1 : ((calamusref24_feed.f x15_26).bind fun t166 => (if t166 = true then ((calamusref04_Clamp.f kj58 (((a0.extract 0 (x14_26 : Int).toNat) ++ x15_26) ++ (a0.extract (x14_26 : Int).toNat a0.size)) x14_26).bind fun t167 => (some ((((a0.extract 0 (x14_26 : Int).toNat) ++ x15_26) ++ (a0.extract (x14_26 : Int).toNat a0.size)), t167, 0))) else ((calamusref03_Prev.f (((a0.extract 0 (x14_26 : Int).toNat) ++ x15_26) ++ (a0.extract (x14_26 : Int).toNat a0.size)) (wrap64 (x14_26 + (x15_26.size : Int)))).bind fun t168 => (some ((((a0.extract 0 (x14_26 : Int).toNat) ++ x15_26) ++ (a0.extract (x14_26 : Int).toNat a0.size)), t168, 0))))) = some (r1, r2, r3) := by rw [if_neg (show ¬ (false = true) by decide)] at H; exact H
                                        clear H
                                        have H := H1
                                        clear H1
                                        replace H := Option.bind_eq_some_iff.mp H
                                        obtain ⟨t166, A700, H⟩ := H
                                        replace H : (if t166 = true then ((calamusref04_Clamp.f kj58 (((a0.extract 0 (x14_26 : Int).toNat) ++ x15_26) ++ (a0.extract (x14_26 : Int).toNat a0.size)) x14_26).bind fun t167 => (some ((((a0.extract 0 (x14_26 : Int).toNat) ++ x15_26) ++ (a0.extract (x14_26 : Int).toNat a0.size)), t167, 0))) else ((calamusref03_Prev.f (((a0.extract 0 (x14_26 : Int).toNat) ++ x15_26) ++ (a0.extract (x14_26 : Int).toNat a0.size)) (wrap64 (x14_26 + (x15_26.size : Int)))).bind fun t168 => (some ((((a0.extract 0 (x14_26 : Int).toNat) ++ x15_26) ++ (a0.extract (x14_26 : Int).toNat a0.size)), t168, 0)))) = some (r1, r2, r3) := H
                                        have A70 := Aside0.mk A700
                                        clear A700
                                        by_cases c71 : t166 = true
                                        · subst c71
                                          have H1 : ((calamusref04_Clamp.f kj58 (((a0.extract 0 (x14_26 : Int).toNat) ++ x15_26) ++ (a0.extract (x14_26 : Int).toNat a0.size)) x14_26).bind fun t167 => (some ((((a0.extract 0 (x14_26 : Int).toNat) ++ x15_26) ++ (a0.extract (x14_26 : Int).toNat a0.size)), t167, 0))) = some (r1, r2, r3) := by rw [if_pos rfl] at H; exact H
                                          clear H
                                          have H := H1
                                          clear H1
                                          replace H := Option.bind_eq_some_iff.mp H
                                          obtain ⟨t167, A720, H⟩ := H
                                          replace H : (some ((((a0.extract 0 (x14_26 : Int).toNat) ++ x15_26) ++ (a0.extract (x14_26 : Int).toNat a0.size)), t167, 0)) = some (r1, r2, r3) := H
                                          have A72 := Aside0.mk A720
                                          clear A720
                                          simp only [Option.some.injEq, Prod.mk.injEq] at H
                                          obtain ⟨rfl, rfl, rfl⟩ := H
                                          have hcz73_0 : wc.cell? ⟨gb153, 0, none⟩ = some (.int .i64 a2_0) := (blk_cell BK153.out 0).trans rfl
                                          have hcz73_1 : wc.cell? ⟨gb153, 1, none⟩ = some (.bool false) := (blk_cell BK153.out 1).trans rfl
                                          have hcz73_2 : wc.cell? ⟨gb153, 2, none⟩ = some (.string a2_2) := (blk_cell BK153.out 2).trans rfl
                                          have hfz73_0 := blk_frozen BK153.out 0
                                          have hfz73_1 := blk_frozen BK153.out 1
                                          have hfz73_2 := blk_frozen BK153.out 2
                                          go_wp2_with (first | (go_at_call 39; (with_reducible refine (calamusref24_feed.calls x15_26 true _ A70.out).mono ?_); rintro e w74 ⟨rfl, hb⟩; have n0_ := Aside0.mk (blk_below (g := gb153) (o := .cells #[.int .i64 a2_0, .bool false, .string a2_2] 23 (0, 0)) (by (with_reducible repeat (first | refine blk_drewN ?_ _ | refine blk_drew ?_ | refine blk_alloc ?_ _)); exact BK153.out) hb); have n1_ := Aside0.mk (below_step (by repeat (first | (with_reducible first | exact HB.out | apply below_alloc | apply pw_below_drewN | apply below_drew1 | refine below_set ?_ GE153.out) | exact HB.out)) hb); clear BK153; clear HB; have BK153 := n0_; have HB := n1_; clear n0_ n1_; (try clear hb); (try clear hb2); (try clear hk); (try clear hi)) | (go_at_call 40; (with_reducible refine (calamusref04_Clamp.calls kj58 (((a0.extract 0 (x14_26 : Int).toNat) ++ x15_26) ++ (a0.extract (x14_26 : Int).toNat a0.size)) x14_26 t167 _ A72.out).mono ?_); rintro e w75 ⟨rfl, hb⟩; have n0_ := Aside0.mk (blk_below (g := gb153) (o := .cells #[.int .i64 a2_0, .bool false, .string a2_2] 23 (0, 0)) (by (with_reducible repeat (first | refine blk_drewN ?_ _ | refine blk_drew ?_ | refine blk_alloc ?_ _)); exact BK153.out) hb); have n1_ := Aside0.mk (below_step (by repeat (first | (with_reducible first | exact HB.out | apply below_alloc | apply pw_below_drewN | apply below_drew1 | refine below_set ?_ GE153.out) | exact HB.out)) hb); clear BK153; clear HB; have BK153 := n0_; have HB := n1_; clear n0_ n1_; (try clear hb); (try clear hb2); (try clear hk); (try clear hi)))
                                          repeat (go_quiet (first | (go_at_call 39; (with_reducible refine (calamusref24_feed.calls x15_26 true _ A70.out).mono ?_); rintro e w74 ⟨rfl, hb⟩; have n0_ := Aside0.mk (blk_below (g := gb153) (o := .cells #[.int .i64 a2_0, .bool false, .string a2_2] 23 (0, 0)) (by (with_reducible repeat (first | refine blk_drewN ?_ _ | refine blk_drew ?_ | refine blk_alloc ?_ _)); exact BK153.out) hb); have n1_ := Aside0.mk (below_step (by repeat (first | (with_reducible first | exact HB.out | apply below_alloc | apply pw_below_drewN | apply below_drew1 | refine below_set ?_ GE153.out) | exact HB.out)) hb); clear BK153; clear HB; have BK153 := n0_; have HB := n1_; clear n0_ n1_; (try clear hb); (try clear hb2); (try clear hk); (try clear hi)) | (go_at_call 40; (with_reducible refine (calamusref04_Clamp.calls kj58 (((a0.extract 0 (x14_26 : Int).toNat) ++ x15_26) ++ (a0.extract (x14_26 : Int).toNat a0.size)) x14_26 t167 _ A72.out).mono ?_); rintro e w75 ⟨rfl, hb⟩; have n0_ := Aside0.mk (blk_below (g := gb153) (o := .cells #[.int .i64 a2_0, .bool false, .string a2_2] 23 (0, 0)) (by (with_reducible repeat (first | refine blk_drewN ?_ _ | refine blk_drew ?_ | refine blk_alloc ?_ _)); exact BK153.out) hb); have n1_ := Aside0.mk (below_step (by repeat (first | (with_reducible first | exact HB.out | apply below_alloc | apply pw_below_drewN | apply below_drew1 | refine below_set ?_ GE153.out) | exact HB.out)) hb); clear BK153; clear HB; have BK153 := n0_; have HB := n1_; clear n0_ n1_; (try clear hb); (try clear hb2); (try clear hk); (try clear hi))); try go_wp2_with (first | (go_at_call 39; (with_reducible refine (calamusref24_feed.calls x15_26 true _ A70.out).mono ?_); rintro e w74 ⟨rfl, hb⟩; have n0_ := Aside0.mk (blk_below (g := gb153) (o := .cells #[.int .i64 a2_0, .bool false, .string a2_2] 23 (0, 0)) (by (with_reducible repeat (first | refine blk_drewN ?_ _ | refine blk_drew ?_ | refine blk_alloc ?_ _)); exact BK153.out) hb); have n1_ := Aside0.mk (below_step (by repeat (first | (with_reducible first | exact HB.out | apply below_alloc | apply pw_below_drewN | apply below_drew1 | refine below_set ?_ GE153.out) | exact HB.out)) hb); clear BK153; clear HB; have BK153 := n0_; have HB := n1_; clear n0_ n1_; (try clear hb); (try clear hb2); (try clear hk); (try clear hi)) | (go_at_call 40; (with_reducible refine (calamusref04_Clamp.calls kj58 (((a0.extract 0 (x14_26 : Int).toNat) ++ x15_26) ++ (a0.extract (x14_26 : Int).toNat a0.size)) x14_26 t167 _ A72.out).mono ?_); rintro e w75 ⟨rfl, hb⟩; have n0_ := Aside0.mk (blk_below (g := gb153) (o := .cells #[.int .i64 a2_0, .bool false, .string a2_2] 23 (0, 0)) (by (with_reducible repeat (first | refine blk_drewN ?_ _ | refine blk_drew ?_ | refine blk_alloc ?_ _)); exact BK153.out) hb); have n1_ := Aside0.mk (below_step (by repeat (first | (with_reducible first | exact HB.out | apply below_alloc | apply pw_below_drewN | apply below_drew1 | refine below_set ?_ GE153.out) | exact HB.out)) hb); clear BK153; clear HB; have BK153 := n0_; have HB := n1_; clear n0_ n1_; (try clear hb); (try clear hb2); (try clear hk); (try clear hi))))
                                          go_ret3
                                          exact ⟨by first | rfl | (simp [errW_none, errW_some] <;> rfl) | (simp [*, errW_none, errW_some] <;> rfl), by repeat (first | (with_reducible first | exact HB.out | apply below_alloc | apply pw_below_drewN | apply below_drew1 | refine below_set ?_ GE153.out) | exact HB.out)⟩
                                        · replace c71 := Bool.eq_false_iff.mpr c71
                                          subst c71
                                          have H1 : ((calamusref03_Prev.f (((a0.extract 0 (x14_26 : Int).toNat) ++ x15_26) ++ (a0.extract (x14_26 : Int).toNat a0.size)) (wrap64 (x14_26 + (x15_26.size : Int)))).bind fun t168 => (some ((((a0.extract 0 (x14_26 : Int).toNat) ++ x15_26) ++ (a0.extract (x14_26 : Int).toNat a0.size)), t168, 0))) = some (r1, r2, r3) := by rw [if_neg (show ¬ (false = true) by decide)] at H; exact H
                                          clear H
                                          have H := H1
                                          clear H1
                                          replace H := Option.bind_eq_some_iff.mp H
                                          obtain ⟨t168, A760, H⟩ := H
                                          replace H : (some ((((a0.extract 0 (x14_26 : Int).toNat) ++ x15_26) ++ (a0.extract (x14_26 : Int).toNat a0.size)), t168, 0)) = some (r1, r2, r3) := H
                                          have A76 := Aside0.mk A760
                                          clear A760
                                          simp only [Option.some.injEq, Prod.mk.injEq] at H
                                          obtain ⟨rfl, rfl, rfl⟩ := H
                                          have hcz77_0 : wc.cell? ⟨gb153, 0, none⟩ = some (.int .i64 a2_0) := (blk_cell BK153.out 0).trans rfl
                                          have hcz77_1 : wc.cell? ⟨gb153, 1, none⟩ = some (.bool false) := (blk_cell BK153.out 1).trans rfl
                                          have hcz77_2 : wc.cell? ⟨gb153, 2, none⟩ = some (.string a2_2) := (blk_cell BK153.out 2).trans rfl
                                          have hfz77_0 := blk_frozen BK153.out 0
                                          have hfz77_1 := blk_frozen BK153.out 1
                                          have hfz77_2 := blk_frozen BK153.out 2
                                          go_wp2_with (first | (go_at_call 39; (with_reducible refine (calamusref24_feed.calls x15_26 false _ A70.out).mono ?_); rintro e w78 ⟨rfl, hb⟩; have n0_ := Aside0.mk (blk_below (g := gb153) (o := .cells #[.int .i64 a2_0, .bool false, .string a2_2] 23 (0, 0)) (by (with_reducible repeat (first | refine blk_drewN ?_ _ | refine blk_drew ?_ | refine blk_alloc ?_ _)); exact BK153.out) hb); have n1_ := Aside0.mk (below_step (by repeat (first | (with_reducible first | exact HB.out | apply below_alloc | apply pw_below_drewN | apply below_drew1 | refine below_set ?_ GE153.out) | exact HB.out)) hb); clear BK153; clear HB; have BK153 := n0_; have HB := n1_; clear n0_ n1_; (try clear hb); (try clear hb2); (try clear hk); (try clear hi)) | (go_at_call 41; (with_reducible refine (calamusref03_Prev.calls (((a0.extract 0 (x14_26 : Int).toNat) ++ x15_26) ++ (a0.extract (x14_26 : Int).toNat a0.size)) (wrap64 (x14_26 + (x15_26.size : Int))) t168 _ A76.out).mono ?_); rintro e w79 ⟨rfl, hb⟩; have n0_ := Aside0.mk (blk_below (g := gb153) (o := .cells #[.int .i64 a2_0, .bool false, .string a2_2] 23 (0, 0)) (by (with_reducible repeat (first | refine blk_drewN ?_ _ | refine blk_drew ?_ | refine blk_alloc ?_ _)); exact BK153.out) hb); have n1_ := Aside0.mk (below_step (by repeat (first | (with_reducible first | exact HB.out | apply below_alloc | apply pw_below_drewN | apply below_drew1 | refine below_set ?_ GE153.out) | exact HB.out)) hb); clear BK153; clear HB; have BK153 := n0_; have HB := n1_; clear n0_ n1_; (try clear hb); (try clear hb2); (try clear hk); (try clear hi)))
                                          repeat (go_quiet (first | (go_at_call 39; (with_reducible refine (calamusref24_feed.calls x15_26 false _ A70.out).mono ?_); rintro e w78 ⟨rfl, hb⟩; have n0_ := Aside0.mk (blk_below (g := gb153) (o := .cells #[.int .i64 a2_0, .bool false, .string a2_2] 23 (0, 0)) (by (with_reducible repeat (first | refine blk_drewN ?_ _ | refine blk_drew ?_ | refine blk_alloc ?_ _)); exact BK153.out) hb); have n1_ := Aside0.mk (below_step (by repeat (first | (with_reducible first | exact HB.out | apply below_alloc | apply pw_below_drewN | apply below_drew1 | refine below_set ?_ GE153.out) | exact HB.out)) hb); clear BK153; clear HB; have BK153 := n0_; have HB := n1_; clear n0_ n1_; (try clear hb); (try clear hb2); (try clear hk); (try clear hi)) | (go_at_call 41; (with_reducible refine (calamusref03_Prev.calls (((a0.extract 0 (x14_26 : Int).toNat) ++ x15_26) ++ (a0.extract (x14_26 : Int).toNat a0.size)) (wrap64 (x14_26 + (x15_26.size : Int))) t168 _ A76.out).mono ?_); rintro e w79 ⟨rfl, hb⟩; have n0_ := Aside0.mk (blk_below (g := gb153) (o := .cells #[.int .i64 a2_0, .bool false, .string a2_2] 23 (0, 0)) (by (with_reducible repeat (first | refine blk_drewN ?_ _ | refine blk_drew ?_ | refine blk_alloc ?_ _)); exact BK153.out) hb); have n1_ := Aside0.mk (below_step (by repeat (first | (with_reducible first | exact HB.out | apply below_alloc | apply pw_below_drewN | apply below_drew1 | refine below_set ?_ GE153.out) | exact HB.out)) hb); clear BK153; clear HB; have BK153 := n0_; have HB := n1_; clear n0_ n1_; (try clear hb); (try clear hb2); (try clear hk); (try clear hi))); try go_wp2_with (first | (go_at_call 39; (with_reducible refine (calamusref24_feed.calls x15_26 false _ A70.out).mono ?_); rintro e w78 ⟨rfl, hb⟩; have n0_ := Aside0.mk (blk_below (g := gb153) (o := .cells #[.int .i64 a2_0, .bool false, .string a2_2] 23 (0, 0)) (by (with_reducible repeat (first | refine blk_drewN ?_ _ | refine blk_drew ?_ | refine blk_alloc ?_ _)); exact BK153.out) hb); have n1_ := Aside0.mk (below_step (by repeat (first | (with_reducible first | exact HB.out | apply below_alloc | apply pw_below_drewN | apply below_drew1 | refine below_set ?_ GE153.out) | exact HB.out)) hb); clear BK153; clear HB; have BK153 := n0_; have HB := n1_; clear n0_ n1_; (try clear hb); (try clear hb2); (try clear hk); (try clear hi)) | (go_at_call 41; (with_reducible refine (calamusref03_Prev.calls (((a0.extract 0 (x14_26 : Int).toNat) ++ x15_26) ++ (a0.extract (x14_26 : Int).toNat a0.size)) (wrap64 (x14_26 + (x15_26.size : Int))) t168 _ A76.out).mono ?_); rintro e w79 ⟨rfl, hb⟩; have n0_ := Aside0.mk (blk_below (g := gb153) (o := .cells #[.int .i64 a2_0, .bool false, .string a2_2] 23 (0, 0)) (by (with_reducible repeat (first | refine blk_drewN ?_ _ | refine blk_drew ?_ | refine blk_alloc ?_ _)); exact BK153.out) hb); have n1_ := Aside0.mk (below_step (by repeat (first | (with_reducible first | exact HB.out | apply below_alloc | apply pw_below_drewN | apply below_drew1 | refine below_set ?_ GE153.out) | exact HB.out)) hb); clear BK153; clear HB; have BK153 := n0_; have HB := n1_; clear n0_ n1_; (try clear hb); (try clear hb2); (try clear hk); (try clear hi))))
                                          go_ret3
                                          exact ⟨by first | rfl | (simp [errW_none, errW_some] <;> rfl) | (simp [*, errW_none, errW_some] <;> rfl), by repeat (first | (with_reducible first | exact HB.out | apply below_alloc | apply pw_below_drewN | apply below_drew1 | refine below_set ?_ GE153.out) | exact HB.out)⟩
                            · rw [if_neg c57] at H
                              exact absurd H (by simp)
                          · rw [if_neg c54] at H
                            exact absurd H (by simp)
                        · rw [if_neg c53] at H
                          exact absurd H (by simp)
                      · rw [if_neg c52] at H
                        exact absurd H (by simp)

end Go.Proofs.YtckfdehendifoaaDoor.QP
-- Printed by this work's xp.py out of the translation. Lean checks it.
namespace Go.Proofs.YtckfdehendifoaaDoor.QP
open Go.RowKit Go.Proofs.YtckfdehendifoaaDoorW.PrintWords Go.Proofs.YtckfdehendifoaaDoorW.PrintLast Go.Proofs.YtckfdehendifoaaDoorW.PrintMore
attribute [local go_sem] max2_int min2_int max_two min_two max_three min_three max_four min_four   -- for this text's walks alone
set_option linter.unusedVariables false
set_option linter.unusedSimpArgs false


/-! ### calamuslaw24_PastePuts -/
def calamuslaw24_PastePuts.j0 : Nat → ByteArray → Int → Bool → Int → Bool → Int → Bool → ByteArray → Option (Bool)
  | 0, _, _, _, _, _, _, _, _ => none
  | k + 1, x0, x1, x3, x4, x25, x170000, x170001, x170002 => if x25 = true then ((calamuslaw24_lives.f k).bind fun t170 => (some t170)) else ((paste_Put.f k x0 x1 x170000 x170001 x170002 x3 x4).bind fun bt171 => ((calamusref24_Put.f k x0 x1 x170000 x170001 x170002 x3 x4).bind fun bt174 => (if bt171.1.toList = bt174.1.toList then (if bt171.2.1 = bt174.2.1 then (if bt171.2.2 = bt174.2.2 then ((calamuslaw24_lives.f k).bind fun t177 => (some t177)) else (some false)) else (some false)) else (some false))))
def calamuslaw24_PastePuts.f (k : Nat) (a0 : ByteArray) (a1 : Int) (a2_0 : Int) (a2_1 : Bool) (a2_2 : ByteArray) (a3 : Bool) (a4 : Int) : Option (Bool) := if (a0.size : Int) > 500 then (calamuslaw24_PastePuts.j0 k a0 a1 a3 a4 true a2_0 a2_1 a2_2) else (calamuslaw24_PastePuts.j0 k a0 a1 a3 a4 (decide ((a2_2.size : Int) > 5000)) a2_0 a2_1 a2_2)
theorem calamuslaw24_PastePuts.mono_l : ∀ k, (∀ y0 y1 y2 y3 y4 y5 y6 y7, LeO (calamuslaw24_PastePuts.j0 k y0 y1 y2 y3 y4 y5 y6 y7) (calamuslaw24_PastePuts.j0 (k + 1) y0 y1 y2 y3 y4 y5 y6 y7))
  | 0 => fun _ _ _ _ _ _ _ _ r h => by simp [calamuslaw24_PastePuts.j0] at h
  | k + 1 => by
    have ih0 := calamuslaw24_PastePuts.mono_l k
    · intro y0 y1 y2 y3 y4 y5 y6 y7
      unfold calamuslaw24_PastePuts.j0
      repeat' first
      | (with_reducible exact ih0 _ _ _ _ _ _ _ _)
      | (with_reducible exact calamuslaw24_lives.mono _)
      | (with_reducible exact calamusref24_Put.mono _ _ _ _ _ _ _ _)
      | (with_reducible exact paste_Put.mono _ _ _ _ _ _ _ _)
      | (with_reducible exact LeO.refl _)
      | (with_reducible exact LeO.none _)
      | (with_reducible refine LeO.ite ?_ ?_)
      | (with_reducible refine LeO.bind ?_ (fun _ => ?_))
      | exact ih0 _ _ _ _ _ _ _ _
      | exact calamuslaw24_lives.mono _
      | exact calamusref24_Put.mono _ _ _ _ _ _ _ _
      | exact paste_Put.mono _ _ _ _ _ _ _ _
      | exact LeO.none _
      | refine LeO.ite ?_ ?_
      | refine LeO.bind ?_ (fun _ => ?_)
theorem calamuslaw24_PastePuts.mono : ∀ a0 a1 a2 a3 a4 a5 a6 k, LeO (calamuslaw24_PastePuts.f k a0 a1 a2 a3 a4 a5 a6) (calamuslaw24_PastePuts.f (k + 1) a0 a1 a2 a3 a4 a5 a6) := by
  intro a0 a1 a2 a3 a4 a5 a6 k
  have ih0 := calamuslaw24_PastePuts.mono_l k
  unfold calamuslaw24_PastePuts.f
  repeat' first
      | (with_reducible exact ih0 _ _ _ _ _ _ _ _)
      | (with_reducible exact calamuslaw24_lives.mono _)
      | (with_reducible exact calamusref24_Put.mono _ _ _ _ _ _ _ _)
      | (with_reducible exact paste_Put.mono _ _ _ _ _ _ _ _)
      | (with_reducible exact LeO.refl _)
      | (with_reducible exact LeO.none _)
      | (with_reducible refine LeO.ite ?_ ?_)
      | (with_reducible refine LeO.bind ?_ (fun _ => ?_))
      | exact ih0 _ _ _ _ _ _ _ _
      | exact calamuslaw24_lives.mono _
      | exact calamusref24_Put.mono _ _ _ _ _ _ _ _
      | exact paste_Put.mono _ _ _ _ _ _ _ _
      | exact LeO.none _
      | refine LeO.ite ?_ ?_
      | refine LeO.bind ?_ (fun _ => ?_)
set_option maxHeartbeats 8000000 in
set_option maxRecDepth 100000 in
theorem calamuslaw24_PastePuts.calls (k : Nat) (a0 : ByteArray) (a1 : Int) (a2_0 : Int) (a2_1 : Bool) (a2_2 : ByteArray) (a3 : Bool) (a4 : Int) (r : Bool) (w : World) (h : calamuslaw24_PastePuts.f k a0 a1 a2_0 a2_1 a2_2 a3 a4 = some r) :
    Calls Tryd.prog 3 #[.string a0, .int .i64 a1, .agg #[.int .i64 a2_0, .bool a2_1, .string a2_2], .bool a3, .int .i64 a4] w fun e w' => e = .returned (.bool r) ∧ Below w.heap.size w w' := by
  have hu23 := Tryd.underlying23
  have HB := Aside0.mk (Below.refl w.heap.size w)
  have H : (if (a0.size : Int) > 500 then (calamuslaw24_PastePuts.j0 k a0 a1 a3 a4 true a2_0 a2_1 a2_2) else (calamuslaw24_PastePuts.j0 k a0 a1 a3 a4 (decide ((a2_2.size : Int) > 5000)) a2_0 a2_1 a2_2)) = some r := h
  clear h
  have HC6 := Aside0.mk H
  clear H
  go_enter Tryd.func3, Tryd.ntmps3
  go_upto_region 1 with (first | ((with_reducible refine gate_dst (N := 7) rfl ?_); refine box_event ?hg (N := 7) ?hd (cs := #[.int .i64 a2_0, .bool a2_1, .string a2_2]) (t := 23) ?hr ?_; (case hd => rfl); (case hg => rfl); (case hr => first | (go_simp; done) | (go_simp; rfl)); intro gb169 hg w7 hbox hb; have n0_ := Aside0.mk (below_step (by repeat (first | (with_reducible first | exact HB.out | apply below_alloc | apply pw_below_drewN | apply below_drew1) | exact HB.out)) hb); have n1_ := Aside0.mk (hbox); have n2_ := Aside0.mk ((by rw [hg]; exact (below_size (by repeat (first | (with_reducible first | exact HB.out | apply below_alloc | apply pw_below_drewN | apply below_drew1) | exact HB.out))) : w.heap.size ≤ gb169)); have n3_ := Aside0.mk ((by rw [hg]; exact (below_size (by repeat (first | (with_reducible first | exact HB.out | apply below_alloc | apply pw_below_drewN | apply below_drew1) | exact HB.out))) : w.heap.size ≤ gb169)); clear HB; have HB := n0_; have BK169 := n1_; have GW169 := n2_; have GE169 := n3_; clear n0_ n1_ n2_ n3_; clear hb hbox hg))
  (try simp only [Act.put, List.setIfInBounds_toArray, List.set_cons_zero, List.set_cons_succ])
  go_cut [25] (fun v25 wc => ∃ (kq : Nat) (x25_5 : Bool), v25 = .bool x25_5 ∧ Aside0 (calamuslaw24_PastePuts.j0 kq a0 a1 a3 a4 x25_5 a2_0 a2_1 a2_2 = some r) ∧ Aside0 (kq ≤ k) ∧ Aside0 (wc.heap[gb169]? = some (.cells #[.int .i64 a2_0, .bool a2_1, .string a2_2] 23 (0, 0))) ∧ Aside0 (Below w.heap.size w wc))
  case first =>
    have H := HC6.out
    clear HC6
    by_cases c8 : (a0.size : Int) > 500
    · rw [if_pos c8] at H
      have c8b0 : decide (500 < (a0.size : Int)) = true := decide_eq_true c8
      have c8b1 : decide (500 < a0.size) = true := decide_eq_true (by omega)
      clear c8
      (first | rw [c8b0] | (simp only [i64_w, i32_w]; rw [c8b0]) | skip)
      have H' := Aside0.mk H
      clear H
      go_wp2
      go_meet
      case rel => exact ⟨_, (true), (by first | rfl | (simp; done) | (simp [*]; done)), H', ⟨by first | omega | exact Nat.le_refl _⟩, ⟨by (with_reducible repeat (first | refine blk_drewN ?_ _ | refine blk_drew ?_ | refine blk_alloc ?_ _)); exact BK169.out⟩, ⟨by repeat (first | (with_reducible first | exact HB.out | apply below_alloc | apply pw_below_drewN | apply below_drew1 | refine below_set ?_ GE169.out) | exact HB.out)⟩⟩
    · rw [if_neg c8] at H
      have c8b0 : decide (500 < (a0.size : Int)) = false := decide_eq_false c8
      have c8b1 : decide (500 < a0.size) = false := decide_eq_false (by omega)
      clear c8
      (first | rw [c8b0] | (simp only [i64_w, i32_w]; rw [c8b0]) | skip)
      have H' := Aside0.mk H
      clear H
      have hcz9_0 : w7.cell? ⟨gb169, 0, none⟩ = some (.int .i64 a2_0) := (blk_cell BK169.out 0).trans rfl
      have hcz9_1 : w7.cell? ⟨gb169, 1, none⟩ = some (.bool a2_1) := (blk_cell BK169.out 1).trans rfl
      have hcz9_2 : w7.cell? ⟨gb169, 2, none⟩ = some (.string a2_2) := (blk_cell BK169.out 2).trans rfl
      have hfz9_0 := blk_frozen BK169.out 0
      have hfz9_1 := blk_frozen BK169.out 1
      have hfz9_2 := blk_frozen BK169.out 2
      go_wp2
      go_meet
      case rel => exact ⟨_, (decide ((a2_2.size : Int) > 5000)), (by first | rfl | (simp; done) | (simp [*]; done)), H', ⟨by first | omega | exact Nat.le_refl _⟩, ⟨by (with_reducible repeat (first | refine blk_drewN ?_ _ | refine blk_drew ?_ | refine blk_alloc ?_ _)); exact BK169.out⟩, ⟨by repeat (first | (with_reducible first | exact HB.out | apply below_alloc | apply pw_below_drewN | apply below_drew1 | refine below_set ?_ GE169.out) | exact HB.out)⟩⟩
  case rest =>
    clear HC6
    try clear p2
    try clear c3
    try clear c8
    try clear c8b0
    try clear c8b1
    try clear hcz9_0
    try clear hcz9_1
    try clear hcz9_2
    try clear hfz9_0
    try clear hfz9_1
    try clear hfz9_2
    obtain ⟨kq, x25_5, rfl, HA, HJ5, BK169, HB⟩ := hcut
    cases kq with
    | zero => exact absurd HA.out (by simp [calamuslaw24_PastePuts.j0])
    | succ kj5 =>
      have H := HA.out
      clear HA
      simp only [calamuslaw24_PastePuts.j0] at H
      by_cases c10 : x25_5 = true
      · subst c10
        have H1 : ((calamuslaw24_lives.f kj5).bind fun t170 => (some t170)) = some r := by rw [if_pos rfl] at H; exact H
        clear H
        have H := H1
        clear H1
        replace H := Option.bind_eq_some_iff.mp H
        obtain ⟨t170, A110, H⟩ := H
        replace H : (some t170) = some r := H
        have A11 := Aside0.mk A110
        clear A110
        obtain rfl := Option.some.inj H
        go_wp2_with (first | ((with_reducible refine gate_callee (f := 7) rfl ?_); refine goesL_ (some 26) rfl rfl Tryd.func7 (by kernel_rfl) rfl #[] rfl (by (try simp only [List.map_toArray, List.map_cons, List.map_nil]); first | done | rfl | (simp only [List.length_drop, List.length_take]; rfl)) ?_; (with_reducible refine (calamuslaw24_lives.calls kj5  t170 _ A11.out).mono ?_); rintro e w12 ⟨rfl, hb⟩; refine ⟨_, rfl, ?_⟩; have n0_ := Aside0.mk (blk_below (g := gb169) (o := .cells #[.int .i64 a2_0, .bool a2_1, .string a2_2] 23 (0, 0)) (by (with_reducible repeat (first | refine blk_drewN ?_ _ | refine blk_drew ?_ | refine blk_alloc ?_ _)); exact BK169.out) hb); have n1_ := Aside0.mk (below_step (by repeat (first | (with_reducible first | exact HB.out | apply below_alloc | apply pw_below_drewN | apply below_drew1 | refine below_set ?_ GE169.out) | exact HB.out)) hb); clear BK169; clear HB; have BK169 := n0_; have HB := n1_; clear n0_ n1_; (try clear hb); (try clear hb2); (try clear hk); (try clear hi)))
        go_ret
        exact ⟨by first | rfl | (simp [errW_none, errW_some] <;> rfl) | (simp [*, errW_none, errW_some] <;> rfl), by repeat (first | (with_reducible first | exact HB.out | apply below_alloc | apply pw_below_drewN | apply below_drew1 | refine below_set ?_ GE169.out) | exact HB.out)⟩
      · replace c10 := Bool.eq_false_iff.mpr c10
        subst c10
        have H1 : ((paste_Put.f kj5 a0 a1 a2_0 a2_1 a2_2 a3 a4).bind fun bt171 => ((calamusref24_Put.f kj5 a0 a1 a2_0 a2_1 a2_2 a3 a4).bind fun bt174 => (if bt171.1.toList = bt174.1.toList then (if bt171.2.1 = bt174.2.1 then (if bt171.2.2 = bt174.2.2 then ((calamuslaw24_lives.f kj5).bind fun t177 => (some t177)) else (some false)) else (some false)) else (some false)))) = some r := by rw [if_neg (show ¬ (false = true) by decide)] at H; exact H
        clear H
        have H := H1
        clear H1
        replace H := Option.bind_eq_some_iff.mp H
        obtain ⟨⟨t171, t172, t173⟩, A130, H⟩ := H
        replace H : ((calamusref24_Put.f kj5 a0 a1 a2_0 a2_1 a2_2 a3 a4).bind fun bt174 => (if t171.toList = bt174.1.toList then (if t172 = bt174.2.1 then (if t173 = bt174.2.2 then ((calamuslaw24_lives.f kj5).bind fun t177 => (some t177)) else (some false)) else (some false)) else (some false))) = some r := H
        have A13 := Aside0.mk A130
        clear A130
        replace H := Option.bind_eq_some_iff.mp H
        obtain ⟨⟨t174, t175, t176⟩, A140, H⟩ := H
        replace H : (if t171.toList = t174.toList then (if t172 = t175 then (if t173 = t176 then ((calamuslaw24_lives.f kj5).bind fun t177 => (some t177)) else (some false)) else (some false)) else (some false)) = some r := H
        have A14 := Aside0.mk A140
        clear A140
        by_cases c15 : t171.toList = t174.toList
        · rw [if_pos c15] at H
          have c15b0 : (t171.toList == t174.toList) = true := beq_iff_eq.mpr c15
          have c15b1 : (t171.toList != t174.toList) = false := bne_eq_false_iff_eq.mpr c15
          clear c15
          by_cases c16 : t172 = t175
          · rw [if_pos c16] at H
            have c16b0 : (t172 == t175) = true := beq_iff_eq.mpr c16
            have c16b1 : (t172 != t175) = false := bne_eq_false_iff_eq.mpr c16
            clear c16
            by_cases c17 : t173 = t176
            · rw [if_pos c17] at H
              have c17b0 : (t173 == t176) = true := beq_iff_eq.mpr c17
              have c17b1 : (t173 != t176) = false := bne_eq_false_iff_eq.mpr c17
              clear c17
              replace H := Option.bind_eq_some_iff.mp H
              obtain ⟨t177, A180, H⟩ := H
              replace H : (some t177) = some r := H
              have A18 := Aside0.mk A180
              clear A180
              obtain rfl := Option.some.inj H
              have hcz19_0 : wc.cell? ⟨gb169, 0, none⟩ = some (.int .i64 a2_0) := (blk_cell BK169.out 0).trans rfl
              have hcz19_1 : wc.cell? ⟨gb169, 1, none⟩ = some (.bool a2_1) := (blk_cell BK169.out 1).trans rfl
              have hcz19_2 : wc.cell? ⟨gb169, 2, none⟩ = some (.string a2_2) := (blk_cell BK169.out 2).trans rfl
              have hfz19_0 := blk_frozen BK169.out 0
              have hfz19_1 := blk_frozen BK169.out 1
              have hfz19_2 := blk_frozen BK169.out 2
              go_wp2_with (first | ((with_reducible refine gate_callee (f := 8) rfl ?_); refine goesL_ (some 33) rfl rfl Tryd.func8 (by kernel_rfl) rfl #[.string a0, .int .i64 a1, .agg #[.int .i64 a2_0, .bool a2_1, .string a2_2], .bool a3, .int .i64 a4] rfl (by (try simp only [List.map_toArray, List.map_cons, List.map_nil]); first | done | rfl | (simp only [List.length_drop, List.length_take]; rfl)) ?_; (with_reducible refine (paste_Put.calls kj5 a0 a1 a2_0 a2_1 a2_2 a3 a4 t171 t172 t173 _ A13.out).mono ?_); rintro e w20 ⟨rfl, hb⟩; refine ⟨_, rfl, ?_⟩; have n0_ := Aside0.mk (blk_below (g := gb169) (o := .cells #[.int .i64 a2_0, .bool a2_1, .string a2_2] 23 (0, 0)) (by (with_reducible repeat (first | refine blk_drewN ?_ _ | refine blk_drew ?_ | refine blk_alloc ?_ _)); exact BK169.out) hb); have n1_ := Aside0.mk (below_step (by repeat (first | (with_reducible first | exact HB.out | apply below_alloc | apply pw_below_drewN | apply below_drew1 | refine below_set ?_ GE169.out) | exact HB.out)) hb); clear BK169; clear HB; have BK169 := n0_; have HB := n1_; clear n0_ n1_; (try clear hb); (try clear hb2); (try clear hk); (try clear hi); have hcz21_0 : w20.cell? ⟨gb169, 0, none⟩ = some (.int .i64 a2_0) := (blk_cell BK169.out 0).trans rfl; have hcz21_1 : w20.cell? ⟨gb169, 1, none⟩ = some (.bool a2_1) := (blk_cell BK169.out 1).trans rfl; have hcz21_2 : w20.cell? ⟨gb169, 2, none⟩ = some (.string a2_2) := (blk_cell BK169.out 2).trans rfl; have hfz21_0 := blk_frozen BK169.out 0; have hfz21_1 := blk_frozen BK169.out 1; have hfz21_2 := blk_frozen BK169.out 2) | ((with_reducible refine gate_callee (f := 9) rfl ?_); refine goesL_ (some 43) rfl rfl Tryd.func9 (by kernel_rfl) rfl #[.string a0, .int .i64 a1, .agg #[.int .i64 a2_0, .bool a2_1, .string a2_2], .bool a3, .int .i64 a4] rfl (by (try simp only [List.map_toArray, List.map_cons, List.map_nil]); first | done | rfl | (simp only [List.length_drop, List.length_take]; rfl)) ?_; (with_reducible refine (calamusref24_Put.calls kj5 a0 a1 a2_0 a2_1 a2_2 a3 a4 t174 t175 t176 _ A14.out).mono ?_); rintro e w22 ⟨rfl, hb⟩; refine ⟨_, rfl, ?_⟩; have n0_ := Aside0.mk (blk_below (g := gb169) (o := .cells #[.int .i64 a2_0, .bool a2_1, .string a2_2] 23 (0, 0)) (by (with_reducible repeat (first | refine blk_drewN ?_ _ | refine blk_drew ?_ | refine blk_alloc ?_ _)); exact BK169.out) hb); have n1_ := Aside0.mk (below_step (by repeat (first | (with_reducible first | exact HB.out | apply below_alloc | apply pw_below_drewN | apply below_drew1 | refine below_set ?_ GE169.out) | exact HB.out)) hb); clear BK169; clear HB; have BK169 := n0_; have HB := n1_; clear n0_ n1_; (try clear hb); (try clear hb2); (try clear hk); (try clear hi)) | (go_at_call 7; (with_reducible refine (calamuslaw24_lives.calls kj5  t177 _ A18.out).mono ?_); rintro e w23 ⟨rfl, hb⟩; have n0_ := Aside0.mk (blk_below (g := gb169) (o := .cells #[.int .i64 a2_0, .bool a2_1, .string a2_2] 23 (0, 0)) (by (with_reducible repeat (first | refine blk_drewN ?_ _ | refine blk_drew ?_ | refine blk_alloc ?_ _)); exact BK169.out) hb); have n1_ := Aside0.mk (below_step (by repeat (first | (with_reducible first | exact HB.out | apply below_alloc | apply pw_below_drewN | apply below_drew1 | refine below_set ?_ GE169.out) | exact HB.out)) hb); clear BK169; clear HB; have BK169 := n0_; have HB := n1_; clear n0_ n1_; (try clear hb); (try clear hb2); (try clear hk); (try clear hi)))
              go_ret
              exact ⟨by first | rfl | (simp [errW_none, errW_some] <;> rfl) | (simp [*, errW_none, errW_some] <;> rfl), by repeat (first | (with_reducible first | exact HB.out | apply below_alloc | apply pw_below_drewN | apply below_drew1 | refine below_set ?_ GE169.out) | exact HB.out)⟩
            · rw [if_neg c17] at H
              have c17b0 : (t173 == t176) = false := beq_eq_false_iff_ne.mpr c17
              have c17b1 : (t173 != t176) = true := bne_iff_ne.mpr c17
              obtain rfl := Option.some.inj H
              have hcz24_0 : wc.cell? ⟨gb169, 0, none⟩ = some (.int .i64 a2_0) := (blk_cell BK169.out 0).trans rfl
              have hcz24_1 : wc.cell? ⟨gb169, 1, none⟩ = some (.bool a2_1) := (blk_cell BK169.out 1).trans rfl
              have hcz24_2 : wc.cell? ⟨gb169, 2, none⟩ = some (.string a2_2) := (blk_cell BK169.out 2).trans rfl
              have hfz24_0 := blk_frozen BK169.out 0
              have hfz24_1 := blk_frozen BK169.out 1
              have hfz24_2 := blk_frozen BK169.out 2
              go_wp2_with (first | ((with_reducible refine gate_callee (f := 8) rfl ?_); refine goesL_ (some 33) rfl rfl Tryd.func8 (by kernel_rfl) rfl #[.string a0, .int .i64 a1, .agg #[.int .i64 a2_0, .bool a2_1, .string a2_2], .bool a3, .int .i64 a4] rfl (by (try simp only [List.map_toArray, List.map_cons, List.map_nil]); first | done | rfl | (simp only [List.length_drop, List.length_take]; rfl)) ?_; (with_reducible refine (paste_Put.calls kj5 a0 a1 a2_0 a2_1 a2_2 a3 a4 t171 t172 t173 _ A13.out).mono ?_); rintro e w25 ⟨rfl, hb⟩; refine ⟨_, rfl, ?_⟩; have n0_ := Aside0.mk (blk_below (g := gb169) (o := .cells #[.int .i64 a2_0, .bool a2_1, .string a2_2] 23 (0, 0)) (by (with_reducible repeat (first | refine blk_drewN ?_ _ | refine blk_drew ?_ | refine blk_alloc ?_ _)); exact BK169.out) hb); have n1_ := Aside0.mk (below_step (by repeat (first | (with_reducible first | exact HB.out | apply below_alloc | apply pw_below_drewN | apply below_drew1 | refine below_set ?_ GE169.out) | exact HB.out)) hb); clear BK169; clear HB; have BK169 := n0_; have HB := n1_; clear n0_ n1_; (try clear hb); (try clear hb2); (try clear hk); (try clear hi); have hcz26_0 : w25.cell? ⟨gb169, 0, none⟩ = some (.int .i64 a2_0) := (blk_cell BK169.out 0).trans rfl; have hcz26_1 : w25.cell? ⟨gb169, 1, none⟩ = some (.bool a2_1) := (blk_cell BK169.out 1).trans rfl; have hcz26_2 : w25.cell? ⟨gb169, 2, none⟩ = some (.string a2_2) := (blk_cell BK169.out 2).trans rfl; have hfz26_0 := blk_frozen BK169.out 0; have hfz26_1 := blk_frozen BK169.out 1; have hfz26_2 := blk_frozen BK169.out 2) | ((with_reducible refine gate_callee (f := 9) rfl ?_); refine goesL_ (some 43) rfl rfl Tryd.func9 (by kernel_rfl) rfl #[.string a0, .int .i64 a1, .agg #[.int .i64 a2_0, .bool a2_1, .string a2_2], .bool a3, .int .i64 a4] rfl (by (try simp only [List.map_toArray, List.map_cons, List.map_nil]); first | done | rfl | (simp only [List.length_drop, List.length_take]; rfl)) ?_; (with_reducible refine (calamusref24_Put.calls kj5 a0 a1 a2_0 a2_1 a2_2 a3 a4 t174 t175 t176 _ A14.out).mono ?_); rintro e w27 ⟨rfl, hb⟩; refine ⟨_, rfl, ?_⟩; have n0_ := Aside0.mk (blk_below (g := gb169) (o := .cells #[.int .i64 a2_0, .bool a2_1, .string a2_2] 23 (0, 0)) (by (with_reducible repeat (first | refine blk_drewN ?_ _ | refine blk_drew ?_ | refine blk_alloc ?_ _)); exact BK169.out) hb); have n1_ := Aside0.mk (below_step (by repeat (first | (with_reducible first | exact HB.out | apply below_alloc | apply pw_below_drewN | apply below_drew1 | refine below_set ?_ GE169.out) | exact HB.out)) hb); clear BK169; clear HB; have BK169 := n0_; have HB := n1_; clear n0_ n1_; (try clear hb); (try clear hb2); (try clear hk); (try clear hi)))
              go_ret
              exact ⟨by first | rfl | (simp [errW_none, errW_some] <;> rfl) | (simp [*, errW_none, errW_some] <;> rfl), by repeat (first | (with_reducible first | exact HB.out | apply below_alloc | apply pw_below_drewN | apply below_drew1 | refine below_set ?_ GE169.out) | exact HB.out)⟩
          · rw [if_neg c16] at H
            have c16b0 : (t172 == t175) = false := beq_eq_false_iff_ne.mpr c16
            have c16b1 : (t172 != t175) = true := bne_iff_ne.mpr c16
            obtain rfl := Option.some.inj H
            have hcz28_0 : wc.cell? ⟨gb169, 0, none⟩ = some (.int .i64 a2_0) := (blk_cell BK169.out 0).trans rfl
            have hcz28_1 : wc.cell? ⟨gb169, 1, none⟩ = some (.bool a2_1) := (blk_cell BK169.out 1).trans rfl
            have hcz28_2 : wc.cell? ⟨gb169, 2, none⟩ = some (.string a2_2) := (blk_cell BK169.out 2).trans rfl
            have hfz28_0 := blk_frozen BK169.out 0
            have hfz28_1 := blk_frozen BK169.out 1
            have hfz28_2 := blk_frozen BK169.out 2
            go_wp2_with (first | ((with_reducible refine gate_callee (f := 8) rfl ?_); refine goesL_ (some 33) rfl rfl Tryd.func8 (by kernel_rfl) rfl #[.string a0, .int .i64 a1, .agg #[.int .i64 a2_0, .bool a2_1, .string a2_2], .bool a3, .int .i64 a4] rfl (by (try simp only [List.map_toArray, List.map_cons, List.map_nil]); first | done | rfl | (simp only [List.length_drop, List.length_take]; rfl)) ?_; (with_reducible refine (paste_Put.calls kj5 a0 a1 a2_0 a2_1 a2_2 a3 a4 t171 t172 t173 _ A13.out).mono ?_); rintro e w29 ⟨rfl, hb⟩; refine ⟨_, rfl, ?_⟩; have n0_ := Aside0.mk (blk_below (g := gb169) (o := .cells #[.int .i64 a2_0, .bool a2_1, .string a2_2] 23 (0, 0)) (by (with_reducible repeat (first | refine blk_drewN ?_ _ | refine blk_drew ?_ | refine blk_alloc ?_ _)); exact BK169.out) hb); have n1_ := Aside0.mk (below_step (by repeat (first | (with_reducible first | exact HB.out | apply below_alloc | apply pw_below_drewN | apply below_drew1 | refine below_set ?_ GE169.out) | exact HB.out)) hb); clear BK169; clear HB; have BK169 := n0_; have HB := n1_; clear n0_ n1_; (try clear hb); (try clear hb2); (try clear hk); (try clear hi); have hcz30_0 : w29.cell? ⟨gb169, 0, none⟩ = some (.int .i64 a2_0) := (blk_cell BK169.out 0).trans rfl; have hcz30_1 : w29.cell? ⟨gb169, 1, none⟩ = some (.bool a2_1) := (blk_cell BK169.out 1).trans rfl; have hcz30_2 : w29.cell? ⟨gb169, 2, none⟩ = some (.string a2_2) := (blk_cell BK169.out 2).trans rfl; have hfz30_0 := blk_frozen BK169.out 0; have hfz30_1 := blk_frozen BK169.out 1; have hfz30_2 := blk_frozen BK169.out 2) | ((with_reducible refine gate_callee (f := 9) rfl ?_); refine goesL_ (some 43) rfl rfl Tryd.func9 (by kernel_rfl) rfl #[.string a0, .int .i64 a1, .agg #[.int .i64 a2_0, .bool a2_1, .string a2_2], .bool a3, .int .i64 a4] rfl (by (try simp only [List.map_toArray, List.map_cons, List.map_nil]); first | done | rfl | (simp only [List.length_drop, List.length_take]; rfl)) ?_; (with_reducible refine (calamusref24_Put.calls kj5 a0 a1 a2_0 a2_1 a2_2 a3 a4 t174 t175 t176 _ A14.out).mono ?_); rintro e w31 ⟨rfl, hb⟩; refine ⟨_, rfl, ?_⟩; have n0_ := Aside0.mk (blk_below (g := gb169) (o := .cells #[.int .i64 a2_0, .bool a2_1, .string a2_2] 23 (0, 0)) (by (with_reducible repeat (first | refine blk_drewN ?_ _ | refine blk_drew ?_ | refine blk_alloc ?_ _)); exact BK169.out) hb); have n1_ := Aside0.mk (below_step (by repeat (first | (with_reducible first | exact HB.out | apply below_alloc | apply pw_below_drewN | apply below_drew1 | refine below_set ?_ GE169.out) | exact HB.out)) hb); clear BK169; clear HB; have BK169 := n0_; have HB := n1_; clear n0_ n1_; (try clear hb); (try clear hb2); (try clear hk); (try clear hi)))
            go_ret
            exact ⟨by first | rfl | (simp [errW_none, errW_some] <;> rfl) | (simp [*, errW_none, errW_some] <;> rfl), by repeat (first | (with_reducible first | exact HB.out | apply below_alloc | apply pw_below_drewN | apply below_drew1 | refine below_set ?_ GE169.out) | exact HB.out)⟩
        · rw [if_neg c15] at H
          have c15b0 : (t171.toList == t174.toList) = false := beq_eq_false_iff_ne.mpr c15
          have c15b1 : (t171.toList != t174.toList) = true := bne_iff_ne.mpr c15
          obtain rfl := Option.some.inj H
          have hcz32_0 : wc.cell? ⟨gb169, 0, none⟩ = some (.int .i64 a2_0) := (blk_cell BK169.out 0).trans rfl
          have hcz32_1 : wc.cell? ⟨gb169, 1, none⟩ = some (.bool a2_1) := (blk_cell BK169.out 1).trans rfl
          have hcz32_2 : wc.cell? ⟨gb169, 2, none⟩ = some (.string a2_2) := (blk_cell BK169.out 2).trans rfl
          have hfz32_0 := blk_frozen BK169.out 0
          have hfz32_1 := blk_frozen BK169.out 1
          have hfz32_2 := blk_frozen BK169.out 2
          go_wp2_with (first | ((with_reducible refine gate_callee (f := 8) rfl ?_); refine goesL_ (some 33) rfl rfl Tryd.func8 (by kernel_rfl) rfl #[.string a0, .int .i64 a1, .agg #[.int .i64 a2_0, .bool a2_1, .string a2_2], .bool a3, .int .i64 a4] rfl (by (try simp only [List.map_toArray, List.map_cons, List.map_nil]); first | done | rfl | (simp only [List.length_drop, List.length_take]; rfl)) ?_; (with_reducible refine (paste_Put.calls kj5 a0 a1 a2_0 a2_1 a2_2 a3 a4 t171 t172 t173 _ A13.out).mono ?_); rintro e w33 ⟨rfl, hb⟩; refine ⟨_, rfl, ?_⟩; have n0_ := Aside0.mk (blk_below (g := gb169) (o := .cells #[.int .i64 a2_0, .bool a2_1, .string a2_2] 23 (0, 0)) (by (with_reducible repeat (first | refine blk_drewN ?_ _ | refine blk_drew ?_ | refine blk_alloc ?_ _)); exact BK169.out) hb); have n1_ := Aside0.mk (below_step (by repeat (first | (with_reducible first | exact HB.out | apply below_alloc | apply pw_below_drewN | apply below_drew1 | refine below_set ?_ GE169.out) | exact HB.out)) hb); clear BK169; clear HB; have BK169 := n0_; have HB := n1_; clear n0_ n1_; (try clear hb); (try clear hb2); (try clear hk); (try clear hi); have hcz34_0 : w33.cell? ⟨gb169, 0, none⟩ = some (.int .i64 a2_0) := (blk_cell BK169.out 0).trans rfl; have hcz34_1 : w33.cell? ⟨gb169, 1, none⟩ = some (.bool a2_1) := (blk_cell BK169.out 1).trans rfl; have hcz34_2 : w33.cell? ⟨gb169, 2, none⟩ = some (.string a2_2) := (blk_cell BK169.out 2).trans rfl; have hfz34_0 := blk_frozen BK169.out 0; have hfz34_1 := blk_frozen BK169.out 1; have hfz34_2 := blk_frozen BK169.out 2) | ((with_reducible refine gate_callee (f := 9) rfl ?_); refine goesL_ (some 43) rfl rfl Tryd.func9 (by kernel_rfl) rfl #[.string a0, .int .i64 a1, .agg #[.int .i64 a2_0, .bool a2_1, .string a2_2], .bool a3, .int .i64 a4] rfl (by (try simp only [List.map_toArray, List.map_cons, List.map_nil]); first | done | rfl | (simp only [List.length_drop, List.length_take]; rfl)) ?_; (with_reducible refine (calamusref24_Put.calls kj5 a0 a1 a2_0 a2_1 a2_2 a3 a4 t174 t175 t176 _ A14.out).mono ?_); rintro e w35 ⟨rfl, hb⟩; refine ⟨_, rfl, ?_⟩; have n0_ := Aside0.mk (blk_below (g := gb169) (o := .cells #[.int .i64 a2_0, .bool a2_1, .string a2_2] 23 (0, 0)) (by (with_reducible repeat (first | refine blk_drewN ?_ _ | refine blk_drew ?_ | refine blk_alloc ?_ _)); exact BK169.out) hb); have n1_ := Aside0.mk (below_step (by repeat (first | (with_reducible first | exact HB.out | apply below_alloc | apply pw_below_drewN | apply below_drew1 | refine below_set ?_ GE169.out) | exact HB.out)) hb); clear BK169; clear HB; have BK169 := n0_; have HB := n1_; clear n0_ n1_; (try clear hb); (try clear hb2); (try clear hk); (try clear hi)))
          go_ret
          exact ⟨by first | rfl | (simp [errW_none, errW_some] <;> rfl) | (simp [*, errW_none, errW_some] <;> rfl), by repeat (first | (with_reducible first | exact HB.out | apply below_alloc | apply pw_below_drewN | apply below_drew1 | refine below_set ?_ GE169.out) | exact HB.out)⟩


end Go.Proofs.YtckfdehendifoaaDoor.QP
/- Put of layer 24 and the statement PastePuts in plain words (MOD QP). -/
namespace Go.Proofs.YtckfdehendifoaaDoor
open Go.RowKit
set_option linter.unusedVariables false
set_option linter.unusedSimpArgs false
open Go.RowKit Go.Proofs.YtckfdehendifoaaDoor.QP Go.Proofs.YtckfdehendifoaaDoorW.PrintWords Go.Proofs.YtckfdehendifoaaDoorW.PrintMore
theorem feed_tens (l : List UInt8) : decide (0 ≤ Lib.indexByte l 10) = decide (0 < tens l) := by
  have hl := lnsF_len l 0 0
  by_cases h : Lib.indexByte l 10 < 0
  · have h1 := indexByte_none l 0 0 h
    rw [h1] at hl
    simp only [List.length_singleton] at hl
    rw [decide_eq_false (by omega), decide_eq_false]
    show ¬ 0 < l.count 10
    omega
  · obtain ⟨h1, h2⟩ := indexByte_some l 0 0 (Lib.indexByte l 10).toNat (by omega)
    rw [h2, List.length_cons, lnsF_len] at hl
    rw [decide_eq_true (by omega), decide_eq_true]
    show 0 < l.count 10
    omega
theorem valid_app' (a b : List UInt8) (ha : validL a = true) (hb : validL b = true) : validL (a ++ b) = true := by
  have : ∀ (n : Nat) (a : List UInt8), a.length ≤ n → validL a = true → validL (a ++ b) = true := by
    intro n
    induction n with
    | zero =>
      intro a h _
      have : a = [] := List.eq_nil_of_length_eq_zero (by omega)
      rw [this]; exact hb
    | succ n ih =>
      intro a h ha
      rcases Nat.eq_zero_or_pos a.length with h0 | h0
      · have : a = [] := List.eq_nil_of_length_eq_zero h0
        rw [this]; exact hb
      · have hz := valid_sz ha (by omega)
        have hle := szL_le a
        have hz2 : szL (a ++ b) = szL a := by
          have := sz_tk (l := a ++ b) (k := szL a)
          obtain ⟨g1, g2, g3, g4⟩ := szL_pos hz
          refine szL_of (by rw [List.length_append]; omega) ?_ (by rw [List.length_append]; omega) ?_
          · rw [g2]; congr 1
            unfold byL
            simp [List.getElem?_append_left (show 0 < a.length by omega), List.getD_eq_getElem?_getD]
          · have e : ∀ j, j < szL a → byL (a ++ b) j = byL a j := by
              intro j hj
              unfold byL
              simp [List.getElem?_append_left (show j < a.length by omega), List.getD_eq_getElem?_getD]
            unfold begOk at g4 ⊢
            rw [List.all_eq_true] at g4 ⊢
            intro j hj
            have := g4 j hj
            have hj' := List.mem_range.1 hj
            rw [e j hj', e 0 (by omega)]; exact this
        rw [validL_step (by rw [List.length_append]; omega) (by rw [hz2]; exact hz), hz2, List.drop_append_of_le_length hle]
        rw [validL_step (by omega) hz] at ha
        exact ih (a.drop (szL a)) (by rw [List.length_drop]; omega) ha
  exact this a.length a (Nat.le_refl _) ha
theorem valid_rep {s b : List UInt8} (hs : validL s = true) (hb : validL b = true) : ∀ n, validL (repB s b n) = true
  | 0 => rfl
  | 1 => hs
  | n + 2 => by rw [repB]; exact valid_app' _ _ (valid_app' _ _ (valid_rep hs hb (n + 1)) hb) hs
theorem repT_step (s b : ByteArray) (i : Nat) : (repT s b (i + 1) ++ b) ++ s = repT s b (i + 2) := by
  apply ba_ext; rw [ls_cat, ls_cat, ls_repT, ls_repT]; rfl
theorem repT_mono (s b : ByteArray) {i j : Nat} (h : i ≤ j) : (repT s b (i + 1)).size ≤ (repT s b (j + 1)).size := by
  rw [size_repT, size_repT]
  have := Nat.mul_le_mul_right s.size (show i + 1 ≤ j + 1 by omega)
  have := Nat.mul_le_mul_right b.size h
  omega
theorem rep_l0 (s b : ByteArray) (n : Int) (hs : s.size ≤ 5000) (hb : b.size ≤ 1) (hsb : 1 ≤ s.size + b.size) : ∀ (d i : Nat), 4098 - (repT s b (i + 1)).size ≤ d → (repT s b (i + 1)).size ≤ 9200 → i + 1 ≤ 100000 → d + i ≤ 20000 → ((i + 1 : Nat) : Int) ≤ max n 1 →
    ∃ M : Nat, i ≤ M ∧ ((M + 1 : Nat) : Int) ≤ max n 1 ∧ Ev (fun K => calamusref24_rep.l0 K s b n (repT s b (i + 1)) ((i + 1 : Nat) : Int)) (repT s b (M + 1)) ∧ (((M + 1 : Nat) : Int) = max n 1 ∨ 4096 < (repT s b (M + 1)).size) ∧ (repT s b (M + 1)).size ≤ 9200 := by
  intro d
  induction d with
  | zero =>
    intro i h1 h2 h3 _ h4
    refine ⟨i, Nat.le_refl _, h4, ?_, .inr (by omega), h2⟩
    refine Ev.step (fun _ => (by rw [calamusref24_rep.l0])) ?_
    exact Ev.ite (fun _ => Ev.neg (by omega) (Ev.ret rfl)) (fun _ => Ev.ret rfl)
  | succ d ih =>
    intro i h1 h2 h3 hd h4
    by_cases hn : ((i + 1 : Nat) : Int) < n
    · by_cases hz : (repT s b (i + 1)).size ≤ 4096
      · have e1 : (repT s b (i + 1 + 1)).size = (repT s b (i + 1)).size + b.size + s.size := by
          rw [← repT_step, ByteArray.size_append, ByteArray.size_append]
        obtain ⟨M, m1, m2, m3, m4, m5⟩ := ih (i + 1) (by omega) (by omega) (by omega) (by omega) (by omega)
        refine ⟨M, by omega, m2, ?_, m4, m5⟩
        refine Ev.step (fun _ => (by rw [calamusref24_rep.l0])) ?_
        refine Ev.pos hn (Ev.pos (by omega) (Ev.pos (by omega) (Ev.pos (by rw [ByteArray.size_append]; omega) ?_)))
        rw [repT_step, w64 (by omega) (by omega)]
        exact m3
      · refine ⟨i, Nat.le_refl _, h4, ?_, .inr (by omega), h2⟩
        refine Ev.step (fun _ => (by rw [calamusref24_rep.l0])) ?_
        exact Ev.pos hn (Ev.neg (by omega) (Ev.ret rfl))
    · refine ⟨i, Nat.le_refl _, h4, ?_, .inl (by omega), h2⟩
      refine Ev.step (fun _ => (by rw [calamusref24_rep.l0])) ?_
      exact Ev.neg hn (Ev.ret rfl)
theorem rep_ev (s b : ByteArray) (n : Int) (hs : s.size ≤ 5000) (hb : b.size ≤ 1) (hsb : 1 ≤ s.size + b.size) : ∃ M : Nat, ((M + 1 : Nat) : Int) ≤ max n 1 ∧ Ev (fun K => calamusref24_rep.f K s b n) (repT s b (M + 1)) ∧ (((M + 1 : Nat) : Int) = max n 1 ∨ 4096 < (repT s b (M + 1)).size) ∧ (repT s b (M + 1)).size ≤ 9200 := by
  have e : repT s b (0 + 1) = s := ba_ext (by rw [ls_repT]; rfl)
  obtain ⟨M, _, m2, m3, m4, m5⟩ := rep_l0 s b n hs hb hsb 4098 0 (by omega) (by rw [e]; omega) (by omega) (by omega) (by omega)
  refine ⟨M, m2, ?_, m4, m5⟩
  rw [e] at m3
  exact m3
end Go.Proofs.YtckfdehendifoaaDoor
/- Put of layer 24 and the statement PastePuts in plain words, further (MOD QP). -/
namespace Go.Proofs.YtckfdehendifoaaDoor
open Go.RowKit
set_option linter.unusedVariables false
set_option linter.unusedSimpArgs false
open Go.RowKit Go.Proofs.YtckfdehendifoaaDoor.QP Go.Proofs.YtckfdehendifoaaDoorW.PrintWords Go.Proofs.YtckfdehendifoaaDoorW.PrintMore
def feedS : ByteArray := ⟨#[10]⟩
theorem size_feedS : feedS.size = 1 := rfl
def putS (t s : ByteArray) (a : Nat) : ByteArray := (t.extract 0 a ++ s) ++ t.extract a t.size
theorem size_putS (t s : ByteArray) (a : Nat) (h : a ≤ t.size) : (putS t s a).size = t.size + s.size := by
  unfold putS
  rw [ByteArray.size_append, ByteArray.size_append, ByteArray.size_extract, ByteArray.size_extract]; omega
theorem insert_val (t s : ByteArray) (a : Nat) (ha : a ≤ t.size) (ht : t.size ≤ 100000) (hs : s.size ≤ 1000000) : paste_insert.f t a s = some (if t.size + s.size ≤ 4096 then (putS t s a, 0) else (⟨#[]⟩, 8)) := by
  by_cases h : t.size + s.size ≤ 4096
  · rw [if_pos h]; exact insert_ok t s a ha h
  · rw [if_neg h]; exact insert_long t s a ht hs h
theorem plines_j0 (t s : ByteArray) (a : Nat) (k : Int) (ha : a ≤ t.size) (ht : t.size ≤ 500) (hs : s.size ≤ 1000000) : Ev (fun K => paste_lines.j0 K t s a k) (if t.size + s.size ≤ 4096 then (putS t s a, firstI (ls (putS t s a)) k, 0) else (⟨#[]⟩, 0, 8)) := by
  refine Ev.step (fun _ => (by rw [paste_lines.j0])) ?_
  refine Ev.call (insert_val t s a ha (by omega) hs) ?_
  by_cases h : t.size + s.size ≤ 4096
  · rw [if_pos h, if_pos h]
    refine Ev.pos rfl (Ev.call (first_val _ _ ?_) (Ev.ret rfl))
    show (putS t s a).size ≤ 1000000
    rw [size_putS t s a ha]; omega
  · rw [if_neg h, if_neg h]
    exact Ev.neg (by decide) (Ev.ret rfl)
def linesX (t rt : ByteArray) (k : Int) (ahead : Bool) (n : Int) : ByteArray × Int × Int :=
  if max n 1 ≤ 4097 ∧ t.size + (max n 1).toNat * (rt.size + 1) ≤ 4096 then
    (if ahead = true then (putS t (repT rt feedS (max n 1).toNat ++ feedS) (startI (ls t) k).toNat, firstI (ls (putS t (repT rt feedS (max n 1).toNat ++ feedS) (startI (ls t) k).toNat)) k, 0)
      else (putS t (feedS ++ repT rt feedS (max n 1).toNat) (endI (ls t) k).toNat, firstI (ls (putS t (feedS ++ repT rt feedS (max n 1).toNat) (endI (ls t) k).toNat)) (k + 1), 0))
  else (⟨#[]⟩, 0, 8)
theorem size_repF (rt : ByteArray) {N : Nat} (h : 1 ≤ N) : (repT rt feedS N).size + 1 = N * (rt.size + 1) := by
  obtain ⟨m, rfl⟩ := Nat.exists_eq_succ_of_ne_zero (show N ≠ 0 by omega)
  rw [size_repT, size_feedS, Nat.mul_one, Nat.mul_add]; simp only [Nat.succ_eq_add_one]; omega
theorem plines_ev (t rt : ByteArray) {q : Nat} (ahead : Bool) (n : Int) (ht : t.size ≤ 500) (hr : rt.size ≤ 5000) (hp : placeB (ls t) q = true) : Ev (fun K => paste_lines.f K t (ofI (ls t) q) rt ahead (max n 1)) (linesX t rt (ofI (ls t) q) ahead n) := by
  obtain ⟨e, k1, k2, k3, k4, k5, k6, k7, k8⟩ := line_pair hp
  have hle := (valid_at hp).2.1
  rw [ls_len] at k6 hle
  have ho : 0 ≤ ofI (ls t) q ∧ ofI (ls t) q ≤ t.size := by
    obtain ⟨_, hle', hv⟩ := valid_at hp
    obtain ⟨g1, _⟩ := start_of hle' hv
    have := fds_le (ls t) q
    rw [g1]; omega
  obtain ⟨N, hN⟩ : ∃ N : Nat, max n 1 = N := ⟨(max n 1).toNat, by omega⟩
  unfold linesX
  rw [hN, Int.toNat_natCast]
  unfold paste_lines.f
  have hc : ((N * (rt.size + 1) : Nat) : Int) = (N : Int) * ((rt.size : Int) + 1) := by push_cast; rfl
  by_cases hL : N ≤ 4097 ∧ N * (rt.size + 1) ≤ 8194
  · have ht' := times_ev rt feedS N (by omega) hL.1 (by rw [size_feedS]; exact hL.2)
    have hz := size_repF rt (N := N) (by omega)
    generalize repT rt feedS N = R at ht' hz ⊢
    refine Ev.bind ht' (Ev.pos rfl (Ev.call (line_End.eq t _ (by omega)) (Ev.pos (by show 1 + R.size ≤ _; omega) ?_)))
    rw [w64 (n := ofI (ls t) q + 1) (by omega) (by omega), k2, k3, Int.toNat_natCast, Int.toNat_natCast]
    have z1 : (feedS ++ R).size = 1 + R.size := by rw [ByteArray.size_append, size_feedS]
    have e1 : (feedS ++ R).extract 1 (feedS ++ R).size = R := by
      apply ba_ext; rw [ls_ext, ls_cat]; rfl
    cases ahead with
    | true =>
      refine Ev.pos rfl (Ev.call (line_Start.eq t _ (by omega)) ?_)
      rw [k2]
      refine Ev.pos (by show (1 : Int) ≤ ((feedS ++ R).size : Int); rw [z1]; omega) (Ev.pos (by show ((feedS ++ R).extract 1 (feedS ++ R).size).size + 1 ≤ _; rw [e1]; omega) ?_)
      show Ev (fun K => paste_lines.j0 K t ((feedS ++ R).extract 1 (feedS ++ R).size ++ feedS) ((lst (ls t) q : Nat) : Int) (ofI (ls t) q)) _
      rw [e1]
      have z2 : (R ++ feedS).size = R.size + 1 := by rw [ByteArray.size_append, size_feedS]
      refine Ev.eq (plines_j0 t (R ++ feedS) (lst (ls t) q) (ofI (ls t) q) (by omega) ht (by rw [z2]; omega)) ?_
      rw [z2, if_pos rfl]
      by_cases hs : t.size + (R.size + 1) ≤ 4096
      · rw [if_pos hs, if_pos (by omega)]
      · rw [if_neg hs, if_neg (by omega)]
    | false =>
      refine Ev.neg (by simp) ?_
      show Ev (fun K => paste_lines.j0 K t (feedS ++ R) (e : Int) (ofI (ls t) q + 1)) _
      refine Ev.eq (plines_j0 t (feedS ++ R) e (ofI (ls t) q + 1) (by omega) ht (by rw [z1]; omega)) ?_
      rw [z1, if_neg (show ¬ (false = true) by simp)]
      by_cases hs : t.size + (1 + R.size) ≤ 4096
      · rw [if_pos hs, if_pos (by omega)]
      · rw [if_neg hs, if_neg (by omega)]
  · have ht' := times_long rt feedS N (by rw [size_feedS]; omega) (by omega) (by rw [size_feedS]; show (N : Int) > 4097 ∨ (N : Int) * ((rt.size : Int) + 1) > 8194; omega)
    rw [if_neg (by omega)]
    exact Ev.bind ht' (Ev.neg (by simp) (Ev.ret rfl))
theorem rput_j3 (t s : ByteArray) (ahead : Bool) (k : Int) (a : Nat) (rn : Int) (lines : Bool) (rt : ByteArray) (ha : a ≤ t.size) (ht : t.size ≤ 500) (hs : s.size ≤ 100000) (X : ByteArray × Int × Int)
    (h1 : ¬ t.size + s.size ≤ 4096 → X = (⟨#[]⟩, 0, 8)) (h2 : t.size + s.size ≤ 4096 → Ev (fun K => calamusref24_Put.j4 K k a s (putS t s a) (lines && ahead) rn lines rt) X) : Ev (fun K => calamusref24_Put.j3 K t ahead k a s rn lines rt) X := by
  have z1 : (t.extract 0 a).size = a := by rw [ByteArray.size_extract]; omega
  have z2 : (t.extract a t.size).size = t.size - a := by rw [ByteArray.size_extract]; omega
  refine Ev.step (fun _ => (by rw [calamusref24_Put.j3])) ?_
  refine Ev.pos (by omega) (Ev.pos (by omega) ?_)
  rw [Int.toNat_natCast]
  refine Ev.pos (by rw [z1]; omega) (Ev.pos (by rw [ByteArray.size_append, z1, z2]; omega) ?_)
  have z3 : (((t.extract 0 a ++ s) ++ t.extract a t.size).size : Int) = t.size + s.size := by have := size_putS t s a ha; unfold putS at this; rw [this]; omega
  rw [z3]
  by_cases h : t.size + s.size ≤ 4096
  · have h3 := h2 h
    refine Ev.neg (by omega) ?_
    cases lines with
    | true => exact Ev.pos rfl h3
    | false => exact Ev.neg (by simp) h3
  · rw [h1 h]
    exact Ev.pos (by omega) (Ev.ret rfl)
end Go.Proofs.YtckfdehendifoaaDoor
/- The statement PastePuts in plain words (MOD QP). -/
namespace Go.Proofs.YtckfdehendifoaaDoor
open Go.RowKit
set_option linter.unusedVariables false
set_option linter.unusedSimpArgs false
open Go.RowKit Go.Proofs.YtckfdehendifoaaDoor.QP Go.Proofs.YtckfdehendifoaaDoorW.PrintWords Go.Proofs.YtckfdehendifoaaDoorW.PrintMore
theorem lines_fit (t rt : ByteArray) (n : Int) {M : Nat} (m1 : ((M + 1 : Nat) : Int) ≤ max n 1) (m3 : ((M + 1 : Nat) : Int) = max n 1 ∨ 4096 < (repT rt feedS (M + 1)).size) :
    (max n 1 ≤ 4097 ∧ t.size + (max n 1).toNat * (rt.size + 1) ≤ 4096 → ((M + 1 : Nat) : Int) = max n 1 ∧ t.size + ((repT rt feedS (M + 1)).size + 1) ≤ 4096) ∧ (t.size + ((repT rt feedS (M + 1)).size + 1) ≤ 4096 → max n 1 ≤ 4097 ∧ t.size + (max n 1).toNat * (rt.size + 1) ≤ 4096 ∧ ((M + 1 : Nat) : Int) = max n 1) := by
  obtain ⟨N, hN⟩ : ∃ N : Nat, max n 1 = N + 1 := ⟨(max n 1).toNat - 1, by omega⟩
  have hz := size_repF rt (N := N + 1) (by omega)
  have hm := size_repF rt (N := M + 1) (by omega)
  have hmo := repT_mono rt feedS (show M ≤ N by omega)
  have hle : N + 1 ≤ (N + 1) * (rt.size + 1) := Nat.le_mul_of_pos_right _ (by omega)
  rw [hN] at m3 ⊢
  rw [show ((N : Int) + 1).toNat = N + 1 by omega]
  constructor
  · rintro ⟨_, h2⟩
    have h3 : ((M + 1 : Nat) : Int) = N + 1 := by
      rcases m3 with h | h
      · exact h
      · omega
    obtain rfl : M = N := by omega
    exact ⟨h3, by omega⟩
  · intro h
    have h3 : ((M + 1 : Nat) : Int) = N + 1 := by
      rcases m3 with h3 | h3
      · exact h3
      · omega
    obtain rfl : M = N := by omega
    exact ⟨by omega, by omega, h3⟩
theorem rlines_ev (t rt : ByteArray) {q : Nat} (ahead : Bool) (n rn : Int) (ht : t.size ≤ 500) (hr : rt.size ≤ 5000) (hp : placeB (ls t) q = true) : Ev (fun K => calamusref24_Put.j1 K t q ahead n false rn true rt) (linesX t rt (ofI (ls t) q) ahead n) := by
  obtain ⟨e, k1, k2, k3, k4, k5, k6, k7, k8⟩ := line_pair hp
  have hle := (valid_at hp).2.1
  rw [ls_len] at k6 hle
  have ho : 0 ≤ ofI (ls t) q ∧ ofI (ls t) q ≤ t.size := by
    obtain ⟨_, hle', hv⟩ := valid_at hp
    obtain ⟨g1, _⟩ := start_of hle' hv
    have := fds_le (ls t) q
    rw [g1]; omega
  obtain ⟨M, m1, m2, m3, m4⟩ := rep_ev rt feedS n hr (by rw [size_feedS]; omega) (by rw [size_feedS]; omega)
  obtain ⟨f1, f2⟩ := lines_fit t rt n m1 m3
  refine Ev.step (fun _ => (by rw [calamusref24_Put.j1])) ?_
  refine Ev.neg (by simp) (Ev.call (calamusref04_Of.eq t _ (by omega)) (Ev.pos rfl ?_))
  refine Ev.step (fun _ => (by rw [calamusref24_Put.j2])) ?_
  cases ahead with
  | true =>
    refine Ev.pos rfl (Ev.call (calamusref04_Start.eq t _ (by omega)) (Ev.bind m2 (Ev.pos (by omega) ?_)))
    rw [k2]
    have z2 : (repT rt feedS (M + 1) ++ feedS).size = (repT rt feedS (M + 1)).size + 1 := by rw [ByteArray.size_append, size_feedS]
    refine rput_j3 t (repT rt feedS (M + 1) ++ feedS) true (ofI (ls t) q) (lst (ls t) q) rn true rt (by omega) ht (by rw [z2]; omega) _ (fun h => ?_) (fun h => ?_)
    · unfold linesX
      rw [if_neg]
      intro hc; exact h (by rw [z2]; exact (f1 hc).2)
    · rw [z2] at h
      obtain ⟨c1, c2, c3⟩ := f2 h
      unfold linesX
      rw [if_pos ⟨c1, c2⟩, if_pos rfl, k2, Int.toNat_natCast, ← c3, Int.toNat_natCast]
      refine Ev.step (fun _ => (by rw [calamusref24_Put.j4])) ?_
      exact Ev.pos rfl (Ev.bind (rfirst_ev _ _ (by rw [size_putS _ _ _ (by omega), z2]; omega)) (Ev.ret rfl))
  | false =>
    refine Ev.neg (by simp) (Ev.pos rfl (Ev.call (calamusref04_End.eq t _ (by omega)) (Ev.bind m2 (Ev.pos (by omega) ?_))))
    rw [k3]
    have z2 : (feedS ++ repT rt feedS (M + 1)).size = (repT rt feedS (M + 1)).size + 1 := by rw [ByteArray.size_append, size_feedS]; omega
    refine rput_j3 t (feedS ++ repT rt feedS (M + 1)) false (ofI (ls t) q) e rn true rt (by omega) ht (by rw [z2]; omega) _ (fun h => ?_) (fun h => ?_)
    · unfold linesX
      rw [if_neg]
      intro hc; exact h (by rw [z2]; exact (f1 hc).2)
    · rw [z2] at h
      obtain ⟨c1, c2, c3⟩ := f2 h
      unfold linesX
      rw [if_pos ⟨c1, c2⟩, if_neg (show ¬ (false = true) by simp), k3, Int.toNat_natCast, ← c3, Int.toNat_natCast]
      refine Ev.step (fun _ => (by rw [calamusref24_Put.j4])) ?_
      rw [w64 (n := ofI (ls t) q + 1) (by omega) (by omega)]
      exact Ev.neg (by simp) (Ev.pos rfl (Ev.bind (rfirst_ev _ _ (by rw [size_putS _ _ _ (by omega), z2]; omega)) (Ev.ret rfl)))
def runesX (t s : ByteArray) (a : Nat) : ByteArray × Int × Int := if t.size + s.size ≤ 4096 then (putS t s a, if 0 < tens (ls s) then clampI (ls (putS t s a)) a else prevI (ls (putS t s a)) ((a + s.size : Nat) : Int), 0) else (⟨#[]⟩, 0, 8)
theorem pput_j3 (t s : ByteArray) (a : Nat) (ha : a ≤ t.size) (ht : t.size ≤ 500) (hs : s.size ≤ 100000) : Ev (fun K => paste_Put.j3 K t a s) (runesX t s a) := by
  unfold runesX
  refine Ev.step (fun _ => (by rw [paste_Put.j3])) ?_
  refine Ev.call (insert_val t s a ha (by omega) (by omega)) ?_
  by_cases h : t.size + s.size ≤ 4096
  · rw [if_pos h, if_pos h]
    refine Ev.pos rfl (Ev.call (strings_Contains.eq s) ?_)
    rw [feed_tens]
    by_cases hf : 0 < tens (ls s)
    · rw [if_pos hf]
      exact Ev.pos (by simpa using hf) (Ev.call (line_Clamp.eq _ _ (by show (putS t s a).size ≤ _; rw [size_putS t s a ha]; omega)) (Ev.ret rfl))
    · rw [if_neg hf, w64 (by omega) (by omega), show (a : Int) + (s.size : Int) = ((a + s.size : Nat) : Int) by omega]
      exact Ev.neg (by simpa using hf) (Ev.call (utf_Prev.eq _ _ (by show (putS t s a).size ≤ _; rw [size_putS t s a ha]; omega)) (Ev.ret rfl))
  · rw [if_neg h, if_neg h]
    exact Ev.neg (by decide) (Ev.ret rfl)
theorem feed_val (s : ByteArray) (hs : s.size ≤ 100000) (hv : validL (ls s) = true) : calamusref24_feed.f s = some (decide (0 < tens (ls s))) := by
  unfold calamusref24_feed.f
  rw [calamusref04_Count.eq s (by omega), Option.bind_some]
  unfold lcountI; rw [if_pos hv]
  congr 1; exact decide_eq_decide.2 (by omega)
theorem rput_runes (t s : ByteArray) (ahead : Bool) (k : Int) (a : Nat) (rn : Int) (rt : ByteArray) (ha : a ≤ t.size) (ht : t.size ≤ 500) (hs : s.size ≤ 100000) (hv : validL (ls s) = true) : Ev (fun K => calamusref24_Put.j3 K t ahead k a s rn false rt) (runesX t s a) := by
  refine rput_j3 t s ahead k a rn false rt ha ht hs _ (fun h => by unfold runesX; rw [if_neg h]) (fun h => ?_)
  unfold runesX
  rw [if_pos h]
  show Ev (fun K => calamusref24_Put.j4 K k a s (putS t s a) false rn false rt) _
  refine Ev.step (fun _ => (by rw [calamusref24_Put.j4])) ?_
  refine Ev.neg (by simp) (Ev.neg (by simp) (Ev.call (feed_val s hs hv) ?_))
  by_cases hf : 0 < tens (ls s)
  · rw [if_pos hf]
    exact Ev.pos (by simpa using hf) (Ev.bind (rclamp_ev' _ _ (by rw [size_putS t s a ha]; omega)) (Ev.ret rfl))
  · rw [if_neg hf, w64 (by omega) (by omega), show (a : Int) + (s.size : Int) = ((a + s.size : Nat) : Int) by omega]
    exact Ev.neg (by simpa using hf) (Ev.call (calamusref03_Prev.eq _ _ (by rw [size_putS t s a ha]; omega)) (Ev.ret rfl))
theorem runes_ev (t rt : ByteArray) {q : Nat} (ahead : Bool) (n rn : Int) (ht : t.size ≤ 500) (hr : rt.size ≤ 5000) (hr1 : 1 ≤ rt.size) (hp : placeB (ls t) q = true) (hv : validL (ls rt) = true) : ∃ X : ByteArray × Int × Int, Ev (fun K => paste_Put.j1 K t q ahead n false rn false rt) X ∧ Ev (fun K => calamusref24_Put.j1 K t q ahead n false rn false rt) X := by
  obtain ⟨e, k1, k2, k3, k4, k5, k6, k7, k8⟩ := line_pair hp
  have hle := (valid_at hp).2.1
  rw [ls_len] at k6 hle
  obtain ⟨M, m1, m2, m3, m4⟩ := rep_ev rt ⟨#[]⟩ n hr (by show (0 : Nat) ≤ 1; omega) (by omega)
  obtain ⟨N, hN⟩ : ∃ N : Nat, max n 1 = N + 1 := ⟨(max n 1).toNat - 1, by omega⟩
  have hmo := repT_mono rt ⟨#[]⟩ (show M ≤ N by omega)
  have zM := size_rep0 rt (M + 1)
  have zN := size_rep0 rt (N + 1)
  have hle2 : N + 1 ≤ (N + 1) * rt.size := Nat.le_mul_of_pos_right _ (by omega)
  have hc : (((N + 1) * rt.size : Nat) : Int) = ((N : Int) + 1) * ((rt.size : Int) + ((⟨#[]⟩ : ByteArray).size : Int)) := by
    rw [show ((⟨#[]⟩ : ByteArray).size : Int) = 0 from rfl, Int.add_zero]; push_cast; rfl
  have hvZ : validL (ls (repT rt ⟨#[]⟩ (M + 1))) = true := by rw [ls_repT]; exact valid_rep hv rfl _
  -- where it is put
  obtain ⟨a, ha, hpa, hra⟩ : ∃ a : Nat, a ≤ t.size ∧ (∀ (s : ByteArray) (X : ByteArray × Int × Int), Ev (fun K => paste_Put.j3 K t a s) X → Ev (fun K => if ahead = true then (paste_Put.j2 K t q s false) else ((paste_stop.f t q).bind fun t135 => (paste_Put.j2 K t q s (!t135)))) X) ∧
      (∀ (s : ByteArray) (k : Int) (X : ByteArray × Int × Int), Ev (fun K => calamusref24_Put.j3 K t ahead k a s rn false rt) X → Ev (fun K => if ahead = true then (calamusref24_Put.j3 K t ahead k q s rn false rt) else ((calamusref24_stop.f t q).bind fun t170 => (if t170 = true then (calamusref24_Put.j3 K t ahead k q s rn false rt) else ((calamusref03_Next.f t q).bind fun t171 => (calamusref24_Put.j3 K t ahead k t171 s rn false rt))))) X) := by
    cases ahead with
    | true =>
      refine ⟨q, by omega, fun s X h => Ev.pos rfl ?_, fun s k X h => Ev.pos rfl h⟩
      refine Ev.step (fun _ => (by rw [paste_Put.j2])) ?_
      exact Ev.neg (by simp) h
    | false =>
      by_cases hqe : q = e
      · refine ⟨q, by omega, fun s X h => Ev.neg (by simp) (Ev.call (stop_val t hp k3 (by omega)) ?_), fun s k X h => Ev.neg (by simp) (Ev.call (rstop_val t hp k3 (by omega)) (Ev.pos (by simpa using hqe) h))⟩
        rw [decide_eq_true hqe]
        refine Ev.step (fun _ => (by rw [paste_Put.j2])) ?_
        exact Ev.neg (by simp) h
      · obtain ⟨x, g1, g2, g3, g4, _⟩ := rest_next hp k3 (by omega)
        refine ⟨x, by omega, fun s X h => Ev.neg (by simp) (Ev.call (stop_val t hp k3 (by omega)) ?_), fun s k X h => Ev.neg (by simp) (Ev.call (rstop_val t hp k3 (by omega)) (Ev.neg (by simpa using hqe) (Ev.call (calamusref03_Next.eq t q (by omega)) (by rw [g1]; exact h))))⟩
        rw [decide_eq_false hqe]
        refine Ev.step (fun _ => (by rw [paste_Put.j2])) ?_
        refine Ev.pos rfl (Ev.call (utf_Next.eq t q (by omega)) ?_)
        rw [g1]; exact h
  refine ⟨runesX t (repT rt ⟨#[]⟩ (M + 1)) a, ?_, ?_⟩
  · refine Ev.step (fun _ => (by rw [paste_Put.j1])) ?_
    rw [mx_eq, hN]
    refine Ev.neg (by simp) (Ev.neg (by simp) ?_)
    by_cases hL : N + 1 ≤ 4097 ∧ (N + 1) * rt.size ≤ 8194
    · have ht' : Ev (fun K => paste_times.f K rt ⟨#[]⟩ ((N : Int) + 1)) (repT rt ⟨#[]⟩ (N + 1), true) := times_ev rt ⟨#[]⟩ (N + 1) (by omega) hL.1 (by show (N + 1) * (rt.size + 0) ≤ 8194; rw [Nat.add_zero]; exact hL.2)
      refine Ev.bind ht' (Ev.pos rfl (hpa _ _ ?_))
      show Ev (fun K => paste_Put.j3 K t a (repT rt ⟨#[]⟩ (N + 1))) _
      by_cases hMN : M = N
      · subst hMN; exact pput_j3 t _ a ha ht (by omega)
      · have h4 : 4096 < (repT rt ⟨#[]⟩ (M + 1)).size := by rcases m3 with h | h <;> omega
        refine Ev.eq (pput_j3 t _ a ha ht (by omega)) ?_
        unfold runesX
        rw [if_neg (by omega), if_neg (by omega)]
    · have ht' : Ev (fun K => paste_times.f K rt ⟨#[]⟩ ((N : Int) + 1)) (⟨#[]⟩, false) := times_long rt ⟨#[]⟩ ((N : Int) + 1) (by show rt.size + 0 ≤ 100000; omega) (by omega) (by rw [← hc]; omega)
      refine Ev.bind ht' (Ev.neg (by simp) (Ev.ret ?_))
      have h4 : 4096 < (repT rt ⟨#[]⟩ (M + 1)).size := by
        rcases m3 with h | h
        · obtain rfl : M = N := by omega
          omega
        · exact h
      unfold runesX
      rw [if_neg (by omega)]
  · refine Ev.step (fun _ => (by rw [calamusref24_Put.j1])) ?_
    refine Ev.neg (by simp) (Ev.call (calamusref04_Of.eq t _ (by omega)) (Ev.neg (by simp) ?_))
    refine Ev.step (fun _ => (by rw [calamusref24_Put.j2])) ?_
    refine Ev.neg (by simp) (Ev.neg (by simp) (Ev.bind m2 (hra _ _ _ ?_)))
    exact rput_runes t _ ahead _ a rn rt ha ht (by omega) hvZ
theorem puts_ev (t : ByteArray) (p : Int) (rn : Int) (lines : Bool) (rt : ByteArray) (ahead : Bool) (n : Int) (ht : t.size ≤ 500) (hr : rt.size ≤ 5000) : ∃ X : ByteArray × Int × Int, Ev (fun K => paste_Put.f K t p rn lines rt ahead n) X ∧ Ev (fun K => calamusref24_Put.f K t p rn lines rt ahead n) X := by
  have bad1 : ∀ p, Ev (fun K => paste_Put.j0 K t p ahead n true rn lines rt) (⟨#[]⟩, 0, 1) := fun p => by
    refine Ev.step (fun _ => (by rw [paste_Put.j0])) ?_
    exact Ev.pos rfl (Ev.ret rfl)
  have bad2 : ∀ p, Ev (fun K => calamusref24_Put.j0 K t p ahead n true rn lines rt) (⟨#[]⟩, 0, 1) := fun p => by
    refine Ev.step (fun _ => (by rw [calamusref24_Put.j0])) ?_
    exact Ev.pos rfl (Ev.ret rfl)
  rcases place_cases t p with hf | ⟨q, rfl, hle, hp, _⟩
  · refine ⟨(⟨#[]⟩, 0, 1), ?_, ?_⟩
    · unfold paste_Put.f
      exact Ev.call (utf_Place.eq t p (by omega)) (Ev.neg (by rw [hf]; simp) (bad1 p))
    · unfold calamusref24_Put.f
      exact Ev.call (calamusref03_Place.eq t p (by omega)) (Ev.neg (by rw [hf]; simp) (bad2 p))
  suffices h : ∃ X : ByteArray × Int × Int, Ev (fun K => paste_Put.j0 K t q ahead n (!validL (ls rt)) rn lines rt) X ∧ Ev (fun K => calamusref24_Put.j0 K t q ahead n (!validL (ls rt)) rn lines rt) X by
    obtain ⟨X, x1, x2⟩ := h
    refine ⟨X, ?_, ?_⟩
    · unfold paste_Put.f
      exact Ev.call (utf_Place.eq t q (by omega)) (Ev.pos hp (Ev.call (utf_Valid.eq rt (by omega)) x1))
    · unfold calamusref24_Put.f
      exact Ev.call (calamusref03_Place.eq t q (by omega)) (Ev.pos hp (Ev.call (calamusref03_Valid.eq rt (by omega)) x2))
  cases hv : validL (ls rt) with
  | false => exact ⟨_, bad1 q, bad2 q⟩
  | true =>
    have step : ∀ X : ByteArray × Int × Int, Ev (fun K => paste_Put.j1 K t q ahead n (decide (rt.toList = []) && !lines) rn lines rt) X → Ev (fun K => calamusref24_Put.j1 K t q ahead n (decide (rt.toList = []) && !lines) rn lines rt) X → ∃ X : ByteArray × Int × Int, Ev (fun K => paste_Put.j0 K t q ahead n (!true) rn lines rt) X ∧ Ev (fun K => calamusref24_Put.j0 K t q ahead n (!true) rn lines rt) X := by
      intro X x1 x2
      refine ⟨X, ?_, ?_⟩
      · refine Ev.step (fun _ => (by rw [paste_Put.j0])) ?_
        refine Ev.neg (by simp) (Ev.ite (fun h => ?_) (fun h => ?_))
        · rw [decide_eq_true h, Bool.true_and] at x1; exact x1
        · rw [decide_eq_false h, Bool.false_and] at x1; exact x1
      · refine Ev.step (fun _ => (by rw [calamusref24_Put.j0])) ?_
        refine Ev.neg (by simp) (Ev.ite (fun h => ?_) (fun h => ?_))
        · rw [decide_eq_true h, Bool.true_and] at x2; exact x2
        · rw [decide_eq_false h, Bool.false_and] at x2; exact x2
    cases lines with
    | true =>
      rw [Bool.not_true, Bool.and_false] at step
      refine step (linesX t rt (ofI (ls t) q) ahead n) ?_ (rlines_ev t rt ahead n rn ht hr hp)
      refine Ev.step (fun _ => (by rw [paste_Put.j1])) ?_
      rw [mx_eq]
      exact Ev.neg (by simp) (Ev.pos rfl (Ev.call (line_Of.eq t _ (by omega)) (Ev.bind (plines_ev t rt ahead n ht hr hp) (Ev.ret rfl))))
    | false =>
      by_cases h0 : rt.toList = []
      · rw [decide_eq_true h0] at step
        refine step (⟨#[]⟩, 0, 7) ?_ ?_
        · refine Ev.step (fun _ => (by rw [paste_Put.j1])) ?_
          exact Ev.pos rfl (Ev.ret rfl)
        · refine Ev.step (fun _ => (by rw [calamusref24_Put.j1])) ?_
          exact Ev.pos rfl (Ev.ret rfl)
      · rw [decide_eq_false h0] at step
        have hr1 : 1 ≤ rt.size := by
          rcases Nat.eq_zero_or_pos rt.size with h | h
          · exact absurd ((empty_iff rt).2 h) h0
          · exact h
        obtain ⟨X, x1, x2⟩ := runes_ev t rt ahead n rn ht hr hr1 hp hv
        exact step X x1 x2
theorem PastePuts_p (t : ByteArray) (p : Int) (rn : Int) (lines : Bool) (rt : ByteArray) (ahead : Bool) (n : Int) (ht : t.size ≤ 140737488351232) (hp : -9223372036854775808 ≤ p ∧ p ≤ 9223372036854775807) (hrn : -9223372036854775808 ≤ rn ∧ rn ≤ 9223372036854775807) (hr : rt.size ≤ 140737488351232) (hn : -9223372036854775808 ≤ n ∧ n ≤ 9223372036854775807) : ∃ m, calamuslaw24_PastePuts.f m t p rn lines rt ahead n = some true := by
  suffices h : Ev (fun m => calamuslaw24_PastePuts.f m t p rn lines rt ahead n) true by obtain ⟨K, h⟩ := h; exact ⟨K, h K (Nat.le_refl _)⟩
  have live : Ev (fun m => calamuslaw24_PastePuts.j0 m t p ahead n true rn lines rt) true := by
    refine Ev.step (fun _ => (by rw [calamuslaw24_PastePuts.j0])) ?_
    exact Ev.pos rfl lives24'
  unfold calamuslaw24_PastePuts.f
  refine Ev.ite (fun _ => live) (fun hs => ?_)
  by_cases h5 : (rt.size : Int) > 5000
  · rw [decide_eq_true h5]; exact live
  · rw [decide_eq_false h5]
    obtain ⟨X, x1, x2⟩ := puts_ev t p rn lines rt ahead n (by omega) (by omega)
    refine Ev.step (fun _ => (by rw [calamuslaw24_PastePuts.j0])) ?_
    exact Ev.neg (by simp) (Ev.bind x1 (Ev.bind x2 (Ev.pos rfl (Ev.pos rfl (Ev.pos rfl lives24')))))
end Go.Proofs.YtckfdehendifoaaDoor
