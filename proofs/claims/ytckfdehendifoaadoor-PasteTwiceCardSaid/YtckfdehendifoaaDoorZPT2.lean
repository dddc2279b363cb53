/- Joined by merge.py out of this work's texts: QP2, PPl, PPn, PPe, PFl, L4, PPv, XIs, QP8, PPo, PPw, QP10, PPx. -/
import Derived.Test.YtckfdehendifoaaDoorZPT1
import Derived.Test.YtckfdehendifoaaDoorZPT0
-- Printed by this work's xp.py out of the translation. Lean checks it.
namespace Go.Proofs.YtckfdehendifoaaDoor.QP
open Go.RowKit Go.Proofs.YtckfdehendifoaaDoorW.PrintWords Go.Proofs.YtckfdehendifoaaDoorW.PrintLast Go.Proofs.YtckfdehendifoaaDoorW.PrintMore
attribute [local go_sem] max2_int min2_int max_two min_two max_three min_three max_four min_four   -- for this text's walks alone
set_option linter.unusedVariables false
set_option linter.unusedSimpArgs false


/-! ### paste_Put -/
mutual
def paste_Put.j0 : Nat → ByteArray → Int → Bool → Int → Bool → Int → Bool → ByteArray → Option (ByteArray × Int × Int)
  | 0, _, _, _, _, _, _, _, _ => none
  | k + 1, x0, x1, x3, x4, x26, x119000, x119001, x119002 => if x26 = true then (some ((⟨#[]⟩ : ByteArray), 0, 1)) else (if x119002.toList = ([] : List UInt8) then (paste_Put.j1 k x0 x1 x3 x4 (!x119001) x119000 x119001 x119002) else (paste_Put.j1 k x0 x1 x3 x4 false x119000 x119001 x119002))
def paste_Put.j1 : Nat → ByteArray → Int → Bool → Int → Bool → Int → Bool → ByteArray → Option (ByteArray × Int × Int)
  | 0, _, _, _, _, _, _, _, _ => none
  | k + 1, x0, x1, x3, x4, x34, x119000, x119001, x119002 => if x34 = true then (some ((⟨#[]⟩ : ByteArray), 0, 7)) else (if x119001 = true then ((line_Of.f x0 x1).bind fun t121 => ((paste_lines.f k x0 t121 x119002 x3 (mx x4 1)).bind fun bt122 => (some (bt122.1, bt122.2.1, bt122.2.2)))) else ((paste_times.f k x119002 (⟨#[]⟩ : ByteArray) (mx x4 1)).bind fun bt125 => (if bt125.2 = true then (if x3 = true then (paste_Put.j2 k x0 x1 bt125.1 false) else ((paste_stop.f x0 x1).bind fun t127 => (paste_Put.j2 k x0 x1 bt125.1 (!t127)))) else (some ((⟨#[]⟩ : ByteArray), 0, 8)))))
def paste_Put.j2 : Nat → ByteArray → Int → ByteArray → Bool → Option (ByteArray × Int × Int)
  | 0, _, _, _, _ => none
  | k + 1, x0, x1, x13, x67 => if x67 = true then ((utf_Next.f x0 x1).bind fun t128 => (paste_Put.j3 k x0 t128 x13)) else (paste_Put.j3 k x0 x1 x13)
def paste_Put.j3 : Nat → ByteArray → Int → ByteArray → Option (ByteArray × Int × Int)
  | 0, _, _, _ => none
  | k + 1, x0, x1, x13 => (paste_insert.f x0 x1 x13).bind fun bt129 => (if bt129.2 = 0 then ((strings_Contains.f x13 (⟨#[10]⟩ : ByteArray)).bind fun t131 => (if t131 = true then ((line_Clamp.f bt129.1 x1).bind fun t132 => (some (bt129.1, t132, 0))) else ((utf_Prev.f bt129.1 (wrap64 (x1 + (x13.size : Int)))).bind fun t133 => (some (bt129.1, t133, 0))))) else (some ((⟨#[]⟩ : ByteArray), 0, bt129.2)))
end
def paste_Put.f (k : Nat) (a0 : ByteArray) (a1 : Int) (a2_0 : Int) (a2_1 : Bool) (a2_2 : ByteArray) (a3 : Bool) (a4 : Int) : Option (ByteArray × Int × Int) := (utf_Place.f a0 a1).bind fun t119 => (if t119 = true then ((utf_Valid.f a2_2).bind fun t120 => (paste_Put.j0 k a0 a1 a3 a4 (!t120) a2_0 a2_1 a2_2)) else (paste_Put.j0 k a0 a1 a3 a4 true a2_0 a2_1 a2_2))
theorem paste_Put.mono_l : ∀ k, (∀ y0 y1 y2 y3 y4 y5 y6 y7, LeO (paste_Put.j0 k y0 y1 y2 y3 y4 y5 y6 y7) (paste_Put.j0 (k + 1) y0 y1 y2 y3 y4 y5 y6 y7)) ∧ (∀ y0 y1 y2 y3 y4 y5 y6 y7, LeO (paste_Put.j1 k y0 y1 y2 y3 y4 y5 y6 y7) (paste_Put.j1 (k + 1) y0 y1 y2 y3 y4 y5 y6 y7)) ∧ (∀ y0 y1 y2 y3, LeO (paste_Put.j2 k y0 y1 y2 y3) (paste_Put.j2 (k + 1) y0 y1 y2 y3)) ∧ (∀ y0 y1 y2, LeO (paste_Put.j3 k y0 y1 y2) (paste_Put.j3 (k + 1) y0 y1 y2))
  | 0 => ⟨fun _ _ _ _ _ _ _ _ r h => by simp [paste_Put.j0] at h, fun _ _ _ _ _ _ _ _ r h => by simp [paste_Put.j1] at h, fun _ _ _ _ r h => by simp [paste_Put.j2] at h, fun _ _ _ r h => by simp [paste_Put.j3] at h⟩
  | k + 1 => by
    obtain ⟨ih0, ih1, ih2, ih3⟩ := paste_Put.mono_l k
    refine ⟨?_, ?_, ?_, ?_⟩
    · intro y0 y1 y2 y3 y4 y5 y6 y7
      unfold paste_Put.j0
      repeat' first
      | (with_reducible exact ih0 _ _ _ _ _ _ _ _)
      | (with_reducible exact ih1 _ _ _ _ _ _ _ _)
      | (with_reducible exact ih2 _ _ _ _)
      | (with_reducible exact ih3 _ _ _)
      | (with_reducible exact paste_lines.mono _ _ _ _ _ _)
      | (with_reducible exact paste_times.mono _ _ _ _)
      | (with_reducible exact LeO.refl _)
      | (with_reducible exact LeO.none _)
      | (with_reducible refine LeO.ite ?_ ?_)
      | (with_reducible refine LeO.bind ?_ (fun _ => ?_))
      | exact ih0 _ _ _ _ _ _ _ _
      | exact ih1 _ _ _ _ _ _ _ _
      | exact ih2 _ _ _ _
      | exact ih3 _ _ _
      | exact paste_lines.mono _ _ _ _ _ _
      | exact paste_times.mono _ _ _ _
      | exact LeO.none _
      | refine LeO.ite ?_ ?_
      | refine LeO.bind ?_ (fun _ => ?_)
    · intro y0 y1 y2 y3 y4 y5 y6 y7
      unfold paste_Put.j1
      repeat' first
      | (with_reducible exact ih0 _ _ _ _ _ _ _ _)
      | (with_reducible exact ih1 _ _ _ _ _ _ _ _)
      | (with_reducible exact ih2 _ _ _ _)
      | (with_reducible exact ih3 _ _ _)
      | (with_reducible exact paste_lines.mono _ _ _ _ _ _)
      | (with_reducible exact paste_times.mono _ _ _ _)
      | (with_reducible exact LeO.refl _)
      | (with_reducible exact LeO.none _)
      | (with_reducible refine LeO.ite ?_ ?_)
      | (with_reducible refine LeO.bind ?_ (fun _ => ?_))
      | exact ih0 _ _ _ _ _ _ _ _
      | exact ih1 _ _ _ _ _ _ _ _
      | exact ih2 _ _ _ _
      | exact ih3 _ _ _
      | exact paste_lines.mono _ _ _ _ _ _
      | exact paste_times.mono _ _ _ _
      | exact LeO.none _
      | refine LeO.ite ?_ ?_
      | refine LeO.bind ?_ (fun _ => ?_)
    · intro y0 y1 y2 y3
      unfold paste_Put.j2
      repeat' first
      | (with_reducible exact ih0 _ _ _ _ _ _ _ _)
      | (with_reducible exact ih1 _ _ _ _ _ _ _ _)
      | (with_reducible exact ih2 _ _ _ _)
      | (with_reducible exact ih3 _ _ _)
      | (with_reducible exact paste_lines.mono _ _ _ _ _ _)
      | (with_reducible exact paste_times.mono _ _ _ _)
      | (with_reducible exact LeO.refl _)
      | (with_reducible exact LeO.none _)
      | (with_reducible refine LeO.ite ?_ ?_)
      | (with_reducible refine LeO.bind ?_ (fun _ => ?_))
      | exact ih0 _ _ _ _ _ _ _ _
      | exact ih1 _ _ _ _ _ _ _ _
      | exact ih2 _ _ _ _
      | exact ih3 _ _ _
      | exact paste_lines.mono _ _ _ _ _ _
      | exact paste_times.mono _ _ _ _
      | exact LeO.none _
      | refine LeO.ite ?_ ?_
      | refine LeO.bind ?_ (fun _ => ?_)
    · intro y0 y1 y2
      unfold paste_Put.j3
      repeat' first
      | (with_reducible exact ih0 _ _ _ _ _ _ _ _)
      | (with_reducible exact ih1 _ _ _ _ _ _ _ _)
      | (with_reducible exact ih2 _ _ _ _)
      | (with_reducible exact ih3 _ _ _)
      | (with_reducible exact paste_lines.mono _ _ _ _ _ _)
      | (with_reducible exact paste_times.mono _ _ _ _)
      | (with_reducible exact LeO.refl _)
      | (with_reducible exact LeO.none _)
      | (with_reducible refine LeO.ite ?_ ?_)
      | (with_reducible refine LeO.bind ?_ (fun _ => ?_))
      | exact ih0 _ _ _ _ _ _ _ _
      | exact ih1 _ _ _ _ _ _ _ _
      | exact ih2 _ _ _ _
      | exact ih3 _ _ _
      | exact paste_lines.mono _ _ _ _ _ _
      | exact paste_times.mono _ _ _ _
      | exact LeO.none _
      | refine LeO.ite ?_ ?_
      | refine LeO.bind ?_ (fun _ => ?_)
theorem paste_Put.mono : ∀ a0 a1 a2 a3 a4 a5 a6 k, LeO (paste_Put.f k a0 a1 a2 a3 a4 a5 a6) (paste_Put.f (k + 1) a0 a1 a2 a3 a4 a5 a6) := by
  intro a0 a1 a2 a3 a4 a5 a6 k
  obtain ⟨ih0, ih1, ih2, ih3⟩ := paste_Put.mono_l k
  unfold paste_Put.f
  repeat' first
      | (with_reducible exact ih0 _ _ _ _ _ _ _ _)
      | (with_reducible exact ih1 _ _ _ _ _ _ _ _)
      | (with_reducible exact ih2 _ _ _ _)
      | (with_reducible exact ih3 _ _ _)
      | (with_reducible exact paste_lines.mono _ _ _ _ _ _)
      | (with_reducible exact paste_times.mono _ _ _ _)
      | (with_reducible exact LeO.refl _)
      | (with_reducible exact LeO.none _)
      | (with_reducible refine LeO.ite ?_ ?_)
      | (with_reducible refine LeO.bind ?_ (fun _ => ?_))
      | exact ih0 _ _ _ _ _ _ _ _
      | exact ih1 _ _ _ _ _ _ _ _
      | exact ih2 _ _ _ _
      | exact ih3 _ _ _
      | exact paste_lines.mono _ _ _ _ _ _
      | exact paste_times.mono _ _ _ _
      | exact LeO.none _
      | refine LeO.ite ?_ ?_
      | refine LeO.bind ?_ (fun _ => ?_)
def paste_Put.T6 : Bool × List (List Nat × List Nat) := (true, [([], []), ([], []), ([], []), ([1, 2], [1, 2]), ([], []), ([4], [4]), ([], []), ([], []), ([7], [7]), ([0, 3, 5, 6, 8, 3], [0, 3, 5, 6, 8]), ([9], [9]), ([9], [9]), ([9], [9]), ([10, 9, 0, 1, 2, 3, 4, 5, 6, 7, 8, 9, 10, 11, 12], [10]), ([11, 13, 0, 1, 2, 3, 4, 5, 6, 7, 8, 9, 10, 11, 12, 13], [11]), ([12, 14, 0, 1, 2, 3, 4, 5, 6, 7, 8, 9, 10, 11, 12, 13, 14], [12])])
def paste_Put.B6 : List Nat := [0, 0, 0, 6, 0, 16, 0, 0, 128, 511, 1023, 1023, 1023, 8191, 16383, 32767]
theorem paste_Put.tab6 : rtab .any (opsOf Tryd.f8 6) = paste_Put.T6 := by kernel_rfl
theorem paste_Put.bits6 : waitsOk paste_Put.T6.2 paste_Put.B6 = true := by kernel_rfl
set_option maxHeartbeats 8000000 in
set_option maxRecDepth 100000 in
theorem paste_Put.calls (k : Nat) (a0 : ByteArray) (a1 : Int) (a2_0 : Int) (a2_1 : Bool) (a2_2 : ByteArray) (a3 : Bool) (a4 : Int) (r1 : ByteArray) (r2 : Int) (r3 : Int) (w : World) (h : paste_Put.f k a0 a1 a2_0 a2_1 a2_2 a3 a4 = some (r1, r2, r3)) :
    Calls Tryd.prog 8 #[.string a0, .int .i64 a1, .agg #[.int .i64 a2_0, .bool a2_1, .string a2_2], .bool a3, .int .i64 a4] w fun e w' => e = .returned (.tuple #[.string r1, .int .i64 r2, .int .i64 r3]) ∧ Below w.heap.size w w' := by
  have hu23 := Tryd.underlying23
  have HB := Aside0.mk (Below.refl w.heap.size w)
  have H : ((utf_Place.f a0 a1).bind fun t119 => (if t119 = true then ((utf_Valid.f a2_2).bind fun t120 => (paste_Put.j0 k a0 a1 a3 a4 (!t120) a2_0 a2_1 a2_2)) else (paste_Put.j0 k a0 a1 a3 a4 true a2_0 a2_1 a2_2))) = some (r1, r2, r3) := h
  clear h
  have HC6 := Aside0.mk H
  clear H
  go_enter Tryd.func8, Tryd.ntmps8
  go_upto_region 1 with (first | ((with_reducible refine gate_dst (N := 7) rfl ?_); refine box_event ?hg (N := 7) ?hd (cs := #[.int .i64 a2_0, .bool a2_1, .string a2_2]) (t := 23) ?hr ?_; (case hd => rfl); (case hg => rfl); (case hr => first | (go_simp; done) | (go_simp; rfl)); intro gb118 hg w7 hbox hb; have n0_ := Aside0.mk (below_step (by repeat (first | (with_reducible first | exact HB.out | apply below_alloc | apply pw_below_drewN | apply below_drew1) | exact HB.out)) hb); have n1_ := Aside0.mk (hbox); have n2_ := Aside0.mk ((by rw [hg]; exact (below_size (by repeat (first | (with_reducible first | exact HB.out | apply below_alloc | apply pw_below_drewN | apply below_drew1) | exact HB.out))) : w.heap.size ≤ gb118)); have n3_ := Aside0.mk ((by rw [hg]; exact (below_size (by repeat (first | (with_reducible first | exact HB.out | apply below_alloc | apply pw_below_drewN | apply below_drew1) | exact HB.out))) : w.heap.size ≤ gb118)); clear HB; have HB := n0_; have BK118 := n1_; have GW118 := n2_; have GE118 := n3_; clear n0_ n1_ n2_ n3_; clear hb hbox hg))
  (try simp only [Act.put, List.setIfInBounds_toArray, List.set_cons_zero, List.set_cons_succ])
  go_cut [26] (fun v26 wc => ∃ (kq : Nat) (x26_5 : Bool), v26 = .bool x26_5 ∧ Aside0 (paste_Put.j0 kq a0 a1 a3 a4 x26_5 a2_0 a2_1 a2_2 = some (r1, r2, r3)) ∧ Aside0 (kq ≤ k) ∧ Aside0 (wc.heap[gb118]? = some (.cells #[.int .i64 a2_0, .bool a2_1, .string a2_2] 23 (0, 0))) ∧ Aside0 (Below w.heap.size w wc))
  case first =>
    have H := HC6.out
    clear HC6
    replace H := Option.bind_eq_some_iff.mp H
    obtain ⟨t119, A80, H⟩ := H
    replace H : (if t119 = true then ((utf_Valid.f a2_2).bind fun t120 => (paste_Put.j0 k a0 a1 a3 a4 (!t120) a2_0 a2_1 a2_2)) else (paste_Put.j0 k a0 a1 a3 a4 true a2_0 a2_1 a2_2)) = some (r1, r2, r3) := H
    have A8 := Aside0.mk A80
    clear A80
    by_cases c9 : t119 = true
    · subst c9
      have H1 : ((utf_Valid.f a2_2).bind fun t120 => (paste_Put.j0 k a0 a1 a3 a4 (!t120) a2_0 a2_1 a2_2)) = some (r1, r2, r3) := by rw [if_pos rfl] at H; exact H
      clear H
      have H := H1
      clear H1
      replace H := Option.bind_eq_some_iff.mp H
      obtain ⟨t120, A100, H⟩ := H
      replace H : (paste_Put.j0 k a0 a1 a3 a4 (!t120) a2_0 a2_1 a2_2) = some (r1, r2, r3) := H
      have A10 := Aside0.mk A100
      clear A100
      have H' := Aside0.mk H
      clear H
      go_wp2_with (first | ((with_reducible refine gate_callee (f := 19) rfl ?_); refine goesL_ (some 19) rfl rfl Tryd.func19 (by kernel_rfl) rfl #[.string a0, .int .i64 a1] rfl (by (try simp only [List.map_toArray, List.map_cons, List.map_nil]); first | done | rfl | (simp only [List.length_drop, List.length_take]; rfl)) ?_; (with_reducible refine (utf_Place.calls a0 a1 true _ A8.out).mono ?_); rintro e w11 ⟨rfl, hb⟩; refine ⟨_, rfl, ?_⟩; have n0_ := Aside0.mk (blk_below (g := gb118) (o := .cells #[.int .i64 a2_0, .bool a2_1, .string a2_2] 23 (0, 0)) (by (with_reducible repeat (first | refine blk_drewN ?_ _ | refine blk_drew ?_ | refine blk_alloc ?_ _)); exact BK118.out) hb); have n1_ := Aside0.mk (below_step (by repeat (first | (with_reducible first | exact HB.out | apply below_alloc | apply pw_below_drewN | apply below_drew1 | refine below_set ?_ GE118.out) | exact HB.out)) hb); clear BK118; clear HB; have BK118 := n0_; have HB := n1_; clear n0_ n1_; (try clear hb); (try clear hb2); (try clear hk); (try clear hi); have hcz12_0 : w11.cell? ⟨gb118, 0, none⟩ = some (.int .i64 a2_0) := (blk_cell BK118.out 0).trans rfl; have hcz12_1 : w11.cell? ⟨gb118, 1, none⟩ = some (.bool a2_1) := (blk_cell BK118.out 1).trans rfl; have hcz12_2 : w11.cell? ⟨gb118, 2, none⟩ = some (.string a2_2) := (blk_cell BK118.out 2).trans rfl; have hfz12_0 := blk_frozen BK118.out 0; have hfz12_1 := blk_frozen BK118.out 1; have hfz12_2 := blk_frozen BK118.out 2) | (go_at_call 20; (with_reducible refine (utf_Valid.calls a2_2 t120 _ A10.out).mono ?_); rintro e w13 ⟨rfl, hb⟩; have n0_ := Aside0.mk (blk_below (g := gb118) (o := .cells #[.int .i64 a2_0, .bool a2_1, .string a2_2] 23 (0, 0)) (by (with_reducible repeat (first | refine blk_drewN ?_ _ | refine blk_drew ?_ | refine blk_alloc ?_ _)); exact BK118.out) hb); have n1_ := Aside0.mk (below_step (by repeat (first | (with_reducible first | exact HB.out | apply below_alloc | apply pw_below_drewN | apply below_drew1 | refine below_set ?_ GE118.out) | exact HB.out)) hb); clear BK118; clear HB; have BK118 := n0_; have HB := n1_; clear n0_ n1_; (try clear hb); (try clear hb2); (try clear hk); (try clear hi)))
      go_meet
      case rel => exact ⟨_, (!t120), (by first | rfl | (simp; done) | (simp [*]; done)), H', ⟨by first | omega | exact Nat.le_refl _⟩, ⟨by (with_reducible repeat (first | refine blk_drewN ?_ _ | refine blk_drew ?_ | refine blk_alloc ?_ _)); exact BK118.out⟩, ⟨by repeat (first | (with_reducible first | exact HB.out | apply below_alloc | apply pw_below_drewN | apply below_drew1 | refine below_set ?_ GE118.out) | exact HB.out)⟩⟩
    · replace c9 := Bool.eq_false_iff.mpr c9
      subst c9
      have H1 : (paste_Put.j0 k a0 a1 a3 a4 true a2_0 a2_1 a2_2) = some (r1, r2, r3) := by rw [if_neg (show ¬ (false = true) by decide)] at H; exact H
      clear H
      have H := H1
      clear H1
      have H' := Aside0.mk H
      clear H
      go_wp2_with (first | ((with_reducible refine gate_callee (f := 19) rfl ?_); refine goesL_ (some 19) rfl rfl Tryd.func19 (by kernel_rfl) rfl #[.string a0, .int .i64 a1] rfl (by (try simp only [List.map_toArray, List.map_cons, List.map_nil]); first | done | rfl | (simp only [List.length_drop, List.length_take]; rfl)) ?_; (with_reducible refine (utf_Place.calls a0 a1 false _ A8.out).mono ?_); rintro e w14 ⟨rfl, hb⟩; refine ⟨_, rfl, ?_⟩; have n0_ := Aside0.mk (blk_below (g := gb118) (o := .cells #[.int .i64 a2_0, .bool a2_1, .string a2_2] 23 (0, 0)) (by (with_reducible repeat (first | refine blk_drewN ?_ _ | refine blk_drew ?_ | refine blk_alloc ?_ _)); exact BK118.out) hb); have n1_ := Aside0.mk (below_step (by repeat (first | (with_reducible first | exact HB.out | apply below_alloc | apply pw_below_drewN | apply below_drew1 | refine below_set ?_ GE118.out) | exact HB.out)) hb); clear BK118; clear HB; have BK118 := n0_; have HB := n1_; clear n0_ n1_; (try clear hb); (try clear hb2); (try clear hk); (try clear hi)))
      go_meet
      case rel => exact ⟨_, (true), (by first | rfl | (simp; done) | (simp [*]; done)), H', ⟨by first | omega | exact Nat.le_refl _⟩, ⟨by (with_reducible repeat (first | refine blk_drewN ?_ _ | refine blk_drew ?_ | refine blk_alloc ?_ _)); exact BK118.out⟩, ⟨by repeat (first | (with_reducible first | exact HB.out | apply below_alloc | apply pw_below_drewN | apply below_drew1 | refine below_set ?_ GE118.out) | exact HB.out)⟩⟩
  case rest =>
    clear HC6
    try clear c1
    try clear p2
    try clear c8
    try clear c9
    try clear hcz12_0
    try clear hcz12_1
    try clear hcz12_2
    try clear hfz12_0
    try clear hfz12_1
    try clear hfz12_2
    obtain ⟨kq, x26_5, rfl, HA, HJ5, BK118, HB⟩ := hcut
    cases kq with
    | zero => exact absurd HA.out (by simp [paste_Put.j0])
    | succ kj5 =>
      have H := HA.out
      clear HA
      simp only [paste_Put.j0] at H
      by_cases c15 : x26_5 = true
      · subst c15
        have H1 : (some ((⟨#[]⟩ : ByteArray), 0, 1)) = some (r1, r2, r3) := by rw [if_pos rfl] at H; exact H
        clear H
        have H := H1
        clear H1
        simp only [Option.some.injEq, Prod.mk.injEq] at H
        obtain ⟨rfl, rfl, rfl⟩ := H
        go_wp2
        go_ret3
        exact ⟨by first | rfl | (simp [errW_none, errW_some] <;> rfl) | (simp [*, errW_none, errW_some] <;> rfl), by repeat (first | (with_reducible first | exact HB.out | apply below_alloc | apply pw_below_drewN | apply below_drew1 | refine below_set ?_ GE118.out) | exact HB.out)⟩
      · replace c15 := Bool.eq_false_iff.mpr c15
        subst c15
        have H1 : (if a2_2.toList = ([] : List UInt8) then (paste_Put.j1 kj5 a0 a1 a3 a4 (!a2_1) a2_0 a2_1 a2_2) else (paste_Put.j1 kj5 a0 a1 a3 a4 false a2_0 a2_1 a2_2)) = some (r1, r2, r3) := by rw [if_neg (show ¬ (false = true) by decide)] at H; exact H
        clear H
        have H := H1
        clear H1
        have HC16 := Aside0.mk H
        clear H
        go_upto_region 3 with (fail)
        go_cut [34] (fun v34 wc => ∃ (kq : Nat) (x34_15 : Bool), v34 = .bool x34_15 ∧ Aside0 (paste_Put.j1 kq a0 a1 a3 a4 x34_15 a2_0 a2_1 a2_2 = some (r1, r2, r3)) ∧ Aside0 (kq ≤ kj5) ∧ Aside0 (wc.heap[gb118]? = some (.cells #[.int .i64 a2_0, .bool a2_1, .string a2_2] 23 (0, 0))) ∧ Aside0 (Below w.heap.size w wc))
        case first =>
          have H := HC16.out
          clear HC16
          by_cases c17 : a2_2.toList = ([] : List UInt8)
          · rw [if_pos c17] at H
            have c17b0 : (a2_2.toList == ([] : List UInt8)) = true := beq_iff_eq.mpr c17
            have c17b1 : (a2_2.toList != ([] : List UInt8)) = false := bne_eq_false_iff_eq.mpr c17
            clear c17
            (first | rw [c17b0] | (simp only [i64_w, i32_w]; rw [c17b0]) | skip)
            have H' := Aside0.mk H
            clear H
            have hcz18_0 : wc.cell? ⟨gb118, 0, none⟩ = some (.int .i64 a2_0) := (blk_cell BK118.out 0).trans rfl
            have hcz18_1 : wc.cell? ⟨gb118, 1, none⟩ = some (.bool a2_1) := (blk_cell BK118.out 1).trans rfl
            have hcz18_2 : wc.cell? ⟨gb118, 2, none⟩ = some (.string a2_2) := (blk_cell BK118.out 2).trans rfl
            have hfz18_0 := blk_frozen BK118.out 0
            have hfz18_1 := blk_frozen BK118.out 1
            have hfz18_2 := blk_frozen BK118.out 2
            go_wp2
            go_meet
            case rel => exact ⟨_, (!a2_1), (by first | rfl | (simp; done) | (simp [*]; done)), H', ⟨by have := HJ5.out; first | omega | exact Nat.le_refl _⟩, ⟨by (with_reducible repeat (first | refine blk_drewN ?_ _ | refine blk_drew ?_ | refine blk_alloc ?_ _)); exact BK118.out⟩, ⟨by repeat (first | (with_reducible first | exact HB.out | apply below_alloc | apply pw_below_drewN | apply below_drew1 | refine below_set ?_ GE118.out) | exact HB.out)⟩⟩
          · rw [if_neg c17] at H
            have c17b0 : (a2_2.toList == ([] : List UInt8)) = false := beq_eq_false_iff_ne.mpr c17
            have c17b1 : (a2_2.toList != ([] : List UInt8)) = true := bne_iff_ne.mpr c17
            (first | rw [c17b0] | (simp only [i64_w, i32_w]; rw [c17b0]) | skip)
            have H' := Aside0.mk H
            clear H
            have hcz19_0 : wc.cell? ⟨gb118, 0, none⟩ = some (.int .i64 a2_0) := (blk_cell BK118.out 0).trans rfl
            have hcz19_1 : wc.cell? ⟨gb118, 1, none⟩ = some (.bool a2_1) := (blk_cell BK118.out 1).trans rfl
            have hcz19_2 : wc.cell? ⟨gb118, 2, none⟩ = some (.string a2_2) := (blk_cell BK118.out 2).trans rfl
            have hfz19_0 := blk_frozen BK118.out 0
            have hfz19_1 := blk_frozen BK118.out 1
            have hfz19_2 := blk_frozen BK118.out 2
            go_wp2
            go_meet
            case rel => exact ⟨_, (false), (by first | rfl | (simp; done) | (simp [*]; done)), H', ⟨by have := HJ5.out; first | omega | exact Nat.le_refl _⟩, ⟨by (with_reducible repeat (first | refine blk_drewN ?_ _ | refine blk_drew ?_ | refine blk_alloc ?_ _)); exact BK118.out⟩, ⟨by repeat (first | (with_reducible first | exact HB.out | apply below_alloc | apply pw_below_drewN | apply below_drew1 | refine below_set ?_ GE118.out) | exact HB.out)⟩⟩
        case rest =>
          clear HC16
          try clear c1
          try clear p2
          try clear c8
          try clear c9
          try clear c15
          try clear c17
          try clear c17b0
          try clear c17b1
          try clear c19
          try clear hcz12_0
          try clear hcz12_1
          try clear hcz12_2
          try clear hcz18_0
          try clear hcz18_1
          try clear hcz18_2
          try clear hcz19_0
          try clear hcz19_1
          try clear hcz19_2
          try clear hfz12_0
          try clear hfz12_1
          try clear hfz12_2
          try clear hfz18_0
          try clear hfz18_1
          try clear hfz18_2
          try clear hfz19_0
          try clear hfz19_1
          try clear hfz19_2
          try clear p2
          obtain ⟨kq, x34_15, rfl, HA, HJ15, BK118, HB⟩ := hcut
          cases kq with
          | zero => exact absurd HA.out (by simp [paste_Put.j1])
          | succ kj15 =>
            have H := HA.out
            clear HA
            simp only [paste_Put.j1] at H
            by_cases c20 : x34_15 = true
            · subst c20
              have H1 : (some ((⟨#[]⟩ : ByteArray), 0, 7)) = some (r1, r2, r3) := by rw [if_pos rfl] at H; exact H
              clear H
              have H := H1
              clear H1
              simp only [Option.some.injEq, Prod.mk.injEq] at H
              obtain ⟨rfl, rfl, rfl⟩ := H
              go_wp2
              go_ret3
              exact ⟨by first | rfl | (simp [errW_none, errW_some] <;> rfl) | (simp [*, errW_none, errW_some] <;> rfl), by repeat (first | (with_reducible first | exact HB.out | apply below_alloc | apply pw_below_drewN | apply below_drew1 | refine below_set ?_ GE118.out) | exact HB.out)⟩
            · replace c20 := Bool.eq_false_iff.mpr c20
              subst c20
              have H1 : (if a2_1 = true then ((line_Of.f a0 a1).bind fun t121 => ((paste_lines.f kj15 a0 t121 a2_2 a3 (mx a4 1)).bind fun bt122 => (some (bt122.1, bt122.2.1, bt122.2.2)))) else ((paste_times.f kj15 a2_2 (⟨#[]⟩ : ByteArray) (mx a4 1)).bind fun bt125 => (if bt125.2 = true then (if a3 = true then (paste_Put.j2 kj15 a0 a1 bt125.1 false) else ((paste_stop.f a0 a1).bind fun t127 => (paste_Put.j2 kj15 a0 a1 bt125.1 (!t127)))) else (some ((⟨#[]⟩ : ByteArray), 0, 8))))) = some (r1, r2, r3) := by rw [if_neg (show ¬ (false = true) by decide)] at H; exact H
              clear H
              have H := H1
              clear H1
              by_cases c21 : a2_1 = true
              · subst c21
                have H1 : ((line_Of.f a0 a1).bind fun t121 => ((paste_lines.f kj15 a0 t121 a2_2 a3 (mx a4 1)).bind fun bt122 => (some (bt122.1, bt122.2.1, bt122.2.2)))) = some (r1, r2, r3) := by rw [if_pos rfl] at H; exact H
                clear H
                have H := H1
                clear H1
                replace H := Option.bind_eq_some_iff.mp H
                obtain ⟨t121, A220, H⟩ := H
                replace H : ((paste_lines.f kj15 a0 t121 a2_2 a3 (mx a4 1)).bind fun bt122 => (some (bt122.1, bt122.2.1, bt122.2.2))) = some (r1, r2, r3) := H
                have A22 := Aside0.mk A220
                clear A220
                obtain ⟨ji23, hji23⟩ : ∃ j_ : Int, (mx a4 1) = j_ := ⟨_, rfl⟩
                replace H : ((paste_lines.f kj15 a0 t121 a2_2 a3 (ji23)).bind fun bt122 => (some (bt122.1, bt122.2.1, bt122.2.2))) = some (r1, r2, r3) := by first | (rw [hji23] at H; exact H) | (simp only [hji23] at H ⊢; exact H)
                (try rw [hji23] at A22)
                have hji23_ : (if a4 < 1 then 1 else a4) = ji23 := hji23
                replace H := Option.bind_eq_some_iff.mp H
                obtain ⟨⟨t122, t123, t124⟩, A240, H⟩ := H
                replace H : (some (t122, t123, t124)) = some (r1, r2, r3) := H
                have A24 := Aside0.mk A240
                clear A240
                simp only [Option.some.injEq, Prod.mk.injEq] at H
                obtain ⟨rfl, rfl, rfl⟩ := H
                have hcz25_0 : wc.cell? ⟨gb118, 0, none⟩ = some (.int .i64 a2_0) := (blk_cell BK118.out 0).trans rfl
                have hcz25_1 : wc.cell? ⟨gb118, 1, none⟩ = some (.bool true) := (blk_cell BK118.out 1).trans rfl
                have hcz25_2 : wc.cell? ⟨gb118, 2, none⟩ = some (.string a2_2) := (blk_cell BK118.out 2).trans rfl
                have hfz25_0 := blk_frozen BK118.out 0
                have hfz25_1 := blk_frozen BK118.out 1
                have hfz25_2 := blk_frozen BK118.out 2
                try go_wp2
                have n0_ := Aside0.mk (blk_drew BK118.out)
                have n1_ := Aside0.mk (below_drew1 HB.out)
                clear BK118
                clear HB
                have BK118 := n0_
                have HB := n1_
                clear n0_ n1_
                refine start_ (n := 16) (S := fun w' => w'.cell? ⟨gb118, 0, none⟩ = some (.int .i64 a2_0) ∧ w'.cell? ⟨gb118, 1, none⟩ = some (.bool true) ∧ w'.cell? ⟨gb118, 2, none⟩ = some (.string a2_2)) (ds := []) #[false, false, false, false, false, false, false, false, false, false, false, false, false, false, false, false] (by kernel_rfl) rfl rfl ⟨(blk_cell BK118.out 0).trans rfl, (blk_cell BK118.out 1).trans rfl, (blk_cell BK118.out 2).trans rfl⟩ (fun hHeld => ?_); refine with_tabW paste_Put.tab6 paste_Put.bits6 (fun HT_ HW_ => ?_)
                generalize wc.drew = w26 at BK118 HB hHeld ⊢
                refine pure_ (i := 0) (N := some 37) (v := ?_) (a' := ?_) #[true, false, false, false, false, false, false, false, false, false, false, false, false, false, false, false] rfl rfl (any_of HT_.out (by kernel_rfl)) (fun _ _ _ h => h) (Or.inl ⟨by rfl, ?_⟩) ?_ ?_
                rotate_left
                · intro w'
                  go_simp
                  with_reducible rfl
                rotate_left
                · simp only [Act.put, List.setIfInBounds_toArray, List.set_cons_zero, List.set_cons_succ, i64_w, i32_w]
                  rfl
                refine pure_ (i := 1) (N := some 38) (v := ?_) (a' := ?_) #[true, true, false, false, false, false, false, false, false, false, false, false, false, false, false, false] rfl rfl (any_of HT_.out (by kernel_rfl)) (fun _ _ _ h => h) (Or.inl ⟨by rfl, ?_⟩) ?_ ?_
                rotate_left
                · intro w'
                  go_simp
                  with_reducible rfl
                rotate_left
                · simp only [Act.put, List.setIfInBounds_toArray, List.set_cons_zero, List.set_cons_succ, i64_w, i32_w]
                  rfl
                refine pure_ (i := 2) (N := some 39) (v := ?_) (a' := ?_) #[true, true, true, false, false, false, false, false, false, false, false, false, false, false, false, false] rfl rfl (any_of HT_.out (by kernel_rfl)) (fun _ _ _ h => h) (Or.inl ⟨by rfl, ?_⟩) ?_ ?_
                rotate_left
                · intro w'
                  go_simp
                  with_reducible rfl
                rotate_left
                · simp only [Act.put, List.setIfInBounds_toArray, List.set_cons_zero, List.set_cons_succ, i64_w, i32_w]
                  rfl
                refine pure_ (i := 4) (N := some 41) (v := ?_) (a' := ?_) #[true, true, true, false, true, false, false, false, false, false, false, false, false, false, false, false] rfl rfl (any_of HT_.out (by kernel_rfl)) (fun _ _ _ h => h) (Or.inl ⟨by rfl, ?_⟩) ?_ ?_
                rotate_left
                · intro w'
                  go_simp
                  with_reducible rfl
                rotate_left
                · simp only [Act.put, List.setIfInBounds_toArray, List.set_cons_zero, List.set_cons_succ, i64_w, i32_w]
                  rfl
                refine pure_ (i := 6) (N := some 43) (v := ?_) (a' := ?_) #[true, true, true, false, true, false, true, false, false, false, false, false, false, false, false, false] rfl rfl (any_of HT_.out (by kernel_rfl)) (fun _ _ _ h => h) (Or.inl ⟨by rfl, ?_⟩) ?_ ?_
                rotate_left
                · intro w'
                  go_simp
                  with_reducible rfl
                rotate_left
                · simp only [Act.put, List.setIfInBounds_toArray, List.set_cons_zero, List.set_cons_succ, i64_w, i32_w]
                  rfl
                refine pure_ (i := 7) (N := some 44) (v := ?_) (a' := ?_) #[true, true, true, false, true, false, true, true, false, false, false, false, false, false, false, false] rfl rfl (any_of HT_.out (by kernel_rfl)) (fun _ _ _ h => h) (Or.inl ⟨by rfl, ?_⟩) ?_ ?_
                rotate_left
                · intro w'
                  go_simp
                  with_reducible rfl
                rotate_left
                · simp only [Act.put, List.setIfInBounds_toArray, List.set_cons_zero, List.set_cons_succ, i64_w, i32_w]
                  rfl
                refine pure_ (i := 8) (N := some 45) (v := ?_) (a' := ?_) #[true, true, true, false, true, false, true, true, true, false, false, false, false, false, false, false] rfl rfl (any_of HT_.out (by kernel_rfl)) (fun _ _ _ h => h) (Or.inl ⟨by rfl, ?_⟩) ?_ ?_
                rotate_left
                · intro w'
                  go_simp
                  with_reducible rfl
                rotate_left
                · simp only [Act.put, List.setIfInBounds_toArray, List.set_cons_zero, List.set_cons_succ, i64_w, i32_w]
                  rfl
                refine take_ (i := 5) (N := some 42) (v := ?_) (a' := ?_) #[true, true, true, false, true, true, true, true, true, false, false, false, false, false, false, false] rfl rfl (take_ofW HT_.out HW_.out (by kernel_rfl)) (fun _ _ _ h => h) (Or.inl ⟨by rfl, ?_⟩) hHeld ?_ ?_
                rotate_left
                · rintro w' ⟨s0, s1, s2⟩
                  go_simp
                  with_reducible rfl
                rotate_left
                · simp only [Act.put, List.setIfInBounds_toArray, List.set_cons_zero, List.set_cons_succ, i64_w, i32_w]
                  rfl
                refine one_ (i := 3) (N := some 40) #[true, true, true, true, true, true, true, true, true, false, false, false, false, false, false, false] rfl rfl (one_of HT_.out (by kernel_rfl)) (by decide) (fun K hK => ?_)
                refine goes_ Tryd.func22 (by kernel_rfl) rfl #[.string a0, .int .i64 a1] (by rfl) rfl rfl (by (try simp only [List.map_toArray, List.map_cons, List.map_nil]); first | done | rfl | (simp only [List.length_drop, List.length_take]; rfl)) ?_
                with_reducible refine (line_Of.calls a0 a1 t121 _ A22.out).mono ?_
                rintro e w27 ⟨rfl, hb⟩
                refine ⟨_, rfl, ?_⟩
                have n0_ := Aside0.mk (blk_below (g := gb118) (o := .cells #[.int .i64 a2_0, .bool true, .string a2_2] 23 (0, 0)) (by (with_reducible repeat (first | refine blk_drewN ?_ _ | refine blk_drew ?_ | refine blk_alloc ?_ _)); exact BK118.out) hb)
                have n1_ := Aside0.mk (below_step (by repeat (first | (with_reducible first | exact HB.out | apply below_alloc | apply pw_below_drewN | apply below_drew1 | refine below_set ?_ GE118.out) | exact HB.out)) hb)
                clear BK118
                clear HB
                have BK118 := n0_
                have HB := n1_
                clear n0_ n1_
                (try clear hb)
                (try clear hb2)
                (try clear hk)
                (try clear hi)
                refine hK.out _ _ ⟨(blk_cell BK118.out 0).trans rfl, (blk_cell BK118.out 1).trans rfl, (blk_cell BK118.out 2).trans rfl⟩ (fun hHeld => ?_)
                clear hK K
                refine norm_ (a' := ?_) ?_ ?_
                rotate_left
                · show Act.put _ (some 40) _ = _
                  simp only [Act.put, List.setIfInBounds_toArray, List.set_cons_zero, List.set_cons_succ, i64_w, i32_w]
                  rfl
                refine one_ (i := 9) (N := some 46) #[true, true, true, true, true, true, true, true, true, true, false, false, false, false, false, false] rfl rfl (one_of HT_.out (by kernel_rfl)) (by decide) (fun K hK => ?_)
                refine goes_ Tryd.func21 (by kernel_rfl) rfl #[.string a0, .int .i64 t121, .string a2_2, .bool a3, .int .i64 ji23] (by rfl) rfl rfl (by (try simp only [List.map_toArray, List.map_cons, List.map_nil]); first | done | (simp only [hji23]; rfl) | rfl | (simp only [List.length_drop, List.length_take]; rfl)) ?_
                with_reducible refine (paste_lines.calls kj15 a0 t121 a2_2 a3 ji23 t122 t123 t124 _ A24.out).mono ?_
                rintro e w28 ⟨rfl, hb⟩
                refine ⟨_, rfl, ?_⟩
                have n0_ := Aside0.mk (blk_below (g := gb118) (o := .cells #[.int .i64 a2_0, .bool true, .string a2_2] 23 (0, 0)) (by (with_reducible repeat (first | refine blk_drewN ?_ _ | refine blk_drew ?_ | refine blk_alloc ?_ _)); exact BK118.out) hb)
                have n1_ := Aside0.mk (below_step (by repeat (first | (with_reducible first | exact HB.out | apply below_alloc | apply pw_below_drewN | apply below_drew1 | refine below_set ?_ GE118.out) | exact HB.out)) hb)
                clear BK118
                clear HB
                have BK118 := n0_
                have HB := n1_
                clear n0_ n1_
                (try clear hb)
                (try clear hb2)
                (try clear hk)
                (try clear hi)
                refine hK.out _ _ ⟨(blk_cell BK118.out 0).trans rfl, (blk_cell BK118.out 1).trans rfl, (blk_cell BK118.out 2).trans rfl⟩ (fun hHeld => ?_)
                clear hK K
                refine norm_ (a' := ?_) ?_ ?_
                rotate_left
                · show Act.put _ (some 46) _ = _
                  simp only [Act.put, List.setIfInBounds_toArray, List.set_cons_zero, List.set_cons_succ, i64_w, i32_w]
                  rfl
                refine pure_ (i := 10) (N := some 47) (v := ?_) (a' := ?_) #[true, true, true, true, true, true, true, true, true, true, true, false, false, false, false, false] rfl rfl (any_of HT_.out (by kernel_rfl)) (fun _ _ _ h => h) (Or.inl ⟨by rfl, ?_⟩) ?_ ?_
                rotate_left
                · intro w'
                  go_simp
                  with_reducible rfl
                rotate_left
                · simp only [Act.put, List.setIfInBounds_toArray, List.set_cons_zero, List.set_cons_succ, i64_w, i32_w]
                  rfl
                refine pure_ (i := 11) (N := some 48) (v := ?_) (a' := ?_) #[true, true, true, true, true, true, true, true, true, true, true, true, false, false, false, false] rfl rfl (any_of HT_.out (by kernel_rfl)) (fun _ _ _ h => h) (Or.inl ⟨by rfl, ?_⟩) ?_ ?_
                rotate_left
                · intro w'
                  go_simp
                  with_reducible rfl
                rotate_left
                · simp only [Act.put, List.setIfInBounds_toArray, List.set_cons_zero, List.set_cons_succ, i64_w, i32_w]
                  rfl
                refine pure_ (i := 12) (N := some 49) (v := ?_) (a' := ?_) #[true, true, true, true, true, true, true, true, true, true, true, true, true, false, false, false] rfl rfl (any_of HT_.out (by kernel_rfl)) (fun _ _ _ h => h) (Or.inl ⟨by rfl, ?_⟩) ?_ ?_
                rotate_left
                · intro w'
                  go_simp
                  with_reducible rfl
                rotate_left
                · simp only [Act.put, List.setIfInBounds_toArray, List.set_cons_zero, List.set_cons_succ, i64_w, i32_w]
                  rfl
                refine pure_ (i := 13) (N := some 10) (v := ?_) (a' := ?_) #[true, true, true, true, true, true, true, true, true, true, true, true, true, true, false, false] rfl rfl (any_of HT_.out (by kernel_rfl)) (fun _ _ _ h => h) (Or.inl ⟨by rfl, ?_⟩) ?_ ?_
                rotate_left
                · intro w'
                  go_simp
                  with_reducible rfl
                rotate_left
                · simp only [Act.put, List.setIfInBounds_toArray, List.set_cons_zero, List.set_cons_succ, i64_w, i32_w]
                  rfl
                refine pure_ (i := 14) (N := some 11) (v := ?_) (a' := ?_) #[true, true, true, true, true, true, true, true, true, true, true, true, true, true, true, false] rfl rfl (any_of HT_.out (by kernel_rfl)) (fun _ _ _ h => h) (Or.inl ⟨by rfl, ?_⟩) ?_ ?_
                rotate_left
                · intro w'
                  go_simp
                  with_reducible rfl
                rotate_left
                · simp only [Act.put, List.setIfInBounds_toArray, List.set_cons_zero, List.set_cons_succ, i64_w, i32_w]
                  rfl
                refine pure_ (i := 15) (N := some 12) (v := ?_) (a' := ?_) #[true, true, true, true, true, true, true, true, true, true, true, true, true, true, true, true] rfl rfl (any_of HT_.out (by kernel_rfl)) (fun _ _ _ h => h) (Or.inl ⟨by rfl, ?_⟩) ?_ ?_
                rotate_left
                · intro w'
                  go_simp
                  with_reducible rfl
                rotate_left
                · simp only [Act.put, List.setIfInBounds_toArray, List.set_cons_zero, List.set_cons_succ, i64_w, i32_w]
                  rfl
                refine done_ (done_of HT_.out (by kernel_rfl)) ?_
                try go_wp2
                go_ret3
                exact ⟨by first | rfl | (simp [errW_none, errW_some] <;> rfl) | (simp only [← hji23]; first | rfl | (simp [errW_none, errW_some] <;> rfl)) | (simp [*, errW_none, errW_some] <;> rfl), by repeat (first | (with_reducible first | exact HB.out | apply below_alloc | apply pw_below_drewN | apply below_drew1 | refine below_set ?_ GE118.out) | exact HB.out)⟩
              · replace c21 := Bool.eq_false_iff.mpr c21
                subst c21
                have H1 : ((paste_times.f kj15 a2_2 (⟨#[]⟩ : ByteArray) (mx a4 1)).bind fun bt125 => (if bt125.2 = true then (if a3 = true then (paste_Put.j2 kj15 a0 a1 bt125.1 false) else ((paste_stop.f a0 a1).bind fun t127 => (paste_Put.j2 kj15 a0 a1 bt125.1 (!t127)))) else (some ((⟨#[]⟩ : ByteArray), 0, 8)))) = some (r1, r2, r3) := by rw [if_neg (show ¬ (false = true) by decide)] at H; exact H
                clear H
                have H := H1
                clear H1
                obtain ⟨ji29, hji29⟩ : ∃ j_ : Int, (mx a4 1) = j_ := ⟨_, rfl⟩
                replace H : ((paste_times.f kj15 a2_2 (⟨#[]⟩ : ByteArray) (ji29)).bind fun bt125 => (if bt125.2 = true then (if a3 = true then (paste_Put.j2 kj15 a0 a1 bt125.1 false) else ((paste_stop.f a0 a1).bind fun t127 => (paste_Put.j2 kj15 a0 a1 bt125.1 (!t127)))) else (some ((⟨#[]⟩ : ByteArray), 0, 8)))) = some (r1, r2, r3) := by first | (rw [hji29] at H; exact H) | (simp only [hji29] at H ⊢; exact H)
                have hji29_ : (if a4 < 1 then 1 else a4) = ji29 := hji29
                replace H := Option.bind_eq_some_iff.mp H
                obtain ⟨⟨t125, t126⟩, A300, H⟩ := H
                replace H : (if t126 = true then (if a3 = true then (paste_Put.j2 kj15 a0 a1 t125 false) else ((paste_stop.f a0 a1).bind fun t127 => (paste_Put.j2 kj15 a0 a1 t125 (!t127)))) else (some ((⟨#[]⟩ : ByteArray), 0, 8))) = some (r1, r2, r3) := H
                have A30 := Aside0.mk A300
                clear A300
                by_cases c31 : t126 = true
                · subst c31
                  have H1 : (if a3 = true then (paste_Put.j2 kj15 a0 a1 t125 false) else ((paste_stop.f a0 a1).bind fun t127 => (paste_Put.j2 kj15 a0 a1 t125 (!t127)))) = some (r1, r2, r3) := by rw [if_pos rfl] at H; exact H
                  clear H
                  have H := H1
                  clear H1
                  have HC32 := Aside0.mk H
                  clear H
                  have hcz33_0 : wc.cell? ⟨gb118, 0, none⟩ = some (.int .i64 a2_0) := (blk_cell BK118.out 0).trans rfl
                  have hcz33_1 : wc.cell? ⟨gb118, 1, none⟩ = some (.bool false) := (blk_cell BK118.out 1).trans rfl
                  have hcz33_2 : wc.cell? ⟨gb118, 2, none⟩ = some (.string a2_2) := (blk_cell BK118.out 2).trans rfl
                  have hfz33_0 := blk_frozen BK118.out 0
                  have hfz33_1 := blk_frozen BK118.out 1
                  have hfz33_2 := blk_frozen BK118.out 2
                  go_upto_region 10 with (first | ((with_reducible refine gate_callee (f := 23) rfl ?_); refine goesL_ (some 55) rfl rfl Tryd.func23 (by kernel_rfl) rfl #[.string a2_2, .string (⟨#[]⟩ : ByteArray), .int .i64 ji29] rfl (by (try simp only [List.map_toArray, List.map_cons, List.map_nil]); first | done | (simp only [hji29]; rfl) | rfl | (simp only [List.length_drop, List.length_take]; rfl)) ?_; (with_reducible refine (paste_times.calls kj15 a2_2 (⟨#[]⟩ : ByteArray) ji29 t125 true _ A30.out).mono ?_); rintro e w34 ⟨rfl, hb⟩; refine ⟨_, rfl, ?_⟩; have n0_ := Aside0.mk (blk_below (g := gb118) (o := .cells #[.int .i64 a2_0, .bool false, .string a2_2] 23 (0, 0)) (by (with_reducible repeat (first | refine blk_drewN ?_ _ | refine blk_drew ?_ | refine blk_alloc ?_ _)); exact BK118.out) hb); have n1_ := Aside0.mk (below_step (by repeat (first | (with_reducible first | exact HB.out | apply below_alloc | apply pw_below_drewN | apply below_drew1 | refine below_set ?_ GE118.out) | exact HB.out)) hb); clear BK118; clear HB; have BK118 := n0_; have HB := n1_; clear n0_ n1_; (try clear hb); (try clear hb2); (try clear hk); (try clear hi)))
                  (try simp only [Act.put, List.setIfInBounds_toArray, List.set_cons_zero, List.set_cons_succ])
                  go_cut [67] (fun v67 wc => ∃ (kq : Nat) (x67_31 : Bool), v67 = .bool x67_31 ∧ Aside0 (paste_Put.j2 kq a0 a1 t125 x67_31 = some (r1, r2, r3)) ∧ Aside0 (kq ≤ kj15) ∧ Aside0 (wc.heap[gb118]? = some (.cells #[.int .i64 a2_0, .bool false, .string a2_2] 23 (0, 0))) ∧ Aside0 (Below w.heap.size w wc))
                  case first =>
                    have H := HC32.out
                    clear HC32
                    by_cases c35 : a3 = true
                    · subst c35
                      have H1 : (paste_Put.j2 kj15 a0 a1 t125 false) = some (r1, r2, r3) := by rw [if_pos rfl] at H; exact H
                      clear H
                      have H := H1
                      clear H1
                      have H' := Aside0.mk H
                      clear H
                      go_wp2
                      go_meet
                      case rel => exact ⟨_, (false), (by first | rfl | (simp; done) | (simp [*]; done)), H', ⟨by have := HJ5.out; have := HJ15.out; first | omega | exact Nat.le_refl _⟩, ⟨by (with_reducible repeat (first | refine blk_drewN ?_ _ | refine blk_drew ?_ | refine blk_alloc ?_ _)); exact BK118.out⟩, ⟨by repeat (first | (with_reducible first | exact HB.out | apply below_alloc | apply pw_below_drewN | apply below_drew1 | refine below_set ?_ GE118.out) | exact HB.out)⟩⟩
                    · replace c35 := Bool.eq_false_iff.mpr c35
                      subst c35
                      have H1 : ((paste_stop.f a0 a1).bind fun t127 => (paste_Put.j2 kj15 a0 a1 t125 (!t127))) = some (r1, r2, r3) := by rw [if_neg (show ¬ (false = true) by decide)] at H; exact H
                      clear H
                      have H := H1
                      clear H1
                      replace H := Option.bind_eq_some_iff.mp H
                      obtain ⟨t127, A360, H⟩ := H
                      replace H : (paste_Put.j2 kj15 a0 a1 t125 (!t127)) = some (r1, r2, r3) := H
                      have A36 := Aside0.mk A360
                      clear A360
                      have H' := Aside0.mk H
                      clear H
                      go_wp2_with (first | (go_at_call 24; (with_reducible refine (paste_stop.calls a0 a1 t127 _ A36.out).mono ?_); rintro e w' ⟨rfl, ⟨nd, rfl⟩⟩))
                      go_meet
                      case rel => exact ⟨_, (!t127), (by first | rfl | (simp; done) | (simp [*]; done)), H', ⟨by have := HJ5.out; have := HJ15.out; first | omega | exact Nat.le_refl _⟩, ⟨by (with_reducible repeat (first | refine blk_drewN ?_ _ | refine blk_drew ?_ | refine blk_alloc ?_ _)); exact BK118.out⟩, ⟨by repeat (first | (with_reducible first | exact HB.out | apply below_alloc | apply pw_below_drewN | apply below_drew1 | refine below_set ?_ GE118.out) | exact HB.out)⟩⟩
                  case rest =>
                    clear HC32
                    try clear c1
                    try clear c2
                    try clear p2
                    try clear c3
                    try clear c8
                    try clear c9
                    try clear c15
                    try clear c17
                    try clear c17b0
                    try clear c17b1
                    try clear c19
                    try clear c20
                    try clear c21
                    try clear c22
                    try clear c23
                    try clear c31
                    try clear c35
                    try clear hcz12_0
                    try clear hcz12_1
                    try clear hcz12_2
                    try clear hcz18_0
                    try clear hcz18_1
                    try clear hcz18_2
                    try clear hcz19_0
                    try clear hcz19_1
                    try clear hcz19_2
                    try clear hcz25_0
                    try clear hcz25_1
                    try clear hcz25_2
                    try clear hcz33_0
                    try clear hcz33_1
                    try clear hcz33_2
                    try clear hfz12_0
                    try clear hfz12_1
                    try clear hfz12_2
                    try clear hfz18_0
                    try clear hfz18_1
                    try clear hfz18_2
                    try clear hfz19_0
                    try clear hfz19_1
                    try clear hfz19_2
                    try clear hfz25_0
                    try clear hfz25_1
                    try clear hfz25_2
                    try clear hfz33_0
                    try clear hfz33_1
                    try clear hfz33_2
                    try clear p2
                    obtain ⟨kq, x67_31, rfl, HA, HJ31, BK118, HB⟩ := hcut
                    cases kq with
                    | zero => exact absurd HA.out (by simp [paste_Put.j2])
                    | succ kj31 =>
                      have H := HA.out
                      clear HA
                      simp only [paste_Put.j2] at H
                      have HC37 := Aside0.mk H
                      clear H
                      go_upto_if 67 with (fail)
                      go_cut [1] (fun v1 wc => ∃ (kq : Nat) (x1_36 : Int), v1 = .int .i64 x1_36 ∧ Aside0 (paste_Put.j3 kq a0 x1_36 t125 = some (r1, r2, r3)) ∧ Aside0 (kq ≤ kj31) ∧ Aside0 (wc.heap[gb118]? = some (.cells #[.int .i64 a2_0, .bool false, .string a2_2] 23 (0, 0))) ∧ Aside0 (Below w.heap.size w wc))
                      case first =>
                        have H := HC37.out
                        clear HC37
                        by_cases c38 : x67_31 = true
                        · subst c38
                          have H1 : ((utf_Next.f a0 a1).bind fun t128 => (paste_Put.j3 kj31 a0 t128 t125)) = some (r1, r2, r3) := by rw [if_pos rfl] at H; exact H
                          clear H
                          have H := H1
                          clear H1
                          replace H := Option.bind_eq_some_iff.mp H
                          obtain ⟨t128, A390, H⟩ := H
                          replace H : (paste_Put.j3 kj31 a0 t128 t125) = some (r1, r2, r3) := H
                          have A39 := Aside0.mk A390
                          clear A390
                          have H' := Aside0.mk H
                          clear H
                          go_wp2_with (first | ((with_reducible refine gate_callee (f := 25) rfl ?_); refine goesL_ (some 70) rfl rfl Tryd.func25 (by kernel_rfl) rfl #[.string a0, .int .i64 a1] rfl (by (try simp only [List.map_toArray, List.map_cons, List.map_nil]); first | done | rfl | (simp only [List.length_drop, List.length_take]; rfl)) ?_; (with_reducible refine (utf_Next.calls a0 a1 t128 _ A39.out).mono ?_); rintro e w40 ⟨rfl, hb⟩; refine ⟨_, rfl, ?_⟩; have n0_ := Aside0.mk (blk_below (g := gb118) (o := .cells #[.int .i64 a2_0, .bool false, .string a2_2] 23 (0, 0)) (by (with_reducible repeat (first | refine blk_drewN ?_ _ | refine blk_drew ?_ | refine blk_alloc ?_ _)); exact BK118.out) hb); have n1_ := Aside0.mk (below_step (by repeat (first | (with_reducible first | exact HB.out | apply below_alloc | apply pw_below_drewN | apply below_drew1 | refine below_set ?_ GE118.out) | exact HB.out)) hb); clear BK118; clear HB; have BK118 := n0_; have HB := n1_; clear n0_ n1_; (try clear hb); (try clear hb2); (try clear hk); (try clear hi)))
                          go_meet
                          case rel => exact ⟨_, (t128), (by first | rfl | (simp; done) | (simp [*]; done)), H', ⟨by have := HJ5.out; have := HJ15.out; have := HJ31.out; first | omega | exact Nat.le_refl _⟩, ⟨by (with_reducible repeat (first | refine blk_drewN ?_ _ | refine blk_drew ?_ | refine blk_alloc ?_ _)); exact BK118.out⟩, ⟨by repeat (first | (with_reducible first | exact HB.out | apply below_alloc | apply pw_below_drewN | apply below_drew1 | refine below_set ?_ GE118.out) | exact HB.out)⟩⟩
                        · replace c38 := Bool.eq_false_iff.mpr c38
                          subst c38
                          have H1 : (paste_Put.j3 kj31 a0 a1 t125) = some (r1, r2, r3) := by rw [if_neg (show ¬ (false = true) by decide)] at H; exact H
                          clear H
                          have H := H1
                          clear H1
                          have H' := Aside0.mk H
                          clear H
                          go_wp2
                          go_meet
                          case rel => exact ⟨_, (a1), (by first | rfl | (simp; done) | (simp [*]; done)), H', ⟨by have := HJ5.out; have := HJ15.out; have := HJ31.out; first | omega | exact Nat.le_refl _⟩, ⟨by (with_reducible repeat (first | refine blk_drewN ?_ _ | refine blk_drew ?_ | refine blk_alloc ?_ _)); exact BK118.out⟩, ⟨by repeat (first | (with_reducible first | exact HB.out | apply below_alloc | apply pw_below_drewN | apply below_drew1 | refine below_set ?_ GE118.out) | exact HB.out)⟩⟩
                      case rest =>
                        clear HC37
                        try clear c1
                        try clear c2
                        try clear p2
                        try clear c3
                        try clear c8
                        try clear c9
                        try clear c15
                        try clear c17
                        try clear c17b0
                        try clear c17b1
                        try clear c19
                        try clear c20
                        try clear c21
                        try clear c22
                        try clear c23
                        try clear c25
                        try clear c31
                        try clear c35
                        try clear c38
                        try clear hcz12_0
                        try clear hcz12_1
                        try clear hcz12_2
                        try clear hcz18_0
                        try clear hcz18_1
                        try clear hcz18_2
                        try clear hcz19_0
                        try clear hcz19_1
                        try clear hcz19_2
                        try clear hcz25_0
                        try clear hcz25_1
                        try clear hcz25_2
                        try clear hcz33_0
                        try clear hcz33_1
                        try clear hcz33_2
                        try clear hfz12_0
                        try clear hfz12_1
                        try clear hfz12_2
                        try clear hfz18_0
                        try clear hfz18_1
                        try clear hfz18_2
                        try clear hfz19_0
                        try clear hfz19_1
                        try clear hfz19_2
                        try clear hfz25_0
                        try clear hfz25_1
                        try clear hfz25_2
                        try clear hfz33_0
                        try clear hfz33_1
                        try clear hfz33_2
                        try clear p2
                        obtain ⟨kq, x1_36, rfl, HA, HJ36, BK118, HB⟩ := hcut
                        cases kq with
                        | zero => exact absurd HA.out (by simp [paste_Put.j3])
                        | succ kj36 =>
                          have H := HA.out
                          clear HA
                          simp only [paste_Put.j3] at H
                          replace H := Option.bind_eq_some_iff.mp H
                          obtain ⟨⟨t129, t130⟩, A410, H⟩ := H
                          replace H : (if t130 = 0 then ((strings_Contains.f t125 (⟨#[10]⟩ : ByteArray)).bind fun t131 => (if t131 = true then ((line_Clamp.f t129 x1_36).bind fun t132 => (some (t129, t132, 0))) else ((utf_Prev.f t129 (wrap64 (x1_36 + (t125.size : Int)))).bind fun t133 => (some (t129, t133, 0))))) else (some ((⟨#[]⟩ : ByteArray), 0, t130))) = some (r1, r2, r3) := H
                          have A41 := Aside0.mk A410
                          clear A410
                          by_cases c42 : t130 = 0
                          · rw [if_pos c42] at H
                            have c42b0 : (t130 == 0) = true := beq_iff_eq.mpr c42
                            have c42b1 : (t130 != 0) = false := bne_eq_false_iff_eq.mpr c42
                            clear c42
                            replace H := Option.bind_eq_some_iff.mp H
                            obtain ⟨t131, A430, H⟩ := H
                            replace H : (if t131 = true then ((line_Clamp.f t129 x1_36).bind fun t132 => (some (t129, t132, 0))) else ((utf_Prev.f t129 (wrap64 (x1_36 + (t125.size : Int)))).bind fun t133 => (some (t129, t133, 0)))) = some (r1, r2, r3) := H
                            have A43 := Aside0.mk A430
                            clear A430
                            by_cases c44 : t131 = true
                            · subst c44
                              have H1 : ((line_Clamp.f t129 x1_36).bind fun t132 => (some (t129, t132, 0))) = some (r1, r2, r3) := by rw [if_pos rfl] at H; exact H
                              clear H
                              have H := H1
                              clear H1
                              replace H := Option.bind_eq_some_iff.mp H
                              obtain ⟨t132, A450, H⟩ := H
                              replace H : (some (t129, t132, 0)) = some (r1, r2, r3) := H
                              have A45 := Aside0.mk A450
                              clear A450
                              simp only [Option.some.injEq, Prod.mk.injEq] at H
                              obtain ⟨rfl, rfl, rfl⟩ := H
                              go_wp2_with (first | ((with_reducible refine gate_callee (f := 26) rfl ?_); refine goesL_ (some 75) rfl rfl Tryd.func26 (by kernel_rfl) rfl #[.string a0, .int .i64 x1_36, .string t125] rfl (by (try simp only [List.map_toArray, List.map_cons, List.map_nil]); first | done | rfl | (simp only [List.length_drop, List.length_take]; rfl)) ?_; (with_reducible refine (paste_insert.calls a0 x1_36 t125 t129 t130 _ A41.out).mono ?_); rintro e w' ⟨rfl, ⟨nd, rfl⟩⟩; refine ⟨_, rfl, ?_⟩) | ((with_reducible refine gate_callee (f := 27) rfl ?_); refine goesL_ (some 82) rfl rfl Tryd.func27 (by kernel_rfl) rfl #[.string t125, .string (⟨#[10]⟩ : ByteArray)] rfl (by (try simp only [List.map_toArray, List.map_cons, List.map_nil]); first | done | rfl | (simp only [List.length_drop, List.length_take]; rfl)) ?_; (with_reducible refine (strings_Contains.calls t125 (⟨#[10]⟩ : ByteArray) true _ A43.out).mono ?_); rintro e w46 ⟨rfl, hb⟩; refine ⟨_, rfl, ?_⟩; have n0_ := Aside0.mk (blk_below (g := gb118) (o := .cells #[.int .i64 a2_0, .bool false, .string a2_2] 23 (0, 0)) (by (with_reducible repeat (first | refine blk_drewN ?_ _ | refine blk_drew ?_ | refine blk_alloc ?_ _)); exact BK118.out) hb); have n1_ := Aside0.mk (below_step (by repeat (first | (with_reducible first | exact HB.out | apply below_alloc | apply pw_below_drewN | apply below_drew1 | refine below_set ?_ GE118.out) | exact HB.out)) hb); clear BK118; clear HB; have BK118 := n0_; have HB := n1_; clear n0_ n1_; (try clear hb); (try clear hb2); (try clear hk); (try clear hi)) | ((with_reducible refine gate_callee (f := 28) rfl ?_); refine goesL_ (some 86) rfl rfl Tryd.func28 (by kernel_rfl) rfl #[.string t129, .int .i64 x1_36] rfl (by (try simp only [List.map_toArray, List.map_cons, List.map_nil]); first | done | rfl | (simp only [List.length_drop, List.length_take]; rfl)) ?_; (with_reducible refine (line_Clamp.calls t129 x1_36 t132 _ A45.out).mono ?_); rintro e w47 ⟨rfl, hb⟩; refine ⟨_, rfl, ?_⟩; have n0_ := Aside0.mk (blk_below (g := gb118) (o := .cells #[.int .i64 a2_0, .bool false, .string a2_2] 23 (0, 0)) (by (with_reducible repeat (first | refine blk_drewN ?_ _ | refine blk_drew ?_ | refine blk_alloc ?_ _)); exact BK118.out) hb); have n1_ := Aside0.mk (below_step (by repeat (first | (with_reducible first | exact HB.out | apply below_alloc | apply pw_below_drewN | apply below_drew1 | refine below_set ?_ GE118.out) | exact HB.out)) hb); clear BK118; clear HB; have BK118 := n0_; have HB := n1_; clear n0_ n1_; (try clear hb); (try clear hb2); (try clear hk); (try clear hi)))
                              go_ret3
                              exact ⟨by first | rfl | (simp [errW_none, errW_some] <;> rfl) | (simp only [← hji29]; first | rfl | (simp [errW_none, errW_some] <;> rfl)) | (simp [*, errW_none, errW_some] <;> rfl), by repeat (first | (with_reducible first | exact HB.out | apply below_alloc | apply pw_below_drewN | apply below_drew1 | refine below_set ?_ GE118.out) | exact HB.out)⟩
                            · replace c44 := Bool.eq_false_iff.mpr c44
                              subst c44
                              have H1 : ((utf_Prev.f t129 (wrap64 (x1_36 + (t125.size : Int)))).bind fun t133 => (some (t129, t133, 0))) = some (r1, r2, r3) := by rw [if_neg (show ¬ (false = true) by decide)] at H; exact H
                              clear H
                              have H := H1
                              clear H1
                              replace H := Option.bind_eq_some_iff.mp H
                              obtain ⟨t133, A480, H⟩ := H
                              replace H : (some (t129, t133, 0)) = some (r1, r2, r3) := H
                              have A48 := Aside0.mk A480
                              clear A480
                              simp only [Option.some.injEq, Prod.mk.injEq] at H
                              obtain ⟨rfl, rfl, rfl⟩ := H
                              go_wp2_with (first | ((with_reducible refine gate_callee (f := 26) rfl ?_); refine goesL_ (some 75) rfl rfl Tryd.func26 (by kernel_rfl) rfl #[.string a0, .int .i64 x1_36, .string t125] rfl (by (try simp only [List.map_toArray, List.map_cons, List.map_nil]); first | done | rfl | (simp only [List.length_drop, List.length_take]; rfl)) ?_; (with_reducible refine (paste_insert.calls a0 x1_36 t125 t129 t130 _ A41.out).mono ?_); rintro e w' ⟨rfl, ⟨nd, rfl⟩⟩; refine ⟨_, rfl, ?_⟩) | ((with_reducible refine gate_callee (f := 27) rfl ?_); refine goesL_ (some 82) rfl rfl Tryd.func27 (by kernel_rfl) rfl #[.string t125, .string (⟨#[10]⟩ : ByteArray)] rfl (by (try simp only [List.map_toArray, List.map_cons, List.map_nil]); first | done | rfl | (simp only [List.length_drop, List.length_take]; rfl)) ?_; (with_reducible refine (strings_Contains.calls t125 (⟨#[10]⟩ : ByteArray) false _ A43.out).mono ?_); rintro e w49 ⟨rfl, hb⟩; refine ⟨_, rfl, ?_⟩; have n0_ := Aside0.mk (blk_below (g := gb118) (o := .cells #[.int .i64 a2_0, .bool false, .string a2_2] 23 (0, 0)) (by (with_reducible repeat (first | refine blk_drewN ?_ _ | refine blk_drew ?_ | refine blk_alloc ?_ _)); exact BK118.out) hb); have n1_ := Aside0.mk (below_step (by repeat (first | (with_reducible first | exact HB.out | apply below_alloc | apply pw_below_drewN | apply below_drew1 | refine below_set ?_ GE118.out) | exact HB.out)) hb); clear BK118; clear HB; have BK118 := n0_; have HB := n1_; clear n0_ n1_; (try clear hb); (try clear hb2); (try clear hk); (try clear hi)) | ((with_reducible refine gate_callee (f := 29) rfl ?_); refine goesL_ (some 93) rfl rfl Tryd.func29 (by kernel_rfl) rfl #[.string t129, .int .i64 (wrap64 (x1_36 + (t125.size : Int)))] rfl (by (try simp only [List.map_toArray, List.map_cons, List.map_nil]); first | done | rfl | (simp only [List.length_drop, List.length_take]; rfl)) ?_; (with_reducible refine (utf_Prev.calls t129 (wrap64 (x1_36 + (t125.size : Int))) t133 _ A48.out).mono ?_); rintro e w50 ⟨rfl, hb⟩; refine ⟨_, rfl, ?_⟩; have n0_ := Aside0.mk (blk_below (g := gb118) (o := .cells #[.int .i64 a2_0, .bool false, .string a2_2] 23 (0, 0)) (by (with_reducible repeat (first | refine blk_drewN ?_ _ | refine blk_drew ?_ | refine blk_alloc ?_ _)); exact BK118.out) hb); have n1_ := Aside0.mk (below_step (by repeat (first | (with_reducible first | exact HB.out | apply below_alloc | apply pw_below_drewN | apply below_drew1 | refine below_set ?_ GE118.out) | exact HB.out)) hb); clear BK118; clear HB; have BK118 := n0_; have HB := n1_; clear n0_ n1_; (try clear hb); (try clear hb2); (try clear hk); (try clear hi)))
                              go_ret3
                              exact ⟨by first | rfl | (simp [errW_none, errW_some] <;> rfl) | (simp only [← hji29]; first | rfl | (simp [errW_none, errW_some] <;> rfl)) | (simp [*, errW_none, errW_some] <;> rfl), by repeat (first | (with_reducible first | exact HB.out | apply below_alloc | apply pw_below_drewN | apply below_drew1 | refine below_set ?_ GE118.out) | exact HB.out)⟩
                          · rw [if_neg c42] at H
                            have c42b0 : (t130 == 0) = false := beq_eq_false_iff_ne.mpr c42
                            have c42b1 : (t130 != 0) = true := bne_iff_ne.mpr c42
                            simp only [Option.some.injEq, Prod.mk.injEq] at H
                            obtain ⟨rfl, rfl, rfl⟩ := H
                            go_wp2_with (first | ((with_reducible refine gate_callee (f := 26) rfl ?_); refine goesL_ (some 75) rfl rfl Tryd.func26 (by kernel_rfl) rfl #[.string a0, .int .i64 x1_36, .string t125] rfl (by (try simp only [List.map_toArray, List.map_cons, List.map_nil]); first | done | rfl | (simp only [List.length_drop, List.length_take]; rfl)) ?_; (with_reducible refine (paste_insert.calls a0 x1_36 t125 t129 t130 _ A41.out).mono ?_); rintro e w' ⟨rfl, ⟨nd, rfl⟩⟩; refine ⟨_, rfl, ?_⟩))
                            go_ret3
                            exact ⟨by first | rfl | (simp [errW_none, errW_some] <;> rfl) | (simp only [← hji29]; first | rfl | (simp [errW_none, errW_some] <;> rfl)) | (simp [*, errW_none, errW_some] <;> rfl), by repeat (first | (with_reducible first | exact HB.out | apply below_alloc | apply pw_below_drewN | apply below_drew1 | refine below_set ?_ GE118.out) | exact HB.out)⟩
                · replace c31 := Bool.eq_false_iff.mpr c31
                  subst c31
                  have H1 : (some ((⟨#[]⟩ : ByteArray), 0, 8)) = some (r1, r2, r3) := by rw [if_neg (show ¬ (false = true) by decide)] at H; exact H
                  clear H
                  have H := H1
                  clear H1
                  simp only [Option.some.injEq, Prod.mk.injEq] at H
                  obtain ⟨rfl, rfl, rfl⟩ := H
                  have hcz51_0 : wc.cell? ⟨gb118, 0, none⟩ = some (.int .i64 a2_0) := (blk_cell BK118.out 0).trans rfl
                  have hcz51_1 : wc.cell? ⟨gb118, 1, none⟩ = some (.bool false) := (blk_cell BK118.out 1).trans rfl
                  have hcz51_2 : wc.cell? ⟨gb118, 2, none⟩ = some (.string a2_2) := (blk_cell BK118.out 2).trans rfl
                  have hfz51_0 := blk_frozen BK118.out 0
                  have hfz51_1 := blk_frozen BK118.out 1
                  have hfz51_2 := blk_frozen BK118.out 2
                  go_wp2_with (first | ((with_reducible refine gate_callee (f := 23) rfl ?_); refine goesL_ (some 55) rfl rfl Tryd.func23 (by kernel_rfl) rfl #[.string a2_2, .string (⟨#[]⟩ : ByteArray), .int .i64 ji29] rfl (by (try simp only [List.map_toArray, List.map_cons, List.map_nil]); first | done | (simp only [hji29]; rfl) | rfl | (simp only [List.length_drop, List.length_take]; rfl)) ?_; (with_reducible refine (paste_times.calls kj15 a2_2 (⟨#[]⟩ : ByteArray) ji29 t125 false _ A30.out).mono ?_); rintro e w52 ⟨rfl, hb⟩; refine ⟨_, rfl, ?_⟩; have n0_ := Aside0.mk (blk_below (g := gb118) (o := .cells #[.int .i64 a2_0, .bool false, .string a2_2] 23 (0, 0)) (by (with_reducible repeat (first | refine blk_drewN ?_ _ | refine blk_drew ?_ | refine blk_alloc ?_ _)); exact BK118.out) hb); have n1_ := Aside0.mk (below_step (by repeat (first | (with_reducible first | exact HB.out | apply below_alloc | apply pw_below_drewN | apply below_drew1 | refine below_set ?_ GE118.out) | exact HB.out)) hb); clear BK118; clear HB; have BK118 := n0_; have HB := n1_; clear n0_ n1_; (try clear hb); (try clear hb2); (try clear hk); (try clear hi)))
                  go_ret3
                  exact ⟨by first | rfl | (simp [errW_none, errW_some] <;> rfl) | (simp only [← hji29]; first | rfl | (simp [errW_none, errW_some] <;> rfl)) | (simp [*, errW_none, errW_some] <;> rfl), by repeat (first | (with_reducible first | exact HB.out | apply below_alloc | apply pw_below_drewN | apply below_drew1 | refine below_set ?_ GE118.out) | exact HB.out)⟩

/-! ### calamuslaw24_lives -/
def calamuslaw24_lives.f (k : Nat)  : Option (Bool) := (paste_Put.f k (⟨#[97, 98]⟩ : ByteArray) 0 0 false (⟨#[120, 121]⟩ : ByteArray) false 1).bind fun bt134 => (if bt134.1.toList = ([97, 120, 121, 98] : List UInt8) then (if bt134.2.1 = 2 then (some (bt134.2.2 == 0)) else (some false)) else (some false))
theorem calamuslaw24_lives.mono : ∀ k, LeO (calamuslaw24_lives.f k ) (calamuslaw24_lives.f (k + 1) ) := by
  intro  k
  unfold calamuslaw24_lives.f
  repeat' first
      | (with_reducible exact paste_Put.mono _ _ _ _ _ _ _ _)
      | (with_reducible exact LeO.refl _)
      | (with_reducible exact LeO.none _)
      | (with_reducible refine LeO.ite ?_ ?_)
      | (with_reducible refine LeO.bind ?_ (fun _ => ?_))
      | exact paste_Put.mono _ _ _ _ _ _ _ _
      | exact LeO.none _
      | refine LeO.ite ?_ ?_
      | refine LeO.bind ?_ (fun _ => ?_)
set_option maxHeartbeats 8000000 in
set_option maxRecDepth 100000 in
theorem calamuslaw24_lives.calls (k : Nat)  (r : Bool) (w : World) (h : calamuslaw24_lives.f k  = some r) :
    Calls Tryd.prog 7 #[] w fun e w' => e = .returned (.bool r) ∧ Below w.heap.size w w' := by
  have hu23 := Tryd.underlying23
  have HB := Aside0.mk (Below.refl w.heap.size w)
  have H : ((paste_Put.f k (⟨#[97, 98]⟩ : ByteArray) 0 0 false (⟨#[120, 121]⟩ : ByteArray) false 1).bind fun bt134 => (if bt134.1.toList = ([97, 120, 121, 98] : List UInt8) then (if bt134.2.1 = 2 then (some (bt134.2.2 == 0)) else (some false)) else (some false))) = some r := h
  clear h
  replace H := Option.bind_eq_some_iff.mp H
  obtain ⟨⟨t134, t135, t136⟩, A10, H⟩ := H
  replace H : (if t134.toList = ([97, 120, 121, 98] : List UInt8) then (if t135 = 2 then (some (t136 == 0)) else (some false)) else (some false)) = some r := H
  have A1 := Aside0.mk A10
  clear A10
  by_cases c2 : t134.toList = ([97, 120, 121, 98] : List UInt8)
  · rw [if_pos c2] at H
    have c2b0 : (t134.toList == ([97, 120, 121, 98] : List UInt8)) = true := beq_iff_eq.mpr c2
    have c2b1 : (t134.toList != ([97, 120, 121, 98] : List UInt8)) = false := bne_eq_false_iff_eq.mpr c2
    clear c2
    by_cases c3 : t135 = 2
    · rw [if_pos c3] at H
      have c3b0 : (t135 == 2) = true := beq_iff_eq.mpr c3
      have c3b1 : (t135 != 2) = false := bne_eq_false_iff_eq.mpr c3
      clear c3
      obtain rfl := Option.some.inj H
      go_enter Tryd.func7, Tryd.ntmps7
      go_wp2_with (first | ((with_reducible refine gate_callee (f := 8) rfl ?_); refine goesL_ (some 6) rfl rfl Tryd.func8 (by kernel_rfl) rfl #[.string (⟨#[97, 98]⟩ : ByteArray), .int .i64 0, .agg #[.int .i64 0, .bool false, .string (⟨#[120, 121]⟩ : ByteArray)], .bool false, .int .i64 1] rfl (by (try simp only [List.map_toArray, List.map_cons, List.map_nil]); first | done | rfl | (simp only [List.length_drop, List.length_take]; rfl)) ?_; (with_reducible refine (paste_Put.calls k (⟨#[97, 98]⟩ : ByteArray) 0 0 false (⟨#[120, 121]⟩ : ByteArray) false 1 t134 t135 t136 _ A1.out).mono ?_); rintro e w4 ⟨rfl, hb⟩; refine ⟨_, rfl, ?_⟩; have n0_ := Aside0.mk (below_step (by repeat (first | (with_reducible first | exact HB.out | apply below_alloc | apply pw_below_drewN | apply below_drew1) | exact HB.out)) hb); clear HB; have HB := n0_; clear n0_; (try clear hb); (try clear hb2); (try clear hk); (try clear hi)))
      go_ret
      exact ⟨by first | rfl | (simp [errW_none, errW_some] <;> rfl) | (simp [*, errW_none, errW_some] <;> rfl), by repeat (first | (with_reducible first | exact HB.out | apply below_alloc | apply pw_below_drewN | apply below_drew1) | exact HB.out)⟩
    · rw [if_neg c3] at H
      have c3b0 : (t135 == 2) = false := beq_eq_false_iff_ne.mpr c3
      have c3b1 : (t135 != 2) = true := bne_iff_ne.mpr c3
      obtain rfl := Option.some.inj H
      go_enter Tryd.func7, Tryd.ntmps7
      go_wp2_with (first | ((with_reducible refine gate_callee (f := 8) rfl ?_); refine goesL_ (some 6) rfl rfl Tryd.func8 (by kernel_rfl) rfl #[.string (⟨#[97, 98]⟩ : ByteArray), .int .i64 0, .agg #[.int .i64 0, .bool false, .string (⟨#[120, 121]⟩ : ByteArray)], .bool false, .int .i64 1] rfl (by (try simp only [List.map_toArray, List.map_cons, List.map_nil]); first | done | rfl | (simp only [List.length_drop, List.length_take]; rfl)) ?_; (with_reducible refine (paste_Put.calls k (⟨#[97, 98]⟩ : ByteArray) 0 0 false (⟨#[120, 121]⟩ : ByteArray) false 1 t134 t135 t136 _ A1.out).mono ?_); rintro e w5 ⟨rfl, hb⟩; refine ⟨_, rfl, ?_⟩; have n0_ := Aside0.mk (below_step (by repeat (first | (with_reducible first | exact HB.out | apply below_alloc | apply pw_below_drewN | apply below_drew1) | exact HB.out)) hb); clear HB; have HB := n0_; clear n0_; (try clear hb); (try clear hb2); (try clear hk); (try clear hi)))
      go_ret
      exact ⟨by first | rfl | (simp [errW_none, errW_some] <;> rfl) | (simp [*, errW_none, errW_some] <;> rfl), by repeat (first | (with_reducible first | exact HB.out | apply below_alloc | apply pw_below_drewN | apply below_drew1) | exact HB.out)⟩
  · rw [if_neg c2] at H
    have c2b0 : (t134.toList == ([97, 120, 121, 98] : List UInt8)) = false := beq_eq_false_iff_ne.mpr c2
    have c2b1 : (t134.toList != ([97, 120, 121, 98] : List UInt8)) = true := bne_iff_ne.mpr c2
    obtain rfl := Option.some.inj H
    go_enter Tryd.func7, Tryd.ntmps7
    go_wp2_with (first | ((with_reducible refine gate_callee (f := 8) rfl ?_); refine goesL_ (some 6) rfl rfl Tryd.func8 (by kernel_rfl) rfl #[.string (⟨#[97, 98]⟩ : ByteArray), .int .i64 0, .agg #[.int .i64 0, .bool false, .string (⟨#[120, 121]⟩ : ByteArray)], .bool false, .int .i64 1] rfl (by (try simp only [List.map_toArray, List.map_cons, List.map_nil]); first | done | rfl | (simp only [List.length_drop, List.length_take]; rfl)) ?_; (with_reducible refine (paste_Put.calls k (⟨#[97, 98]⟩ : ByteArray) 0 0 false (⟨#[120, 121]⟩ : ByteArray) false 1 t134 t135 t136 _ A1.out).mono ?_); rintro e w6 ⟨rfl, hb⟩; refine ⟨_, rfl, ?_⟩; have n0_ := Aside0.mk (below_step (by repeat (first | (with_reducible first | exact HB.out | apply below_alloc | apply pw_below_drewN | apply below_drew1) | exact HB.out)) hb); clear HB; have HB := n0_; clear n0_; (try clear hb); (try clear hb2); (try clear hk); (try clear hi)))
    go_ret
    exact ⟨by first | rfl | (simp [errW_none, errW_some] <;> rfl) | (simp [*, errW_none, errW_some] <;> rfl), by repeat (first | (with_reducible first | exact HB.out | apply below_alloc | apply pw_below_drewN | apply below_drew1) | exact HB.out)⟩





end Go.Proofs.YtckfdehendifoaaDoor.QP
/- Layer 24 lives (MOD QP). -/
namespace Go.Proofs.YtckfdehendifoaaDoor
open Go.RowKit
set_option linter.unusedVariables false
set_option linter.unusedSimpArgs false
open Go.RowKit Go.Proofs.YtckfdehendifoaaDoor.QP Go.Proofs.YtckfdehendifoaaDoorW.PrintWords Go.Proofs.YtckfdehendifoaaDoorW.PrintMore
theorem put24 : Ev (fun K => paste_Put.f K ⟨#[97, 98]⟩ 0 0 false ⟨#[120, 121]⟩ false 1) (⟨#[97, 120, 121, 98]⟩, 2, 0) := by
  have hp : placeB (ls ⟨#[97, 98]⟩) ((0 : Nat) : Int) = true := by decide +kernel
  have he : endI (ls ⟨#[97, 98]⟩) (ofI (ls ⟨#[97, 98]⟩) ((0 : Nat) : Int)) = (2 : Nat) := by decide +kernel
  unfold paste_Put.f
  refine Ev.call (utf_Place.eq _ _ (by decide)) (Ev.pos hp (Ev.call (utf_Valid.eq _ (by decide)) ?_))
  rw [show validL (ls ⟨#[120, 121]⟩) = true by decide +kernel]
  refine Ev.step (fun _ => (by rw [paste_Put.j0])) ?_
  refine Ev.neg (by simp) (Ev.neg (by rw [toList_ls]; decide) ?_)
  refine Ev.step (fun _ => (by rw [paste_Put.j1])) ?_
  rw [mx_eq, show max (1 : Int) 1 = ((1 : Nat) : Int) by decide]
  refine Ev.neg (by simp) (Ev.neg (by simp) (Ev.bind (times_ev ⟨#[120, 121]⟩ ⟨#[]⟩ 1 (by decide) (by decide) (by decide)) (Ev.pos rfl (Ev.neg (by simp) (Ev.call (stop_val ⟨#[97, 98]⟩ hp he (by decide)) ?_)))))
  rw [show (!decide ((0 : Nat) = 2)) = true by decide, show repT ⟨#[120, 121]⟩ ⟨#[]⟩ 1 = ⟨#[120, 121]⟩ from ba_ext (by rw [ls_repT]; rfl)]
  refine Ev.step (fun _ => (by rw [paste_Put.j2])) ?_
  refine Ev.pos rfl (Ev.call (utf_Next.eq _ _ (by decide)) ?_)
  rw [show nextI (ls ⟨#[97, 98]⟩) 0 = ((1 : Nat) : Int) by decide +kernel]
  refine Ev.step (fun _ => (by rw [paste_Put.j3])) ?_
  refine Ev.call (insert_ok ⟨#[97, 98]⟩ ⟨#[120, 121]⟩ 1 (by decide) (by decide)) (Ev.pos rfl ?_)
  rw [show ((⟨#[97, 98]⟩ : ByteArray).extract 0 1 ++ ⟨#[120, 121]⟩) ++ (⟨#[97, 98]⟩ : ByteArray).extract 1 (⟨#[97, 98]⟩ : ByteArray).size = ⟨#[97, 120, 121, 98]⟩ from ba_ext (by rw [ls_cat, ls_cat, ls_ext2, ls_ext]; rfl)]
  refine Ev.call (strings_Contains.eq _) ?_
  rw [show decide (0 ≤ Lib.indexByte (ls ⟨#[120, 121]⟩) 10) = false by decide +kernel]
  refine Ev.neg (by simp) (Ev.call (utf_Prev.eq _ _ (by decide)) (Ev.ret ?_))
  rw [show wrap64 (((1 : Nat) : Int) + ((⟨#[120, 121]⟩ : ByteArray).size : Int)) = 3 from w64 (by decide) (by decide), show prevI (ls ⟨#[97, 120, 121, 98]⟩) 3 = 2 by decide +kernel]
theorem lives24 : Ev (fun K => calamuslaw24_lives.f K) true := by
  unfold calamuslaw24_lives.f
  exact Ev.bind put24 (Ev.pos (by rw [toList_ls]) (Ev.pos rfl (Ev.ret rfl)))
theorem lives24' : Ev (fun K => (calamuslaw24_lives.f K).bind fun t => some t) true := Ev.bind lives24 (Ev.ret rfl)
end Go.Proofs.YtckfdehendifoaaDoor
/- line.First in plain words (MOD QP). -/
namespace Go.Proofs.YtckfdehendifoaaDoor
open Go.RowKit
set_option linter.unusedVariables false
set_option linter.unusedSimpArgs false
open Go.RowKit Go.Proofs.YtckfdehendifoaaDoor.QP Go.Proofs.YtckfdehendifoaaDoorW.PrintWords Go.Proofs.YtckfdehendifoaaDoorW.PrintMore
theorem first_val (t : ByteArray) (k : Int) (ht : t.size ≤ 1000000) : line_First.f t k = some (firstI (ls t) k) := by
  unfold line_First.f firstI
  rw [line_find.eq t k (by omega)]
  simp only [Option.bind_some]
  cases hl : lineI (ls t) k with
  | none => simp
  | some x =>
    obtain ⟨a1, a2, a3, _, _⟩ := lineI_le hl
    rw [ls_len] at a2
    have hs : startI (ls t) k = x.1 := by unfold startI; rw [hl]
    have he : endI (ls t) k = x.2 := by unfold endI; rw [hl]
    rw [hs, he]
    have hrow : ls (t.extract x.1 x.2) = rowL (ls t) x := ls_ext2 t x.1 x.2
    have hrl : (rowL (ls t) x).length = x.2 - x.1 := rowL_len a1 (by rw [ls_len]; exact a2)
    have hbl := blk_le (rowL (ls t) x)
    have hts : (trS (t.extract x.1 x.2) ⟨#[32, 9]⟩).size = (x.2 - x.1) - blk (rowL (ls t) x) := by
      rw [trS_size _ _ rfl, hrow, ← ls_len, hrow, hrl]
    rw [if_pos (show (some x).isSome = true from rfl), if_pos (show (0 : Int) ≤ x.1 by omega), if_pos (show (x.1 : Int) ≤ x.2 by omega), if_pos (show (x.2 : Int) ≤ t.size by omega), Int.toNat_natCast, Int.toNat_natCast, strings_TrimLeft.eq _ _ ⟨by decide, by decide⟩]
    simp only [Option.bind_some]
    rw [line_Clamp.eq t _ (by omega)]
    simp only [Option.bind_some]
    rw [hrl]
    by_cases hc : blk (rowL (ls t) x) = x.2 - x.1
    · rw [if_pos ((empty_iff _).2 (by rw [hts]; omega)), if_pos hc]
    · rw [if_neg (fun h => hc (by have := (empty_iff _).1 h; rw [hts] at this; omega)), if_neg hc, w64 (by rw [hts]; omega) (by rw [hts]; omega), hts]
      congr 1; omega
end Go.Proofs.YtckfdehendifoaaDoor
/- Put of layer 24 and the statement PastePuts in plain words (MOD QP). -/
namespace Go.Proofs.YtckfdehendifoaaDoor
open Go.RowKit
set_option linter.unusedVariables false
set_option linter.unusedSimpArgs false
open Go.RowKit Go.Proofs.YtckfdehendifoaaDoor.QP Go.Proofs.YtckfdehendifoaaDoorW.PrintWords Go.Proofs.YtckfdehendifoaaDoorW.PrintMore
theorem feed_tens (l : List UInt8) : decide (0 ≤ Lib.indexByte l 10) = decide (0 < tens l) := by
  have hl := lnsF_len l 0 0
  by_cases h : Lib.indexByte l 10 < 0
  · have h1 := indexByte_none l 0 0 h
    rw [h1] at hl
    simp only [List.length_singleton] at hl
    rw [decide_eq_false (by omega), decide_eq_false]
    show ¬ 0 < l.count 10
    omega
  · obtain ⟨h1, h2⟩ := indexByte_some l 0 0 (Lib.indexByte l 10).toNat (by omega)
    rw [h2, List.length_cons, lnsF_len] at hl
    rw [decide_eq_true (by omega), decide_eq_true]
    show 0 < l.count 10
    omega
theorem valid_app' (a b : List UInt8) (ha : validL a = true) (hb : validL b = true) : validL (a ++ b) = true := by
  have : ∀ (n : Nat) (a : List UInt8), a.length ≤ n → validL a = true → validL (a ++ b) = true := by
    intro n
    induction n with
    | zero =>
      intro a h _
      have : a = [] := List.eq_nil_of_length_eq_zero (by omega)
      rw [this]; exact hb
    | succ n ih =>
      intro a h ha
      rcases Nat.eq_zero_or_pos a.length with h0 | h0
      · have : a = [] := List.eq_nil_of_length_eq_zero h0
        rw [this]; exact hb
      · have hz := valid_sz ha (by omega)
        have hle := szL_le a
        have hz2 : szL (a ++ b) = szL a := by
          have := sz_tk (l := a ++ b) (k := szL a)
          obtain ⟨g1, g2, g3, g4⟩ := szL_pos hz
          refine szL_of (by rw [List.length_append]; omega) ?_ (by rw [List.length_append]; omega) ?_
          · rw [g2]; congr 1
            unfold byL
            simp [List.getElem?_append_left (show 0 < a.length by omega), List.getD_eq_getElem?_getD]
          · have e : ∀ j, j < szL a → byL (a ++ b) j = byL a j := by
              intro j hj
              unfold byL
              simp [List.getElem?_append_left (show j < a.length by omega), List.getD_eq_getElem?_getD]
            unfold begOk at g4 ⊢
            rw [List.all_eq_true] at g4 ⊢
            intro j hj
            have := g4 j hj
            have hj' := List.mem_range.1 hj
            rw [e j hj', e 0 (by omega)]; exact this
        rw [validL_step (by rw [List.length_append]; omega) (by rw [hz2]; exact hz), hz2, List.drop_append_of_le_length hle]
        rw [validL_step (by omega) hz] at ha
        exact ih (a.drop (szL a)) (by rw [List.length_drop]; omega) ha
  exact this a.length a (Nat.le_refl _) ha
theorem valid_rep {s b : List UInt8} (hs : validL s = true) (hb : validL b = true) : ∀ n, validL (repB s b n) = true
  | 0 => rfl
  | 1 => hs
  | n + 2 => by rw [repB]; exact valid_app' _ _ (valid_app' _ _ (valid_rep hs hb (n + 1)) hb) hs
theorem repT_step (s b : ByteArray) (i : Nat) : (repT s b (i + 1) ++ b) ++ s = repT s b (i + 2) := by
  apply ba_ext; rw [ls_cat, ls_cat, ls_repT, ls_repT]; rfl
theorem repT_mono (s b : ByteArray) {i j : Nat} (h : i ≤ j) : (repT s b (i + 1)).size ≤ (repT s b (j + 1)).size := by
  rw [size_repT, size_repT]
  have := Nat.mul_le_mul_right s.size (show i + 1 ≤ j + 1 by omega)
  have := Nat.mul_le_mul_right b.size h
  omega
end Go.Proofs.YtckfdehendifoaaDoor
/- calamusref05.Flip in plain words (MOD QP). -/
namespace Go.Proofs.YtckfdehendifoaaDoor
open Go.RowKit
set_option linter.unusedVariables false
set_option linter.unusedSimpArgs false
open Go.RowKit Go.Proofs.YtckfdehendifoaaDoor.QP Go.Proofs.YtckfdehendifoaaDoorW.PrintWords Go.Proofs.YtckfdehendifoaaDoorW.PrintMore
def tabB (A B : List UInt8) (g : UInt8 → UInt8) : Bool := (List.range 256).all fun n => if 0 ≤ findF (bsI A) n 0 then B[(findF (bsI A) n 0).toNat]? == some (g (UInt8.ofNat n)) else g (UInt8.ofNat n) == UInt8.ofNat n
theorem tab_at {A B : List UInt8} {g : UInt8 → UInt8} (h : tabB A B g = true) (c : UInt8) : (0 ≤ findF (bsI A) c.toNat 0 → B[(findF (bsI A) c.toNat 0).toNat]? = some (g c)) ∧ (¬ 0 ≤ findF (bsI A) c.toNat 0 → g c = c) := by
  have h2 := List.all_eq_true.1 h c.toNat (List.mem_range.2 c.toNat_lt)
  rw [UInt8.ofNat_toNat] at h2
  refine ⟨fun hc => ?_, fun hc => ?_⟩
  · rw [if_pos hc] at h2; simpa using h2
  · rw [if_neg hc] at h2; simpa using h2
theorem swap_l0 (s A B : ByteArray) (g : UInt8 → UInt8) (hs : s.size ≤ 100000) (hA : A.size ≤ 1000) (hB : B.size ≤ 1000) (ht : tabB (ls A) (ls B) g = true) : ∀ (d i : Nat) (out : ByteArray), s.size - i ≤ d → i ≤ s.size → out.size = i → ls out = ((ls s).take i).map g →
    Ev (fun n => calamusref05_swap.l0 n s A B out i) ⟨((ls s).map g).toArray⟩ := by
  intro d
  induction d with
  | zero =>
    intro i out h1 h2 h3 h4
    refine Ev.step (fun _ => (by rw [calamusref05_swap.l0])) ?_
    refine Ev.neg (by omega) (Ev.ret (ba_ext ?_))
    rw [h4, List.take_of_length_le (by rw [ls_len]; omega)]
  | succ d ih =>
    intro i out h1 h2 h3 h4
    by_cases he : i = s.size
    · exact ih i out (by omega) h2 h3 h4
    · have hi : i < (ls s).length := by rw [ls_len]; omega
      have hbt : bt s i = ((ls s)[i].toNat : Int) := by rw [bt_nat s i (by omega)]; exact (inn_get hi).symm
      have htk : (ls s).take (i + 1) = (ls s).take i ++ [(ls s)[i]] := List.take_succ_eq_append_getElem hi
      obtain ⟨t1, t2⟩ := tab_at ht (ls s)[i]
      refine Ev.step (fun _ => (by rw [calamusref05_swap.l0])) ?_
      rw [hbt, calamusref05_in.eq A _ (by omega)]
      simp only [Option.bind_some]
      have hr := find_range (bsI (ls A)) ((ls s)[i].toNat) 
      rw [bsI_len, ls_len] at hr
      refine Ev.pos (by omega) (Ev.pos (by omega) (Ev.ite (fun hk => ?_) (fun hk => ?_)))
      · have hk0 : 0 ≤ findF (bsI (ls A)) ((ls s)[i].toNat : Int) 0 := hk
        obtain ⟨k, hkk⟩ : ∃ k : Nat, findF (bsI (ls A)) ((ls s)[i].toNat : Int) 0 = k := ⟨_, (Int.toNat_of_nonneg hk0).symm⟩
        have hB2 := t1 hk0
        rw [hkk] at hB2 hr ⊢
        rw [Int.toNat_natCast] at hB2
        obtain ⟨hkl, hkv⟩ := List.getElem?_eq_some_iff.1 hB2
        rw [ls_len] at hkl
        rw [w64 (n := (k : Int) + 1) (by omega) (by omega), w64 (n := (i : Int) + 1) (by omega) (by omega), show ((k : Int) + 1).toNat = k + 1 by omega, Int.toNat_natCast, show (i : Int) + 1 = ((i + 1 : Nat) : Int) by omega]
        have hz : (B.extract k (k + 1)).size = 1 := by rw [ByteArray.size_extract]; omega
        refine Ev.pos (by omega) (Ev.pos (by omega) (Ev.pos (by omega) (Ev.pos (by rw [hz]; omega) (ih (i + 1) _ (by omega) (by omega) (by rw [ByteArray.size_append, hz]; omega) ?_))))
        have : ls (B.extract k (k + 1)) = [g (ls s)[i]] := by
          rw [ls_ext2, List.drop_eq_getElem_cons (by rw [ls_len]; exact hkl), hkv, show k + 1 - k = 1 by omega]; rfl
        show ls (out ++ B.extract k (k + 1)) = _
        unfold ls at this h4 ⊢
        rw [ByteArray.data_append, Array.toList_append, this, h4]
        show _ = ((ls s).take (i + 1)).map g
        rw [htk, List.map_append]; rfl
      · have hg := t2 (by omega)
        rw [w64 (n := (i : Int) + 1) (by omega) (by omega), show ((i : Int) + 1).toNat = i + 1 by omega, Int.toNat_natCast, show (i : Int) + 1 = ((i + 1 : Nat) : Int) by omega]
        have hz : (s.extract i (i + 1)).size = 1 := by rw [ByteArray.size_extract]; omega
        refine Ev.pos (by omega) (Ev.pos (by omega) (Ev.pos (by rw [hz]; omega) (ih (i + 1) _ (by omega) (by omega) (by rw [ByteArray.size_append, hz]; omega) ?_)))
        have : ls (s.extract i (i + 1)) = [g (ls s)[i]] := by
          rw [ls_ext2, List.drop_eq_getElem_cons hi, hg, show i + 1 - i = 1 by omega]; rfl
        show ls (out ++ s.extract i (i + 1)) = _
        unfold ls at this h4 ⊢
        rw [ByteArray.data_append, Array.toList_append, this, h4]
        show _ = ((ls s).take (i + 1)).map g
        rw [htk, List.map_append]; rfl
theorem swap_ev (s A B : ByteArray) (g : UInt8 → UInt8) (hs : s.size ≤ 100000) (hA : A.size ≤ 1000) (hB : B.size ≤ 1000) (ht : tabB (ls A) (ls B) g = true) : Ev (fun n => calamusref05_swap.f n s A B) ⟨((ls s).map g).toArray⟩ := by
  unfold calamusref05_swap.f
  exact swap_l0 s A B g hs hA hB ht s.size 0 _ (by omega) (by omega) rfl rfl
theorem rflip_ev (s : ByteArray) (hz : s.size ≤ 100000) : Ev (fun k => calamusref05_Flip.f k s) (flS s) := by
  unfold calamusref05_Flip.f
  exact Ev.bind (swap_ev s _ _ (fun b => b8 (flB b.toNat)) hz (by decide) (by decide) (by decide +kernel)) (Ev.ret rfl)
end Go.Proofs.YtckfdehendifoaaDoor
/- The contract of line.Normal. -/
namespace Go.Proofs.YtckfdehendifoaaDoor
open Go.RowKit
set_option linter.unusedVariables false
set_option linter.unusedSimpArgs false
set_option maxHeartbeats 4000000 in
set_option maxRecDepth 100000 in
theorem lnormal_c (s : ByteArray) (p : Int) (w : World) (hs : s.size ≤ 1099511627775) : Calls Tryd.prog 11 #[.string s, .int .i64 p] w fun e w' => e = .returned (.bool (normalB (ls s) p)) ∧ Ext w w' := by
  rcases place_cases s p with hp | ⟨q, rfl, hq, hp, hv⟩
  · have H : Hid (normalB (ls s) p = false) := Lib.hid (by unfold normalB; rw [hp]; rfl)
    go_enter Tryd.func11, Tryd.ntmps11
    go_wp2_with (first | (go_at_call 19; refine (place_c _ _ _ (by omega)).mono ?_; rintro e w1 ⟨rfl, hx1⟩))
    go_ret
    exact ⟨retb H.out.symm, (by (repeat (first | exact Ext.refl _ | exact ‹Ext _ _› | refine Ext.alloc ?_ _ | refine Ext.drew ?_ | refine Ext.drewN ?_ _ | (refine Ext.setCell ?_ (by first | omega | (simp; done) | (simp; omega)) _) | refine Ext.trans ?_ ‹Ext _ _›)))⟩
  · have H : Hid (normalB (ls s) q = (!endsB (ls s) q || decide (lst (ls s) q = q))) := Lib.hid (by unfold normalB; rw [hp, Int.toNat_natCast, Bool.true_and])
    obtain ⟨b, hb⟩ : ∃ b, endsB (ls s) q = b := ⟨_, rfl⟩
    have Hb := Lib.hid hb
    obtain ⟨m, hm⟩ : ∃ m, lst (ls s) q = m := ⟨_, rfl⟩
    have Hm := Lib.hid hm
    have hbeg : ∀ w, Calls Tryd.prog 45 #[.string s, .int .i64 q] w fun e w' => e = .returned (.int .i64 (m : Nat)) ∧ Ext w w' := fun w => by rw [← hm]; exact begin_c s q hq w hs
    clear hm
    cases b with
    | true =>
      go_enter Tryd.func11, Tryd.ntmps11
      go_wp2_with (first | (go_at_call 19; refine (place_c _ _ _ (by omega)).mono ?_; rintro e w1 ⟨rfl, hx1⟩) | (go_at_call 44; refine (ends_c s q hq _ hs).mono ?_; rintro e w1 ⟨rfl, hx1⟩) | (go_at_call 45; refine (hbeg _).mono ?_; rintro e w1 ⟨rfl, hx1⟩))
      all_goals (go_ret; refine ⟨retb ?_, (by (repeat (first | exact Ext.refl _ | exact ‹Ext _ _› | refine Ext.alloc ?_ _ | refine Ext.drew ?_ | refine Ext.drewN ?_ _ | (refine Ext.setCell ?_ (by first | omega | (simp; done) | (simp; omega)) _) | refine Ext.trans ?_ ‹Ext _ _›)))⟩; rw [H.out, Hb.out, Hm.out]; first | rfl | (rw [Bool.eq_iff_iff]; simp <;> omega) | (simp <;> omega))
    | false =>
      go_enter Tryd.func11, Tryd.ntmps11
      go_wp2_with (first | (go_at_call 19; refine (place_c _ _ _ (by omega)).mono ?_; rintro e w1 ⟨rfl, hx1⟩) | (go_at_call 44; refine (ends_c s q hq _ hs).mono ?_; rintro e w1 ⟨rfl, hx1⟩))
      go_ret
      exact ⟨retb (by rw [H.out, Hb.out]; rfl), (by (repeat (first | exact Ext.refl _ | exact ‹Ext _ _› | refine Ext.alloc ?_ _ | refine Ext.drew ?_ | refine Ext.drewN ?_ _ | (refine Ext.setCell ?_ (by first | omega | (simp; done) | (simp; omega)) _) | refine Ext.trans ?_ ‹Ext _ _›)))⟩
def line_Normal.f (a0 : ByteArray) (a1 : Int) : Option (Bool) := if a0.size ≤ 1099511627775 then some (normalB (ls a0) a1) else none
theorem line_Normal.eq (a0 : ByteArray) (a1 : Int) (hg : a0.size ≤ 1099511627775) : line_Normal.f a0 a1 = some (normalB (ls a0) a1) := if_pos hg
theorem line_Normal.calls (a0 : ByteArray) (a1 : Int) (r : Bool) (w : World) (h : line_Normal.f a0 a1 = some r) : Calls Tryd.prog 11 #[.string a0, .int .i64 a1] w fun e w' => e = .returned (.bool r) ∧ Below w.heap.size w w' := by
  unfold line_Normal.f at h
  split at h
  · cases h; exact lnormal_c a0 a1 w (by omega)
  · cases h
end Go.Proofs.YtckfdehendifoaaDoor
/- Letters that are flipped twice in a text (paste.Flip) (MOD QP). -/
namespace Go.Proofs.YtckfdehendifoaaDoor
open Go.RowKit
set_option linter.unusedVariables false
set_option linter.unusedSimpArgs false
open Go.RowKit Go.Proofs.YtckfdehendifoaaDoor.QP Go.Proofs.YtckfdehendifoaaDoorW.PrintWords Go.Proofs.YtckfdehendifoaaDoorW.PrintMore
def flipT (t : ByteArray) (q v : Nat) : ByteArray := (t.extract 0 q ++ flS (t.extract q v)) ++ t.extract v t.size
theorem size_flipT (t : ByteArray) {q v : Nat} (h1 : q ≤ v) (h2 : v ≤ t.size) : (flipT t q v).size = t.size := by
  unfold flipT
  rw [ByteArray.size_append, ByteArray.size_append, size_flS, ByteArray.size_extract, ByteArray.size_extract, ByteArray.size_extract]; omega
def fb (b : UInt8) : UInt8 := b8 (flB b.toNat)
theorem fb_facts (b : UInt8) : fb (fb b) = b ∧ (fb b = b ∨ (65 ≤ b.toNat ∧ b.toNat ≤ 122 ∧ 65 ≤ (fb b).toNat ∧ (fb b).toNat ≤ 122)) := by
  have : ∀ n : Fin 256, fb (fb (UInt8.ofNat n.val)) = UInt8.ofNat n.val ∧ (fb (UInt8.ofNat n.val) = UInt8.ofNat n.val ∨ (65 ≤ (UInt8.ofNat n.val).toNat ∧ (UInt8.ofNat n.val).toNat ≤ 122 ∧ 65 ≤ (fb (UInt8.ofNat n.val)).toNat ∧ (fb (UInt8.ofNat n.val)).toNat ≤ 122)) := by decide +kernel
  have h := this ⟨b.toNat, b.toNat_lt⟩
  simp only [UInt8.ofNat_toNat] at h
  exact h
theorem ls_flipT (t : ByteArray) {q v : Nat} (h1 : q ≤ v) (h2 : v ≤ t.size) : ls (flipT t q v) = ((ls t).take q ++ (((ls t).drop q).take (v - q)).map fb) ++ (ls t).drop v := by
  unfold flipT
  rw [ls_cat, ls_cat, ls_flS, ls_ext2, ls_ext2, ls_ext, List.drop_zero, Nat.sub_zero]; rfl
theorem flipT_twice (t : ByteArray) {q v : Nat} (h1 : q ≤ v) (h2 : v ≤ t.size) : flipT (flipT t q v) q v = t := by
  apply ba_ext
  have hz := size_flipT t h1 h2
  rw [ls_flipT (flipT t q v) h1 (by omega), ls_flipT t h1 h2]
  have l1 : ((ls t).take q).length = q := by rw [List.length_take, ls_len]; omega
  have l2 : ((((ls t).drop q).take (v - q)).map fb).length = v - q := by rw [List.length_map, List.length_take, List.length_drop, ls_len]; omega
  have l3 : ((ls t).take q ++ (((ls t).drop q).take (v - q)).map fb).length = v := by rw [List.length_append, l1, l2]; omega
  rw [List.drop_left' l3]
  have e1 : (((ls t).take q ++ (((ls t).drop q).take (v - q)).map fb) ++ (ls t).drop v).take q = (ls t).take q := by rw [List.append_assoc, List.take_left' l1]
  have e2 : ((((ls t).take q ++ (((ls t).drop q).take (v - q)).map fb) ++ (ls t).drop v).drop q).take (v - q) = (((ls t).drop q).take (v - q)).map fb := by rw [List.append_assoc, List.drop_left' l1, List.take_left' l2]
  rw [e1, e2, List.map_map]
  have e3 : (fb ∘ fb) = id := by funext b; exact (fb_facts b).1
  rw [e3, List.map_id]
  have e4 : (ls t).drop v = ((ls t).drop q).drop (v - q) := by rw [List.drop_drop]; congr 1; omega
  rw [e4, List.append_assoc, List.take_append_drop, List.take_append_drop]
theorem flipT_shp (t : ByteArray) {q v : Nat} (h1 : q ≤ v) (h2 : v ≤ t.size) : Shp (ls t) (ls (flipT t q v)) := by
  refine ⟨by rw [ls_len, ls_len, size_flipT t h1 h2], fun i => ?_⟩
  have l1 : ((ls t).take q).length = q := by rw [List.length_take, ls_len]; omega
  have l2 : ((((ls t).drop q).take (v - q)).map fb).length = v - q := by rw [List.length_map, List.length_take, List.length_drop, ls_len]; omega
  have l3 : ((ls t).take q ++ (((ls t).drop q).take (v - q)).map fb).length = v := by rw [List.length_append, l1, l2]; omega
  rw [ls_flipT t h1 h2]
  rcases Nat.lt_or_ge i v with hv | hv
  · rw [byL_app1 (by omega)]
    rcases Nat.lt_or_ge i q with hq | hq
    · rw [byL_app1 (by omega), byL_tk _ hq]; exact .inl rfl
    · rw [byL_app2 (by omega), l1]
      have hi : i < (ls t).length := by rw [ls_len]; omega
      have e : byL ((((ls t).drop q).take (v - q)).map fb) (i - q) = ((fb (ls t)[i]).toNat : Int) := by
        unfold byL
        rw [List.getD_eq_getElem?_getD, List.getElem?_map, List.getElem?_take_of_lt (by omega), List.getElem?_drop, show q + (i - q) = i by omega, List.getElem?_eq_getElem hi]; rfl
      rw [e, ← inn_get hi]
      rcases (fb_facts (ls t)[i]).2 with h | ⟨a, b, c, d⟩
      · rw [h]; exact .inl rfl
      · exact .inr ⟨by omega, by omega, by omega, by omega⟩
  · rw [byL_app2 (by omega), l3, byL_drop, show v + (i - v) = i by omega]; exact .inl rfl
theorem flip_ok (t : ByteArray) {q e : Nat} (n : Int) (ht : t.size ≤ 100000) (hn : -9223372036854775808 ≤ n ∧ n ≤ 9223372036854775807) (hp : placeB (ls t) q = true) (he : endI (ls t) (ofI (ls t) q) = e) (hlt : q < e) : ∃ v : Nat, vAt (ls t) e q (max n 1) = v ∧ q ≤ v ∧ v ≤ e ∧ e ≤ t.size ∧ placeB (ls t) v = true ∧ placeB (ls t) e = true ∧ Ev (fun K => paste_Flip.f K t q n) (flipT t q v, clampI (ls (flipT t q v)) v, 0) := by
  obtain ⟨e', k1, k2, k3, k4, k5, k6, k7, k8⟩ := line_pair hp
  obtain rfl : e' = e := by omega
  rw [ls_len] at k6
  obtain ⟨v, v1, v2, v3, v4⟩ := vAt_in k8 _ q (max n 1) (Nat.le_refl _) k5 hp
  have hz : (flS (t.extract q v)).size = v - q := by rw [size_flS, ByteArray.size_extract]; omega
  have z1 : (t.extract 0 q).size = q := by rw [ByteArray.size_extract]; omega
  have z2 : (t.extract v t.size).size = t.size - v := by rw [ByteArray.size_extract]; omega
  have hcs := size_flipT t v2 (by omega : v ≤ t.size)
  refine ⟨v, v1, v2, v3, k6, v4, k8, ?_⟩
  unfold paste_Flip.f
  refine Ev.call (utf_Place.eq t q (by omega)) (Ev.pos hp (Ev.call (stop_val t hp k3 (by omega)) (Ev.neg (by simp; omega) ?_)))
  have hb := behind_ev t e' (max n 1) (by omega) (by omega) _ q 0 (Nat.le_refl _) k5 hp k3 (by omega) (by omega) (by omega)
  rw [mx_eq]
  rw [show max n 1 - 0 = max n 1 by omega, v1] at hb
  have hb' : Ev (fun K => paste_behind.f K t q (max n 1)) _ := hb
  refine Ev.bind hb' ?_
  refine Ev.pos (by omega) (Ev.pos (by omega) (Ev.pos (by show (q : Int) ≤ v; omega) (Ev.pos (by show (v : Int) ≤ t.size; omega) ?_)))
  rw [Int.toNat_natCast, Int.toNat_natCast]
  refine Ev.call (class_Flip.eq _ (by rw [ByteArray.size_extract]; omega)) (Ev.pos (by rw [z1, hz]; omega) (Ev.pos (by show 0 ≤ (v : Int); omega) (Ev.pos (by rw [ByteArray.size_append, z1, z2, hz]; omega) ?_)))
  exact Ev.call (line_Clamp.eq (flipT t q v) _ (by rw [hcs]; omega)) (Ev.ret rfl)
theorem flip_all (t : ByteArray) (p n : Int) (ht : t.size ≤ 100000) (hn : -9223372036854775808 ≤ n ∧ n ≤ 9223372036854775807) : (∃ X : ByteArray × Int × Int, Ev (fun K => paste_Flip.f K t p n) X ∧ X.2.2 ≠ 0 ∧ (placeB (ls t) p = false ∨ ∃ q : Nat, p = q ∧ endI (ls t) (ofI (ls t) q) = q)) ∨
    (∃ (s : ByteArray) (a : Int), Ev (fun K => paste_Flip.f K t p n) (s, a, 0) ∧ s.size = t.size ∧ normalB (ls s) a = true ∧ ∃ b : Int, Ev (fun K => paste_Flip.f K s p n) (t, b, 0)) := by
  rcases place_cases t p with hf | ⟨q, rfl, hle, hp, hv⟩
  · refine .inl ⟨(⟨#[]⟩, 0, 1), ?_, by decide, .inl hf⟩
    unfold paste_Flip.f
    exact Ev.call (utf_Place.eq t p (by omega)) (Ev.neg (by rw [hf]; simp) (Ev.ret rfl))
  · obtain ⟨e, k1, k2, k3, k4, k5, k6, k7, k8⟩ := line_pair hp
    by_cases hqe : q = e
    · refine .inl ⟨(⟨#[]⟩, 0, 10), ?_, by decide, .inr ⟨q, rfl, by rw [k3, hqe]⟩⟩
      unfold paste_Flip.f
      exact Ev.call (utf_Place.eq t q (by omega)) (Ev.pos hp (Ev.call (stop_val t hp k3 (by omega)) (Ev.pos (by simpa using hqe) (Ev.ret rfl))))
    · right
      obtain ⟨v, f1, f2, f3, f4, f5, f5', f6⟩ := flip_ok t n ht hn hp k3 (by omega)
      have sh := flipT_shp t f2 (by omega : v ≤ t.size)
      have hz := size_flipT t f2 (by omega : v ≤ t.size)
      have hp2 : placeB (ls (flipT t q v)) q = true := by rw [← sh.place]; exact hp
      have he2 : endI (ls (flipT t q v)) (ofI (ls (flipT t q v)) q) = e := by rw [← sh.of, ← sh.ends]; exact k3
      obtain ⟨v', g1, g2, g3, g4, g5, g5', g6⟩ := flip_ok (flipT t q v) n (by omega) hn hp2 he2 (by omega)
      rw [← sh.vAt f5' _ q _ (Nat.le_refl _) k5 hp, f1] at g1
      obtain rfl : v' = v := by omega
      rw [flipT_twice t f2 (by omega)] at g6
      have hvs : validL (ls (flipT t q v')) = true := by rw [← sh.valid _ (Nat.le_refl _)]; exact hv
      refine ⟨flipT t q v', _, f6, hz, ?_, _, g6⟩
      obtain ⟨c, c1, _, c3⟩ := clamp_cases hvs (v' : Nat)
      rw [c1]; exact c3
end Go.Proofs.YtckfdehendifoaaDoor
/- The contract of calamusref03.Is in the printer's form. -/
namespace Go.Proofs.YtckfdehendifoaaDoor
open Go.RowKit
set_option linter.unusedVariables false
set_option linter.unusedSimpArgs false
def calamusref03_Is.f (a0 : ByteArray) : Option (Bool) := some (isL (ls a0))
theorem calamusref03_Is.eq (a0 : ByteArray) : calamusref03_Is.f a0 = some (isL (ls a0)) := rfl
theorem calamusref03_Is.calls (a0 : ByteArray) (r : Bool) (w : World) (h : calamusref03_Is.f a0 = some r) : Calls Tryd.prog 70 #[.string a0] w fun e w' => e = .returned (.bool r) ∧ Below w.heap.size w w' := by
  unfold calamusref03_Is.f at h
  cases h; exact ris_c a0 w
end Go.Proofs.YtckfdehendifoaaDoor
-- Printed by this work's xp.py out of the translation. Lean checks it.
namespace Go.Proofs.YtckfdehendifoaaDoor.QP
open Go.RowKit Go.Proofs.YtckfdehendifoaaDoorW.PrintWords Go.Proofs.YtckfdehendifoaaDoorW.PrintLast Go.Proofs.YtckfdehendifoaaDoorW.PrintMore
attribute [local go_sem] max2_int min2_int max_two min_two max_three min_three max_four min_four   -- for this text's walks alone
set_option linter.unusedVariables false
set_option linter.unusedSimpArgs false


/-! ### key_Sign -/
def key_Sign.f (a0 : ByteArray) : Option (Bool) := (utf_Count.f a0).bind fun t228 => (if t228 = 1 then (if (a0.size : Int) > 1 then (some true) else (if 0 < (a0.size : Int) then (if (bt a0 0) ≥ 32 then (some (decide ((bt a0 0) < 127))) else (some false)) else (none))) else (some false))
set_option maxHeartbeats 8000000 in
set_option maxRecDepth 100000 in
theorem key_Sign.calls (a0 : ByteArray) (r : Bool) (w : World) (h : key_Sign.f a0 = some r) :
    Calls Tryd.prog 50 #[.string a0] w fun e w' => e = .returned (.bool r) ∧ Below w.heap.size w w' := by
  have HB := Aside0.mk (Below.refl w.heap.size w)
  have H : ((utf_Count.f a0).bind fun t228 => (if t228 = 1 then (if (a0.size : Int) > 1 then (some true) else (if 0 < (a0.size : Int) then (if (bt a0 0) ≥ 32 then (some (decide ((bt a0 0) < 127))) else (some false)) else (none))) else (some false))) = some r := h
  clear h
  replace H := Option.bind_eq_some_iff.mp H
  obtain ⟨t228, A20, H⟩ := H
  replace H : (if t228 = 1 then (if (a0.size : Int) > 1 then (some true) else (if 0 < (a0.size : Int) then (if (bt a0 0) ≥ 32 then (some (decide ((bt a0 0) < 127))) else (some false)) else (none))) else (some false)) = some r := H
  have A2 := Aside0.mk A20
  clear A20
  by_cases c3 : t228 = 1
  · rw [if_pos c3] at H
    have c3b0 : (t228 == 1) = true := beq_iff_eq.mpr c3
    have c3b1 : (t228 != 1) = false := bne_eq_false_iff_eq.mpr c3
    clear c3
    by_cases c4 : (a0.size : Int) > 1
    · rw [if_pos c4] at H
      have c4b0 : decide (1 < (a0.size : Int)) = true := decide_eq_true c4
      have c4b1 : decide (1 < a0.size) = true := decide_eq_true (by omega)
      clear c4
      obtain rfl := Option.some.inj H
      go_enter Tryd.func50, Tryd.ntmps50
      go_wp2_with (first | ((with_reducible refine gate_callee (f := 16) rfl ?_); refine goesL_ (some 4) rfl rfl Tryd.func16 (by kernel_rfl) rfl #[.string a0] rfl (by (try simp only [List.map_toArray, List.map_cons, List.map_nil]); first | done | rfl | (simp only [List.length_drop, List.length_take]; rfl)) ?_; (with_reducible refine (utf_Count.calls a0 t228 _ A2.out).mono ?_); rintro e w5 ⟨rfl, hb⟩; refine ⟨_, rfl, ?_⟩; have n0_ := Aside0.mk (below_step (by repeat (first | (with_reducible first | exact HB.out | apply below_alloc | apply pw_below_drewN | apply below_drew1) | exact HB.out)) hb); clear HB; have HB := n0_; clear n0_; (try clear hb); (try clear hb2); (try clear hk); (try clear hi)))
      go_ret
      exact ⟨by first | rfl | (simp [errW_none, errW_some] <;> rfl) | (simp [*, errW_none, errW_some] <;> rfl), by repeat (first | (with_reducible first | exact HB.out | apply below_alloc | apply pw_below_drewN | apply below_drew1) | exact HB.out)⟩
    · rw [if_neg c4] at H
      have c4b0 : decide (1 < (a0.size : Int)) = false := decide_eq_false c4
      have c4b1 : decide (1 < a0.size) = false := decide_eq_false (by omega)
      clear c4
      by_cases c6 : 0 < (a0.size : Int)
      · rw [if_pos c6] at H
        have c6b0 : decide (0 < (a0.size : Int)) = true := decide_eq_true c6
        have c6b1 : decide (0 < a0.size) = true := decide_eq_true (by omega)
        clear c6
        by_cases c8 : (bt a0 0) ≥ 32
        · rw [if_pos c8] at H
          have c8b0 : decide (32 ≤ (bt a0 0)) = true := decide_eq_true c8
          clear c8
          obtain rfl := Option.some.inj H
          go_enter Tryd.func50, Tryd.ntmps50
          go_wp2_with (first | ((with_reducible refine gate_callee (f := 16) rfl ?_); refine goesL_ (some 4) rfl rfl Tryd.func16 (by kernel_rfl) rfl #[.string a0] rfl (by (try simp only [List.map_toArray, List.map_cons, List.map_nil]); first | done | rfl | (simp only [List.length_drop, List.length_take]; rfl)) ?_; (with_reducible refine (utf_Count.calls a0 t228 _ A2.out).mono ?_); rintro e w10 ⟨rfl, hb⟩; refine ⟨_, rfl, ?_⟩; have n0_ := Aside0.mk (below_step (by repeat (first | (with_reducible first | exact HB.out | apply below_alloc | apply pw_below_drewN | apply below_drew1) | exact HB.out)) hb); clear HB; have HB := n0_; clear n0_; (try clear hb); (try clear hb2); (try clear hk); (try clear hi); have p7 : 0 ≤ (0 : Int) := (by omega); have q7 : 0 < a0.size := (by have : (0 : Int) < (a0.size : Int) := of_decide_eq_true (by first | (with_reducible assumption) | assumption); omega); have hx7 : ∀ h : 0 < a0.size, ((a0[0]'h).toNat : Int) = bt a0 0 := bt_at a0 0; clear p7; have qi7 : (0 < (a0.size : Int)) = True := eq_true (of_decide_eq_true (by first | (with_reducible assumption) | assumption)); replace q7 := eq_true q7; have p9 : 0 ≤ (0 : Int) := (by omega); have q9 : 0 < a0.size := (by have : (0 : Int) < (a0.size : Int) := of_decide_eq_true (by first | (with_reducible assumption) | assumption); omega); have hx9 : ∀ h : 0 < a0.size, ((a0[0]'h).toNat : Int) = bt a0 0 := bt_at a0 0; clear p9; have qi9 : (0 < (a0.size : Int)) = True := eq_true (of_decide_eq_true (by first | (with_reducible assumption) | assumption)); replace q9 := eq_true q9))
          go_ret
          exact ⟨by first | rfl | (simp [errW_none, errW_some] <;> rfl) | (simp [*, errW_none, errW_some] <;> rfl), by repeat (first | (with_reducible first | exact HB.out | apply below_alloc | apply pw_below_drewN | apply below_drew1) | exact HB.out)⟩
        · rw [if_neg c8] at H
          have c8b0 : decide (32 ≤ (bt a0 0)) = false := decide_eq_false c8
          clear c8
          obtain rfl := Option.some.inj H
          go_enter Tryd.func50, Tryd.ntmps50
          go_wp2_with (first | ((with_reducible refine gate_callee (f := 16) rfl ?_); refine goesL_ (some 4) rfl rfl Tryd.func16 (by kernel_rfl) rfl #[.string a0] rfl (by (try simp only [List.map_toArray, List.map_cons, List.map_nil]); first | done | rfl | (simp only [List.length_drop, List.length_take]; rfl)) ?_; (with_reducible refine (utf_Count.calls a0 t228 _ A2.out).mono ?_); rintro e w11 ⟨rfl, hb⟩; refine ⟨_, rfl, ?_⟩; have n0_ := Aside0.mk (below_step (by repeat (first | (with_reducible first | exact HB.out | apply below_alloc | apply pw_below_drewN | apply below_drew1) | exact HB.out)) hb); clear HB; have HB := n0_; clear n0_; (try clear hb); (try clear hb2); (try clear hk); (try clear hi); have p7 : 0 ≤ (0 : Int) := (by omega); have q7 : 0 < a0.size := (by have : (0 : Int) < (a0.size : Int) := of_decide_eq_true (by first | (with_reducible assumption) | assumption); omega); have hx7 : ∀ h : 0 < a0.size, ((a0[0]'h).toNat : Int) = bt a0 0 := bt_at a0 0; clear p7; have qi7 : (0 < (a0.size : Int)) = True := eq_true (of_decide_eq_true (by first | (with_reducible assumption) | assumption)); replace q7 := eq_true q7))
          go_ret
          exact ⟨by first | rfl | (simp [errW_none, errW_some] <;> rfl) | (simp [*, errW_none, errW_some] <;> rfl), by repeat (first | (with_reducible first | exact HB.out | apply below_alloc | apply pw_below_drewN | apply below_drew1) | exact HB.out)⟩
      · rw [if_neg c6] at H
        exact absurd H (by simp)
  · rw [if_neg c3] at H
    have c3b0 : (t228 == 1) = false := beq_eq_false_iff_ne.mpr c3
    have c3b1 : (t228 != 1) = true := bne_iff_ne.mpr c3
    obtain rfl := Option.some.inj H
    go_enter Tryd.func50, Tryd.ntmps50
    go_wp2_with (first | ((with_reducible refine gate_callee (f := 16) rfl ?_); refine goesL_ (some 4) rfl rfl Tryd.func16 (by kernel_rfl) rfl #[.string a0] rfl (by (try simp only [List.map_toArray, List.map_cons, List.map_nil]); first | done | rfl | (simp only [List.length_drop, List.length_take]; rfl)) ?_; (with_reducible refine (utf_Count.calls a0 t228 _ A2.out).mono ?_); rintro e w12 ⟨rfl, hb⟩; refine ⟨_, rfl, ?_⟩; have n0_ := Aside0.mk (below_step (by repeat (first | (with_reducible first | exact HB.out | apply below_alloc | apply pw_below_drewN | apply below_drew1) | exact HB.out)) hb); clear HB; have HB := n0_; clear n0_; (try clear hb); (try clear hb2); (try clear hk); (try clear hi)))
    go_ret
    exact ⟨by first | rfl | (simp [errW_none, errW_some] <;> rfl) | (simp [*, errW_none, errW_some] <;> rfl), by repeat (first | (with_reducible first | exact HB.out | apply below_alloc | apply pw_below_drewN | apply below_drew1) | exact HB.out)⟩

/-! ### paste_Over -/
def paste_Over.j0 : Nat → ByteArray → Int → ByteArray → Int → Bool → Option (ByteArray × Int × Int)
  | 0, _, _, _, _, _ => none
  | k + 1, x0, x1, x2, x3, x27 => if x27 = true then (some ((⟨#[]⟩ : ByteArray), 0, 9)) else ((paste_behind.f k x0 x1 (mx x3 1)).bind fun bt231 => (if bt231.2 < (mx x3 1) then (some ((⟨#[]⟩ : ByteArray), 0, 10)) else ((paste_times.f k x2 (⟨#[]⟩ : ByteArray) (mx x3 1)).bind fun bt233 => (if bt233.2 = true then (if 0 ≤ x1 then (if x1 ≤ (x0.size : Int) then (if 0 ≤ bt231.1 then (if bt231.1 ≤ (x0.size : Int) then (if (x0.extract 0 (x1 : Int).toNat).size + (x0.extract (bt231.1 : Int).toNat x0.size).size ≤ 9223372036854775807 then ((paste_insert.f ((x0.extract 0 (x1 : Int).toNat) ++ (x0.extract (bt231.1 : Int).toNat x0.size)) x1 bt233.1).bind fun bt235 => (if bt235.2 = 0 then (some (bt235.1, wrap64 ((wrap64 (x1 + (bt233.1.size : Int))) - (x2.size : Int)), 0)) else (some ((⟨#[]⟩ : ByteArray), 0, bt235.2)))) else (none)) else (none)) else (none)) else (none)) else (none)) else (some ((⟨#[]⟩ : ByteArray), 0, 8))))))
def paste_Over.f (k : Nat) (a0 : ByteArray) (a1 : Int) (a2 : ByteArray) (a3 : Int) : Option (ByteArray × Int × Int) := (utf_Place.f a0 a1).bind fun t229 => (if t229 = true then ((key_Sign.f a2).bind fun t230 => (if t230 = true then (paste_Over.j0 k a0 a1 a2 a3 false) else (paste_Over.j0 k a0 a1 a2 a3 (a2.toList != ([9] : List UInt8))))) else (some ((⟨#[]⟩ : ByteArray), 0, 1)))
theorem paste_Over.mono_l : ∀ k, (∀ y0 y1 y2 y3 y4, LeO (paste_Over.j0 k y0 y1 y2 y3 y4) (paste_Over.j0 (k + 1) y0 y1 y2 y3 y4))
  | 0 => fun _ _ _ _ _ r h => by simp [paste_Over.j0] at h
  | k + 1 => by
    have ih0 := paste_Over.mono_l k
    · intro y0 y1 y2 y3 y4
      unfold paste_Over.j0
      repeat' first
      | (with_reducible exact ih0 _ _ _ _ _)
      | (with_reducible exact paste_behind.mono _ _ _ _)
      | (with_reducible exact paste_times.mono _ _ _ _)
      | (with_reducible exact LeO.refl _)
      | (with_reducible exact LeO.none _)
      | (with_reducible refine LeO.ite ?_ ?_)
      | (with_reducible refine LeO.bind ?_ (fun _ => ?_))
      | exact ih0 _ _ _ _ _
      | exact paste_behind.mono _ _ _ _
      | exact paste_times.mono _ _ _ _
      | exact LeO.none _
      | refine LeO.ite ?_ ?_
      | refine LeO.bind ?_ (fun _ => ?_)
theorem paste_Over.mono : ∀ a0 a1 a2 a3 k, LeO (paste_Over.f k a0 a1 a2 a3) (paste_Over.f (k + 1) a0 a1 a2 a3) := by
  intro a0 a1 a2 a3 k
  have ih0 := paste_Over.mono_l k
  unfold paste_Over.f
  repeat' first
      | (with_reducible exact ih0 _ _ _ _ _)
      | (with_reducible exact paste_behind.mono _ _ _ _)
      | (with_reducible exact paste_times.mono _ _ _ _)
      | (with_reducible exact LeO.refl _)
      | (with_reducible exact LeO.none _)
      | (with_reducible refine LeO.ite ?_ ?_)
      | (with_reducible refine LeO.bind ?_ (fun _ => ?_))
      | exact ih0 _ _ _ _ _
      | exact paste_behind.mono _ _ _ _
      | exact paste_times.mono _ _ _ _
      | exact LeO.none _
      | refine LeO.ite ?_ ?_
      | refine LeO.bind ?_ (fun _ => ?_)
set_option maxHeartbeats 8000000 in
set_option maxRecDepth 100000 in
theorem paste_Over.calls (k : Nat) (a0 : ByteArray) (a1 : Int) (a2 : ByteArray) (a3 : Int) (r1 : ByteArray) (r2 : Int) (r3 : Int) (w : World) (h : paste_Over.f k a0 a1 a2 a3 = some (r1, r2, r3)) :
    Calls Tryd.prog 14 #[.string a0, .int .i64 a1, .string a2, .int .i64 a3] w fun e w' => e = .returned (.tuple #[.string r1, .int .i64 r2, .int .i64 r3]) ∧ Below w.heap.size w w' := by
  have HB := Aside0.mk (Below.refl w.heap.size w)
  have H : ((utf_Place.f a0 a1).bind fun t229 => (if t229 = true then ((key_Sign.f a2).bind fun t230 => (if t230 = true then (paste_Over.j0 k a0 a1 a2 a3 false) else (paste_Over.j0 k a0 a1 a2 a3 (a2.toList != ([9] : List UInt8))))) else (some ((⟨#[]⟩ : ByteArray), 0, 1)))) = some (r1, r2, r3) := h
  clear h
  replace H := Option.bind_eq_some_iff.mp H
  obtain ⟨t229, A50, H⟩ := H
  replace H : (if t229 = true then ((key_Sign.f a2).bind fun t230 => (if t230 = true then (paste_Over.j0 k a0 a1 a2 a3 false) else (paste_Over.j0 k a0 a1 a2 a3 (a2.toList != ([9] : List UInt8))))) else (some ((⟨#[]⟩ : ByteArray), 0, 1))) = some (r1, r2, r3) := H
  have A5 := Aside0.mk A50
  clear A50
  by_cases c6 : t229 = true
  · subst c6
    have H1 : ((key_Sign.f a2).bind fun t230 => (if t230 = true then (paste_Over.j0 k a0 a1 a2 a3 false) else (paste_Over.j0 k a0 a1 a2 a3 (a2.toList != ([9] : List UInt8))))) = some (r1, r2, r3) := by rw [if_pos rfl] at H; exact H
    clear H
    have H := H1
    clear H1
    have HC7 := Aside0.mk H
    clear H
    go_enter Tryd.func14, Tryd.ntmps14
    go_upto_region 3 with (first | (go_at_call 19; (with_reducible refine (utf_Place.calls a0 a1 true _ A5.out).mono ?_); rintro e w8 ⟨rfl, hb⟩; have n0_ := Aside0.mk (below_step (by repeat (first | (with_reducible first | exact HB.out | apply below_alloc | apply pw_below_drewN | apply below_drew1) | exact HB.out)) hb); clear HB; have HB := n0_; clear n0_; (try clear hb); (try clear hb2); (try clear hk); (try clear hi)))
    repeat (go_quiet (first | (go_at_call 19; (with_reducible refine (utf_Place.calls a0 a1 true _ A5.out).mono ?_); rintro e w8 ⟨rfl, hb⟩; have n0_ := Aside0.mk (below_step (by repeat (first | (with_reducible first | exact HB.out | apply below_alloc | apply pw_below_drewN | apply below_drew1) | exact HB.out)) hb); clear HB; have HB := n0_; clear n0_; (try clear hb); (try clear hb2); (try clear hk); (try clear hi))); go_upto_region 3 with (first | (go_at_call 19; (with_reducible refine (utf_Place.calls a0 a1 true _ A5.out).mono ?_); rintro e w8 ⟨rfl, hb⟩; have n0_ := Aside0.mk (below_step (by repeat (first | (with_reducible first | exact HB.out | apply below_alloc | apply pw_below_drewN | apply below_drew1) | exact HB.out)) hb); clear HB; have HB := n0_; clear n0_; (try clear hb); (try clear hb2); (try clear hk); (try clear hi))))
    (try simp only [Act.put, List.setIfInBounds_toArray, List.set_cons_zero, List.set_cons_succ])
    go_cut [27] (fun v27 wc => ∃ (kq : Nat) (x27_6 : Bool), v27 = .bool x27_6 ∧ Aside0 (paste_Over.j0 kq a0 a1 a2 a3 x27_6 = some (r1, r2, r3)) ∧ Aside0 (kq ≤ k) ∧ Aside0 (Below w.heap.size w wc))
    case first =>
      have H := HC7.out
      clear HC7
      replace H := Option.bind_eq_some_iff.mp H
      obtain ⟨t230, A90, H⟩ := H
      replace H : (if t230 = true then (paste_Over.j0 k a0 a1 a2 a3 false) else (paste_Over.j0 k a0 a1 a2 a3 (a2.toList != ([9] : List UInt8)))) = some (r1, r2, r3) := H
      have A9 := Aside0.mk A90
      clear A90
      by_cases c10 : t230 = true
      · subst c10
        have H1 : (paste_Over.j0 k a0 a1 a2 a3 false) = some (r1, r2, r3) := by rw [if_pos rfl] at H; exact H
        clear H
        have H := H1
        clear H1
        have H' := Aside0.mk H
        clear H
        go_wp2_with (first | (go_at_call 50; (with_reducible refine (key_Sign.calls a2 true _ A9.out).mono ?_); rintro e w11 ⟨rfl, hb⟩; have n0_ := Aside0.mk (below_step (by repeat (first | (with_reducible first | exact HB.out | apply below_alloc | apply pw_below_drewN | apply below_drew1) | exact HB.out)) hb); clear HB; have HB := n0_; clear n0_; (try clear hb); (try clear hb2); (try clear hk); (try clear hi)))
        repeat (go_quiet (first | (go_at_call 50; (with_reducible refine (key_Sign.calls a2 true _ A9.out).mono ?_); rintro e w11 ⟨rfl, hb⟩; have n0_ := Aside0.mk (below_step (by repeat (first | (with_reducible first | exact HB.out | apply below_alloc | apply pw_below_drewN | apply below_drew1) | exact HB.out)) hb); clear HB; have HB := n0_; clear n0_; (try clear hb); (try clear hb2); (try clear hk); (try clear hi))); try go_wp2_with (first | (go_at_call 50; (with_reducible refine (key_Sign.calls a2 true _ A9.out).mono ?_); rintro e w11 ⟨rfl, hb⟩; have n0_ := Aside0.mk (below_step (by repeat (first | (with_reducible first | exact HB.out | apply below_alloc | apply pw_below_drewN | apply below_drew1) | exact HB.out)) hb); clear HB; have HB := n0_; clear n0_; (try clear hb); (try clear hb2); (try clear hk); (try clear hi))))
        go_meet
        case rel => exact ⟨_, (false), (by first | rfl | (simp; done) | (simp [*]; done)), H', ⟨by first | omega | exact Nat.le_refl _⟩, ⟨by repeat (first | (with_reducible first | exact HB.out | apply below_alloc | apply pw_below_drewN | apply below_drew1) | exact HB.out)⟩⟩
      · replace c10 := Bool.eq_false_iff.mpr c10
        subst c10
        have H1 : (paste_Over.j0 k a0 a1 a2 a3 (a2.toList != ([9] : List UInt8))) = some (r1, r2, r3) := by rw [if_neg (show ¬ (false = true) by decide)] at H; exact H
        clear H
        have H := H1
        clear H1
        have H' := Aside0.mk H
        clear H
        go_wp2_with (first | (go_at_call 50; (with_reducible refine (key_Sign.calls a2 false _ A9.out).mono ?_); rintro e w12 ⟨rfl, hb⟩; have n0_ := Aside0.mk (below_step (by repeat (first | (with_reducible first | exact HB.out | apply below_alloc | apply pw_below_drewN | apply below_drew1) | exact HB.out)) hb); clear HB; have HB := n0_; clear n0_; (try clear hb); (try clear hb2); (try clear hk); (try clear hi)))
        repeat (go_quiet (first | (go_at_call 50; (with_reducible refine (key_Sign.calls a2 false _ A9.out).mono ?_); rintro e w12 ⟨rfl, hb⟩; have n0_ := Aside0.mk (below_step (by repeat (first | (with_reducible first | exact HB.out | apply below_alloc | apply pw_below_drewN | apply below_drew1) | exact HB.out)) hb); clear HB; have HB := n0_; clear n0_; (try clear hb); (try clear hb2); (try clear hk); (try clear hi))); try go_wp2_with (first | (go_at_call 50; (with_reducible refine (key_Sign.calls a2 false _ A9.out).mono ?_); rintro e w12 ⟨rfl, hb⟩; have n0_ := Aside0.mk (below_step (by repeat (first | (with_reducible first | exact HB.out | apply below_alloc | apply pw_below_drewN | apply below_drew1) | exact HB.out)) hb); clear HB; have HB := n0_; clear n0_; (try clear hb); (try clear hb2); (try clear hk); (try clear hi))))
        go_meet
        case rel => exact ⟨_, ((a2.toList != ([9] : List UInt8))), (by first | rfl | (simp; done) | (simp [*]; done)), H', ⟨by first | omega | exact Nat.le_refl _⟩, ⟨by repeat (first | (with_reducible first | exact HB.out | apply below_alloc | apply pw_below_drewN | apply below_drew1) | exact HB.out)⟩⟩
    case rest =>
      clear HC7
      try clear c1
      try clear p2
      try clear c6
      try clear c10
      obtain ⟨kq, x27_6, rfl, HA, HJ6, HB⟩ := hcut
      cases kq with
      | zero => exact absurd HA.out (by simp [paste_Over.j0])
      | succ kj6 =>
        have H := HA.out
        clear HA
        simp only [paste_Over.j0] at H
        by_cases c13 : x27_6 = true
        · subst c13
          have H1 : (some ((⟨#[]⟩ : ByteArray), 0, 9)) = some (r1, r2, r3) := by rw [if_pos rfl] at H; exact H
          clear H
          have H := H1
          clear H1
          simp only [Option.some.injEq, Prod.mk.injEq] at H
          obtain ⟨rfl, rfl, rfl⟩ := H
          go_wp2
          repeat (go_quiet (fail); try go_wp2)
          go_ret3
          exact ⟨by first | rfl | (simp [errW_none, errW_some] <;> rfl) | (simp [*, errW_none, errW_some] <;> rfl), by repeat (first | (with_reducible first | exact HB.out | apply below_alloc | apply pw_below_drewN | apply below_drew1) | exact HB.out)⟩
        · replace c13 := Bool.eq_false_iff.mpr c13
          subst c13
          have H1 : ((paste_behind.f kj6 a0 a1 (mx a3 1)).bind fun bt231 => (if bt231.2 < (mx a3 1) then (some ((⟨#[]⟩ : ByteArray), 0, 10)) else ((paste_times.f kj6 a2 (⟨#[]⟩ : ByteArray) (mx a3 1)).bind fun bt233 => (if bt233.2 = true then (if 0 ≤ a1 then (if a1 ≤ (a0.size : Int) then (if 0 ≤ bt231.1 then (if bt231.1 ≤ (a0.size : Int) then (if (a0.extract 0 (a1 : Int).toNat).size + (a0.extract (bt231.1 : Int).toNat a0.size).size ≤ 9223372036854775807 then ((paste_insert.f ((a0.extract 0 (a1 : Int).toNat) ++ (a0.extract (bt231.1 : Int).toNat a0.size)) a1 bt233.1).bind fun bt235 => (if bt235.2 = 0 then (some (bt235.1, wrap64 ((wrap64 (a1 + (bt233.1.size : Int))) - (a2.size : Int)), 0)) else (some ((⟨#[]⟩ : ByteArray), 0, bt235.2)))) else (none)) else (none)) else (none)) else (none)) else (none)) else (some ((⟨#[]⟩ : ByteArray), 0, 8)))))) = some (r1, r2, r3) := by rw [if_neg (show ¬ (false = true) by decide)] at H; exact H
          clear H
          have H := H1
          clear H1
          obtain ⟨ji14, hji14⟩ : ∃ j_ : Int, (mx a3 1) = j_ := ⟨_, rfl⟩
          replace H : ((paste_behind.f kj6 a0 a1 (ji14)).bind fun bt231 => (if bt231.2 < (ji14) then (some ((⟨#[]⟩ : ByteArray), 0, 10)) else ((paste_times.f kj6 a2 (⟨#[]⟩ : ByteArray) (ji14)).bind fun bt233 => (if bt233.2 = true then (if 0 ≤ a1 then (if a1 ≤ (a0.size : Int) then (if 0 ≤ bt231.1 then (if bt231.1 ≤ (a0.size : Int) then (if (a0.extract 0 (a1 : Int).toNat).size + (a0.extract (bt231.1 : Int).toNat a0.size).size ≤ 9223372036854775807 then ((paste_insert.f ((a0.extract 0 (a1 : Int).toNat) ++ (a0.extract (bt231.1 : Int).toNat a0.size)) a1 bt233.1).bind fun bt235 => (if bt235.2 = 0 then (some (bt235.1, wrap64 ((wrap64 (a1 + (bt233.1.size : Int))) - (a2.size : Int)), 0)) else (some ((⟨#[]⟩ : ByteArray), 0, bt235.2)))) else (none)) else (none)) else (none)) else (none)) else (none)) else (some ((⟨#[]⟩ : ByteArray), 0, 8)))))) = some (r1, r2, r3) := by first | (rw [hji14] at H; exact H) | (simp only [hji14] at H ⊢; exact H)
          have hji14_ : (if a3 < 1 then 1 else a3) = ji14 := hji14
          replace H := Option.bind_eq_some_iff.mp H
          obtain ⟨⟨t231, t232⟩, A150, H⟩ := H
          replace H : (if t232 < (ji14) then (some ((⟨#[]⟩ : ByteArray), 0, 10)) else ((paste_times.f kj6 a2 (⟨#[]⟩ : ByteArray) (ji14)).bind fun bt233 => (if bt233.2 = true then (if 0 ≤ a1 then (if a1 ≤ (a0.size : Int) then (if 0 ≤ t231 then (if t231 ≤ (a0.size : Int) then (if (a0.extract 0 (a1 : Int).toNat).size + (a0.extract (t231 : Int).toNat a0.size).size ≤ 9223372036854775807 then ((paste_insert.f ((a0.extract 0 (a1 : Int).toNat) ++ (a0.extract (t231 : Int).toNat a0.size)) a1 bt233.1).bind fun bt235 => (if bt235.2 = 0 then (some (bt235.1, wrap64 ((wrap64 (a1 + (bt233.1.size : Int))) - (a2.size : Int)), 0)) else (some ((⟨#[]⟩ : ByteArray), 0, bt235.2)))) else (none)) else (none)) else (none)) else (none)) else (none)) else (some ((⟨#[]⟩ : ByteArray), 0, 8))))) = some (r1, r2, r3) := H
          have A15 := Aside0.mk A150
          clear A150
          by_cases c16 : t232 < (ji14)
          · rw [if_pos c16] at H
            have c16b0 : decide (t232 < (ji14)) = true := decide_eq_true c16
            clear c16
            simp only [Option.some.injEq, Prod.mk.injEq] at H
            obtain ⟨rfl, rfl, rfl⟩ := H
            go_wp2_with (first | (go_at_call 46; (with_reducible refine (paste_behind.calls kj6 a0 a1 ji14 t231 t232 _ A15.out).mono ?_); rintro e w17 ⟨rfl, hb⟩; have n0_ := Aside0.mk (below_step (by repeat (first | (with_reducible first | exact HB.out | apply below_alloc | apply pw_below_drewN | apply below_drew1) | exact HB.out)) hb); clear HB; have HB := n0_; clear n0_; (try clear hb); (try clear hb2); (try clear hk); (try clear hi)))
            repeat (go_quiet (first | (go_at_call 46; (with_reducible refine (paste_behind.calls kj6 a0 a1 ji14 t231 t232 _ A15.out).mono ?_); rintro e w17 ⟨rfl, hb⟩; have n0_ := Aside0.mk (below_step (by repeat (first | (with_reducible first | exact HB.out | apply below_alloc | apply pw_below_drewN | apply below_drew1) | exact HB.out)) hb); clear HB; have HB := n0_; clear n0_; (try clear hb); (try clear hb2); (try clear hk); (try clear hi))); try go_wp2_with (first | (go_at_call 46; (with_reducible refine (paste_behind.calls kj6 a0 a1 ji14 t231 t232 _ A15.out).mono ?_); rintro e w17 ⟨rfl, hb⟩; have n0_ := Aside0.mk (below_step (by repeat (first | (with_reducible first | exact HB.out | apply below_alloc | apply pw_below_drewN | apply below_drew1) | exact HB.out)) hb); clear HB; have HB := n0_; clear n0_; (try clear hb); (try clear hb2); (try clear hk); (try clear hi))))
            go_ret3
            exact ⟨by first | rfl | (simp [errW_none, errW_some] <;> rfl) | (simp only [← hji14]; first | rfl | (simp [errW_none, errW_some] <;> rfl)) | (simp [*, errW_none, errW_some] <;> rfl), by repeat (first | (with_reducible first | exact HB.out | apply below_alloc | apply pw_below_drewN | apply below_drew1) | exact HB.out)⟩
          · rw [if_neg c16] at H
            have c16b0 : decide (t232 < (ji14)) = false := decide_eq_false c16
            clear c16
            replace H := Option.bind_eq_some_iff.mp H
            obtain ⟨⟨t233, t234⟩, A180, H⟩ := H
            replace H : (if t234 = true then (if 0 ≤ a1 then (if a1 ≤ (a0.size : Int) then (if 0 ≤ t231 then (if t231 ≤ (a0.size : Int) then (if (a0.extract 0 (a1 : Int).toNat).size + (a0.extract (t231 : Int).toNat a0.size).size ≤ 9223372036854775807 then ((paste_insert.f ((a0.extract 0 (a1 : Int).toNat) ++ (a0.extract (t231 : Int).toNat a0.size)) a1 t233).bind fun bt235 => (if bt235.2 = 0 then (some (bt235.1, wrap64 ((wrap64 (a1 + (t233.size : Int))) - (a2.size : Int)), 0)) else (some ((⟨#[]⟩ : ByteArray), 0, bt235.2)))) else (none)) else (none)) else (none)) else (none)) else (none)) else (some ((⟨#[]⟩ : ByteArray), 0, 8))) = some (r1, r2, r3) := H
            have A18 := Aside0.mk A180
            clear A180
            by_cases c19 : t234 = true
            · subst c19
              have H1 : (if 0 ≤ a1 then (if a1 ≤ (a0.size : Int) then (if 0 ≤ t231 then (if t231 ≤ (a0.size : Int) then (if (a0.extract 0 (a1 : Int).toNat).size + (a0.extract (t231 : Int).toNat a0.size).size ≤ 9223372036854775807 then ((paste_insert.f ((a0.extract 0 (a1 : Int).toNat) ++ (a0.extract (t231 : Int).toNat a0.size)) a1 t233).bind fun bt235 => (if bt235.2 = 0 then (some (bt235.1, wrap64 ((wrap64 (a1 + (t233.size : Int))) - (a2.size : Int)), 0)) else (some ((⟨#[]⟩ : ByteArray), 0, bt235.2)))) else (none)) else (none)) else (none)) else (none)) else (none)) = some (r1, r2, r3) := by rw [if_pos rfl] at H; exact H
              clear H
              have H := H1
              clear H1
              by_cases c20 : 0 ≤ a1
              · rw [if_pos c20] at H
                have c20b0 := eq_true c20
                have c20b1 : decide (0 ≤ a1) = true := decide_eq_true c20
                clear c20
                by_cases c21 : a1 ≤ (a0.size : Int)
                · rw [if_pos c21] at H
                  have c21b0 := eq_true c21
                  have c21b1 : decide (a1 ≤ (a0.size : Int)) = true := decide_eq_true c21
                  clear c21
                  by_cases c22 : 0 ≤ t231
                  · rw [if_pos c22] at H
                    have c22b0 := eq_true c22
                    have c22b1 : decide (0 ≤ t231) = true := decide_eq_true c22
                    clear c22
                    by_cases c23 : t231 ≤ (a0.size : Int)
                    · rw [if_pos c23] at H
                      have c23b0 := eq_true c23
                      have c23b1 : decide (t231 ≤ (a0.size : Int)) = true := decide_eq_true c23
                      clear c23
                      by_cases c24 : (a0.extract 0 (a1 : Int).toNat).size + (a0.extract (t231 : Int).toNat a0.size).size ≤ 9223372036854775807
                      · rw [if_pos c24] at H
                        have c24b0 := eq_true c24
                        have c24b1 : decide ((a0.extract 0 (a1 : Int).toNat).size + (a0.extract (t231 : Int).toNat a0.size).size ≤ 9223372036854775807) = true := decide_eq_true c24
                        try have c24b2 : (9223372036854775807 < (a0.extract 0 (a1 : Int).toNat).size + (a0.extract (t231 : Int).toNat a0.size).size) = False := eq_false (Nat.not_lt.2 c24)
                        have c24b3 : (9223372036854775807 < a1.toNat + (a0.size - t231.toNat)) = False := eq_false (Nat.not_lt.2 (by have q := c24; simp only [ByteArray.size_extract] at q; have q2 : a1 ≤ (a0.size : Int) := of_decide_eq_true (by assumption); have q3 : 0 ≤ a1 := of_decide_eq_true (by assumption); omega))
                        replace H := Option.bind_eq_some_iff.mp H
                        obtain ⟨⟨t235, t236⟩, A250, H⟩ := H
                        replace H : (if t236 = 0 then (some (t235, wrap64 ((wrap64 (a1 + (t233.size : Int))) - (a2.size : Int)), 0)) else (some ((⟨#[]⟩ : ByteArray), 0, t236))) = some (r1, r2, r3) := H
                        have A25 := Aside0.mk A250
                        clear A250
                        by_cases c26 : t236 = 0
                        · rw [if_pos c26] at H
                          have c26b0 : (t236 == 0) = true := beq_iff_eq.mpr c26
                          have c26b1 : (t236 != 0) = false := bne_eq_false_iff_eq.mpr c26
                          clear c26
                          simp only [Option.some.injEq, Prod.mk.injEq] at H
                          obtain ⟨rfl, rfl, rfl⟩ := H
                          go_wp2_with (first | (go_at_call 46; (with_reducible refine (paste_behind.calls kj6 a0 a1 ji14 t231 t232 _ A15.out).mono ?_); rintro e w27 ⟨rfl, hb⟩; have n0_ := Aside0.mk (below_step (by repeat (first | (with_reducible first | exact HB.out | apply below_alloc | apply pw_below_drewN | apply below_drew1) | exact HB.out)) hb); clear HB; have HB := n0_; clear n0_; (try clear hb); (try clear hb2); (try clear hk); (try clear hi)) | (go_at_call 23; (with_reducible refine (paste_times.calls kj6 a2 (⟨#[]⟩ : ByteArray) ji14 t233 true _ A18.out).mono ?_); rintro e w28 ⟨rfl, hb⟩; have n0_ := Aside0.mk (below_step (by repeat (first | (with_reducible first | exact HB.out | apply below_alloc | apply pw_below_drewN | apply below_drew1) | exact HB.out)) hb); clear HB; have HB := n0_; clear n0_; (try clear hb); (try clear hb2); (try clear hk); (try clear hi)) | (go_at_call 26; (with_reducible refine (paste_insert.calls ((a0.extract 0 (a1 : Int).toNat) ++ (a0.extract (t231 : Int).toNat a0.size)) a1 t233 t235 t236 _ A25.out).mono ?_); rintro e w' ⟨rfl, ⟨nd, rfl⟩⟩; (try first | exact ⟨rfl, _, World.drewN_drewN _ _ _⟩ | exact ⟨rfl, _, Eq.trans (World.drewN_drewN _ _ _) (congrArg (World.drewN _) (Nat.add_assoc _ _ _))⟩)))
                          repeat (go_quiet (first | (go_at_call 46; (with_reducible refine (paste_behind.calls kj6 a0 a1 ji14 t231 t232 _ A15.out).mono ?_); rintro e w27 ⟨rfl, hb⟩; have n0_ := Aside0.mk (below_step (by repeat (first | (with_reducible first | exact HB.out | apply below_alloc | apply pw_below_drewN | apply below_drew1) | exact HB.out)) hb); clear HB; have HB := n0_; clear n0_; (try clear hb); (try clear hb2); (try clear hk); (try clear hi)) | (go_at_call 23; (with_reducible refine (paste_times.calls kj6 a2 (⟨#[]⟩ : ByteArray) ji14 t233 true _ A18.out).mono ?_); rintro e w28 ⟨rfl, hb⟩; have n0_ := Aside0.mk (below_step (by repeat (first | (with_reducible first | exact HB.out | apply below_alloc | apply pw_below_drewN | apply below_drew1) | exact HB.out)) hb); clear HB; have HB := n0_; clear n0_; (try clear hb); (try clear hb2); (try clear hk); (try clear hi)) | (go_at_call 26; (with_reducible refine (paste_insert.calls ((a0.extract 0 (a1 : Int).toNat) ++ (a0.extract (t231 : Int).toNat a0.size)) a1 t233 t235 t236 _ A25.out).mono ?_); rintro e w' ⟨rfl, ⟨nd, rfl⟩⟩; (try first | exact ⟨rfl, _, World.drewN_drewN _ _ _⟩ | exact ⟨rfl, _, Eq.trans (World.drewN_drewN _ _ _) (congrArg (World.drewN _) (Nat.add_assoc _ _ _))⟩))); try go_wp2_with (first | (go_at_call 46; (with_reducible refine (paste_behind.calls kj6 a0 a1 ji14 t231 t232 _ A15.out).mono ?_); rintro e w27 ⟨rfl, hb⟩; have n0_ := Aside0.mk (below_step (by repeat (first | (with_reducible first | exact HB.out | apply below_alloc | apply pw_below_drewN | apply below_drew1) | exact HB.out)) hb); clear HB; have HB := n0_; clear n0_; (try clear hb); (try clear hb2); (try clear hk); (try clear hi)) | (go_at_call 23; (with_reducible refine (paste_times.calls kj6 a2 (⟨#[]⟩ : ByteArray) ji14 t233 true _ A18.out).mono ?_); rintro e w28 ⟨rfl, hb⟩; have n0_ := Aside0.mk (below_step (by repeat (first | (with_reducible first | exact HB.out | apply below_alloc | apply pw_below_drewN | apply below_drew1) | exact HB.out)) hb); clear HB; have HB := n0_; clear n0_; (try clear hb); (try clear hb2); (try clear hk); (try clear hi)) | (go_at_call 26; (with_reducible refine (paste_insert.calls ((a0.extract 0 (a1 : Int).toNat) ++ (a0.extract (t231 : Int).toNat a0.size)) a1 t233 t235 t236 _ A25.out).mono ?_); rintro e w' ⟨rfl, ⟨nd, rfl⟩⟩; (try first | exact ⟨rfl, _, World.drewN_drewN _ _ _⟩ | exact ⟨rfl, _, Eq.trans (World.drewN_drewN _ _ _) (congrArg (World.drewN _) (Nat.add_assoc _ _ _))⟩))))
                          go_ret3
                          exact ⟨by first | rfl | (simp [errW_none, errW_some] <;> rfl) | (simp only [← hji14]; first | rfl | (simp [errW_none, errW_some] <;> rfl)) | (simp [*, errW_none, errW_some] <;> rfl), by repeat (first | (with_reducible first | exact HB.out | apply below_alloc | apply pw_below_drewN | apply below_drew1) | exact HB.out)⟩
                        · rw [if_neg c26] at H
                          have c26b0 : (t236 == 0) = false := beq_eq_false_iff_ne.mpr c26
                          have c26b1 : (t236 != 0) = true := bne_iff_ne.mpr c26
                          simp only [Option.some.injEq, Prod.mk.injEq] at H
                          obtain ⟨rfl, rfl, rfl⟩ := H
                          go_wp2_with (first | (go_at_call 46; (with_reducible refine (paste_behind.calls kj6 a0 a1 ji14 t231 t232 _ A15.out).mono ?_); rintro e w29 ⟨rfl, hb⟩; have n0_ := Aside0.mk (below_step (by repeat (first | (with_reducible first | exact HB.out | apply below_alloc | apply pw_below_drewN | apply below_drew1) | exact HB.out)) hb); clear HB; have HB := n0_; clear n0_; (try clear hb); (try clear hb2); (try clear hk); (try clear hi)) | (go_at_call 23; (with_reducible refine (paste_times.calls kj6 a2 (⟨#[]⟩ : ByteArray) ji14 t233 true _ A18.out).mono ?_); rintro e w30 ⟨rfl, hb⟩; have n0_ := Aside0.mk (below_step (by repeat (first | (with_reducible first | exact HB.out | apply below_alloc | apply pw_below_drewN | apply below_drew1) | exact HB.out)) hb); clear HB; have HB := n0_; clear n0_; (try clear hb); (try clear hb2); (try clear hk); (try clear hi)) | (go_at_call 26; (with_reducible refine (paste_insert.calls ((a0.extract 0 (a1 : Int).toNat) ++ (a0.extract (t231 : Int).toNat a0.size)) a1 t233 t235 t236 _ A25.out).mono ?_); rintro e w' ⟨rfl, ⟨nd, rfl⟩⟩; (try first | exact ⟨rfl, _, World.drewN_drewN _ _ _⟩ | exact ⟨rfl, _, Eq.trans (World.drewN_drewN _ _ _) (congrArg (World.drewN _) (Nat.add_assoc _ _ _))⟩)))
                          repeat (go_quiet (first | (go_at_call 46; (with_reducible refine (paste_behind.calls kj6 a0 a1 ji14 t231 t232 _ A15.out).mono ?_); rintro e w29 ⟨rfl, hb⟩; have n0_ := Aside0.mk (below_step (by repeat (first | (with_reducible first | exact HB.out | apply below_alloc | apply pw_below_drewN | apply below_drew1) | exact HB.out)) hb); clear HB; have HB := n0_; clear n0_; (try clear hb); (try clear hb2); (try clear hk); (try clear hi)) | (go_at_call 23; (with_reducible refine (paste_times.calls kj6 a2 (⟨#[]⟩ : ByteArray) ji14 t233 true _ A18.out).mono ?_); rintro e w30 ⟨rfl, hb⟩; have n0_ := Aside0.mk (below_step (by repeat (first | (with_reducible first | exact HB.out | apply below_alloc | apply pw_below_drewN | apply below_drew1) | exact HB.out)) hb); clear HB; have HB := n0_; clear n0_; (try clear hb); (try clear hb2); (try clear hk); (try clear hi)) | (go_at_call 26; (with_reducible refine (paste_insert.calls ((a0.extract 0 (a1 : Int).toNat) ++ (a0.extract (t231 : Int).toNat a0.size)) a1 t233 t235 t236 _ A25.out).mono ?_); rintro e w' ⟨rfl, ⟨nd, rfl⟩⟩; (try first | exact ⟨rfl, _, World.drewN_drewN _ _ _⟩ | exact ⟨rfl, _, Eq.trans (World.drewN_drewN _ _ _) (congrArg (World.drewN _) (Nat.add_assoc _ _ _))⟩))); try go_wp2_with (first | (go_at_call 46; (with_reducible refine (paste_behind.calls kj6 a0 a1 ji14 t231 t232 _ A15.out).mono ?_); rintro e w29 ⟨rfl, hb⟩; have n0_ := Aside0.mk (below_step (by repeat (first | (with_reducible first | exact HB.out | apply below_alloc | apply pw_below_drewN | apply below_drew1) | exact HB.out)) hb); clear HB; have HB := n0_; clear n0_; (try clear hb); (try clear hb2); (try clear hk); (try clear hi)) | (go_at_call 23; (with_reducible refine (paste_times.calls kj6 a2 (⟨#[]⟩ : ByteArray) ji14 t233 true _ A18.out).mono ?_); rintro e w30 ⟨rfl, hb⟩; have n0_ := Aside0.mk (below_step (by repeat (first | (with_reducible first | exact HB.out | apply below_alloc | apply pw_below_drewN | apply below_drew1) | exact HB.out)) hb); clear HB; have HB := n0_; clear n0_; (try clear hb); (try clear hb2); (try clear hk); (try clear hi)) | (go_at_call 26; (with_reducible refine (paste_insert.calls ((a0.extract 0 (a1 : Int).toNat) ++ (a0.extract (t231 : Int).toNat a0.size)) a1 t233 t235 t236 _ A25.out).mono ?_); rintro e w' ⟨rfl, ⟨nd, rfl⟩⟩; (try first | exact ⟨rfl, _, World.drewN_drewN _ _ _⟩ | exact ⟨rfl, _, Eq.trans (World.drewN_drewN _ _ _) (congrArg (World.drewN _) (Nat.add_assoc _ _ _))⟩))))
                          go_ret3
                          exact ⟨by first | rfl | (simp [errW_none, errW_some] <;> rfl) | (simp only [← hji14]; first | rfl | (simp [errW_none, errW_some] <;> rfl)) | (simp [*, errW_none, errW_some] <;> rfl), by repeat (first | (with_reducible first | exact HB.out | apply below_alloc | apply pw_below_drewN | apply below_drew1) | exact HB.out)⟩
                      · rw [if_neg c24] at H
                        exact absurd H (by simp)
                    · rw [if_neg c23] at H
                      exact absurd H (by simp)
                  · rw [if_neg c22] at H
                    exact absurd H (by simp)
                · rw [if_neg c21] at H
                  exact absurd H (by simp)
              · rw [if_neg c20] at H
                exact absurd H (by simp)
            · replace c19 := Bool.eq_false_iff.mpr c19
              subst c19
              have H1 : (some ((⟨#[]⟩ : ByteArray), 0, 8)) = some (r1, r2, r3) := by rw [if_neg (show ¬ (false = true) by decide)] at H; exact H
              clear H
              have H := H1
              clear H1
              simp only [Option.some.injEq, Prod.mk.injEq] at H
              obtain ⟨rfl, rfl, rfl⟩ := H
              go_wp2_with (first | (go_at_call 46; (with_reducible refine (paste_behind.calls kj6 a0 a1 ji14 t231 t232 _ A15.out).mono ?_); rintro e w31 ⟨rfl, hb⟩; have n0_ := Aside0.mk (below_step (by repeat (first | (with_reducible first | exact HB.out | apply below_alloc | apply pw_below_drewN | apply below_drew1) | exact HB.out)) hb); clear HB; have HB := n0_; clear n0_; (try clear hb); (try clear hb2); (try clear hk); (try clear hi)) | (go_at_call 23; (with_reducible refine (paste_times.calls kj6 a2 (⟨#[]⟩ : ByteArray) ji14 t233 false _ A18.out).mono ?_); rintro e w32 ⟨rfl, hb⟩; have n0_ := Aside0.mk (below_step (by repeat (first | (with_reducible first | exact HB.out | apply below_alloc | apply pw_below_drewN | apply below_drew1) | exact HB.out)) hb); clear HB; have HB := n0_; clear n0_; (try clear hb); (try clear hb2); (try clear hk); (try clear hi)))
              repeat (go_quiet (first | (go_at_call 46; (with_reducible refine (paste_behind.calls kj6 a0 a1 ji14 t231 t232 _ A15.out).mono ?_); rintro e w31 ⟨rfl, hb⟩; have n0_ := Aside0.mk (below_step (by repeat (first | (with_reducible first | exact HB.out | apply below_alloc | apply pw_below_drewN | apply below_drew1) | exact HB.out)) hb); clear HB; have HB := n0_; clear n0_; (try clear hb); (try clear hb2); (try clear hk); (try clear hi)) | (go_at_call 23; (with_reducible refine (paste_times.calls kj6 a2 (⟨#[]⟩ : ByteArray) ji14 t233 false _ A18.out).mono ?_); rintro e w32 ⟨rfl, hb⟩; have n0_ := Aside0.mk (below_step (by repeat (first | (with_reducible first | exact HB.out | apply below_alloc | apply pw_below_drewN | apply below_drew1) | exact HB.out)) hb); clear HB; have HB := n0_; clear n0_; (try clear hb); (try clear hb2); (try clear hk); (try clear hi))); try go_wp2_with (first | (go_at_call 46; (with_reducible refine (paste_behind.calls kj6 a0 a1 ji14 t231 t232 _ A15.out).mono ?_); rintro e w31 ⟨rfl, hb⟩; have n0_ := Aside0.mk (below_step (by repeat (first | (with_reducible first | exact HB.out | apply below_alloc | apply pw_below_drewN | apply below_drew1) | exact HB.out)) hb); clear HB; have HB := n0_; clear n0_; (try clear hb); (try clear hb2); (try clear hk); (try clear hi)) | (go_at_call 23; (with_reducible refine (paste_times.calls kj6 a2 (⟨#[]⟩ : ByteArray) ji14 t233 false _ A18.out).mono ?_); rintro e w32 ⟨rfl, hb⟩; have n0_ := Aside0.mk (below_step (by repeat (first | (with_reducible first | exact HB.out | apply below_alloc | apply pw_below_drewN | apply below_drew1) | exact HB.out)) hb); clear HB; have HB := n0_; clear n0_; (try clear hb); (try clear hb2); (try clear hk); (try clear hi))))
              go_ret3
              exact ⟨by first | rfl | (simp [errW_none, errW_some] <;> rfl) | (simp only [← hji14]; first | rfl | (simp [errW_none, errW_some] <;> rfl)) | (simp [*, errW_none, errW_some] <;> rfl), by repeat (first | (with_reducible first | exact HB.out | apply below_alloc | apply pw_below_drewN | apply below_drew1) | exact HB.out)⟩
  · replace c6 := Bool.eq_false_iff.mpr c6
    subst c6
    have H1 : (some ((⟨#[]⟩ : ByteArray), 0, 1)) = some (r1, r2, r3) := by rw [if_neg (show ¬ (false = true) by decide)] at H; exact H
    clear H
    have H := H1
    clear H1
    simp only [Option.some.injEq, Prod.mk.injEq] at H
    obtain ⟨rfl, rfl, rfl⟩ := H
    go_enter Tryd.func14, Tryd.ntmps14
    go_wp2_with (first | (go_at_call 19; (with_reducible refine (utf_Place.calls a0 a1 false _ A5.out).mono ?_); rintro e w33 ⟨rfl, hb⟩; have n0_ := Aside0.mk (below_step (by repeat (first | (with_reducible first | exact HB.out | apply below_alloc | apply pw_below_drewN | apply below_drew1) | exact HB.out)) hb); clear HB; have HB := n0_; clear n0_; (try clear hb); (try clear hb2); (try clear hk); (try clear hi)))
    repeat (go_quiet (first | (go_at_call 19; (with_reducible refine (utf_Place.calls a0 a1 false _ A5.out).mono ?_); rintro e w33 ⟨rfl, hb⟩; have n0_ := Aside0.mk (below_step (by repeat (first | (with_reducible first | exact HB.out | apply below_alloc | apply pw_below_drewN | apply below_drew1) | exact HB.out)) hb); clear HB; have HB := n0_; clear n0_; (try clear hb); (try clear hb2); (try clear hk); (try clear hi))); try go_wp2_with (first | (go_at_call 19; (with_reducible refine (utf_Place.calls a0 a1 false _ A5.out).mono ?_); rintro e w33 ⟨rfl, hb⟩; have n0_ := Aside0.mk (below_step (by repeat (first | (with_reducible first | exact HB.out | apply below_alloc | apply pw_below_drewN | apply below_drew1) | exact HB.out)) hb); clear HB; have HB := n0_; clear n0_; (try clear hb); (try clear hb2); (try clear hk); (try clear hi))))
    go_ret3
    exact ⟨by first | rfl | (simp [errW_none, errW_some] <;> rfl) | (simp [*, errW_none, errW_some] <;> rfl), by repeat (first | (with_reducible first | exact HB.out | apply below_alloc | apply pw_below_drewN | apply below_drew1) | exact HB.out)⟩



end Go.Proofs.YtckfdehendifoaaDoor.QP
/- Which keys are signs (key.Sign) (MOD QP). -/
namespace Go.Proofs.YtckfdehendifoaaDoor
open Go.RowKit
set_option linter.unusedVariables false
set_option linter.unusedSimpArgs false
open Go.RowKit Go.Proofs.YtckfdehendifoaaDoor.QP Go.Proofs.YtckfdehendifoaaDoorW.PrintWords Go.Proofs.YtckfdehendifoaaDoorW.PrintMore
theorem ksign_val (k : ByteArray) (hk : k.size ≤ 140737488351232) : key_Sign.f k = some (isL (ls k) && (decide (k.size > 1) || (decide (bt k 0 ≥ 32) && decide (bt k 0 ≤ 126)))) := by
  unfold key_Sign.f
  rw [utf_Count.eq k hk, Option.bind_some, is_cnt]
  by_cases hc : countI (ls k) = 1
  · rw [if_pos hc, decide_eq_true hc, Bool.true_and]
    have hpos : 0 < k.size := by
      rcases Nat.eq_zero_or_pos k.size with h | h
      · have : ls k = [] := List.eq_nil_of_length_eq_zero (by rw [ls_len]; exact h)
        rw [this] at hc; exact absurd hc (by decide)
      · exact h
    by_cases h1 : (k.size : Int) > 1
    · rw [if_pos h1, decide_eq_true (show k.size > 1 by omega), Bool.true_or]
    · rw [if_neg h1, if_pos (by omega), decide_eq_false (show ¬ k.size > 1 by omega), Bool.false_or]
      by_cases h2 : bt k 0 ≥ 32
      · rw [if_pos h2, decide_eq_true h2, Bool.true_and]
        congr 1; exact decide_eq_decide.2 (by omega)
      · rw [if_neg h2, decide_eq_false h2, Bool.false_and]
  · rw [if_neg hc, decide_eq_false hc, Bool.false_and]
end Go.Proofs.YtckfdehendifoaaDoor
/- What paste.Over gives (MOD QP). -/
namespace Go.Proofs.YtckfdehendifoaaDoor
open Go.RowKit
set_option linter.unusedVariables false
set_option linter.unusedSimpArgs false
open Go.RowKit Go.Proofs.YtckfdehendifoaaDoor.QP Go.Proofs.YtckfdehendifoaaDoorW.PrintWords Go.Proofs.YtckfdehendifoaaDoorW.PrintMore
def overT (t k : ByteArray) (q v N : Nat) : ByteArray := (t.extract 0 q ++ repT k ⟨#[]⟩ N) ++ t.extract v t.size
def OverOk (t : ByteArray) (p : Int) (k : ByteArray) (n : Int) (X : ByteArray × Int × Int) : Prop :=
  (X.2.2 ≠ 0 ∧ X.1 = ⟨#[]⟩ ∧ X.2.1 = 0) ∨ (∃ q v N e : Nat, p = q ∧ placeB (ls t) q = true ∧ endI (ls t) (ofI (ls t) q) = e ∧ max n 1 = N ∧ vAt (ls t) e q N = v ∧ q ≤ v ∧ v ≤ e ∧ e ≤ t.size ∧ placeB (ls t) v = true ∧ N ≤ restN (ls t) q e ∧ isL (ls k) = true ∧ ls k ≠ [10] ∧ k.size ≤ 4 ∧ N ≤ 500 ∧ X = (overT t k q v N, ((q + (N - 1) * k.size : Nat) : Int), 0))
theorem over_all (t : ByteArray) (p : Int) (k : ByteArray) (n : Int) (ht : t.size ≤ 500) (hk : k.size ≤ 140737488351232) (hn : -9223372036854775808 ≤ n ∧ n ≤ 9223372036854775807) : ∃ X : ByteArray × Int × Int, Ev (fun K => paste_Over.f K t p k n) X ∧ OverOk t p k n X := by
  have bad : ∀ c : Int, c ≠ 0 → OverOk t p k n (⟨#[]⟩, 0, c) := fun c hc => .inl ⟨hc, rfl, rfl⟩
  rcases place_cases t p with hf | ⟨q, rfl, hle, hp, hv⟩
  · refine ⟨(⟨#[]⟩, 0, 1), ?_, bad 1 (by decide)⟩
    unfold paste_Over.f
    exact Ev.call (utf_Place.eq t p (by omega)) (Ev.neg (by rw [hf]; simp) (Ev.ret rfl))
  obtain ⟨e, k1, k2, k3, k4, k5, k6, k7, k8⟩ := line_pair hp
  rw [ls_len] at k6
  obtain ⟨v, v1, v2, v3, v4⟩ := vAt_in k8 _ q (max n 1) (Nat.le_refl _) k5 hp
  have hrest := rest_le (l := ls t) k5 (by rw [ls_len]; exact k6)
  have hb := behind_ev t e (max n 1) (by omega) (by omega) _ q 0 (Nat.le_refl _) k5 hp k3 (by omega) (by omega) (by omega)
  rw [show max n 1 - 0 = max n 1 by omega, v1, Int.zero_add] at hb
  have hb' : Ev (fun K => paste_behind.f K t q (max n 1)) _ := hb
  suffices hX : k.size ≤ 4 → isL (ls k) = true → ls k ≠ [10] → ∃ X : ByteArray × Int × Int, Ev (fun K => paste_Over.j0 K t q k n false) X ∧ OverOk t q k n X by
    cases hs : (isL (ls k) && (decide (k.size > 1) || (decide (bt k 0 ≥ 32) && decide (bt k 0 ≤ 126)))) with
    | true =>
      have hsl := hs
      rw [Bool.and_eq_true] at hsl
      have h4 : k.size ≤ 4 := by
        rcases Nat.lt_or_ge 4 k.size with h | h
        · rw [is_long _ (by rw [ls_len]; exact h)] at hs; cases hs
        · exact h
      have h10 : ls k ≠ [10] := by
        intro h
        have h1 : k.size = 1 := by rw [← ls_len, h]; rfl
        have h2 : bt k 0 = 10 := by
          have := bt_nat k 0 (by omega)
          rw [h] at this; exact this
        rw [h2, decide_eq_false (show ¬ k.size > 1 by omega)] at hsl
        exact absurd hsl.2 (by decide)
      obtain ⟨X, x1, x2⟩ := hX h4 hsl.1 h10
      refine ⟨X, ?_, x2⟩
      unfold paste_Over.f
      exact Ev.call (utf_Place.eq t q (by omega)) (Ev.pos hp (Ev.call (ksign_val k hk) (Ev.pos hs x1)))
    | false =>
      by_cases h9 : k.toList = [9]
      · have h9' : ls k = [9] := by rw [← toList_ls]; exact h9
        have h4 : k.size ≤ 4 := by rw [← ls_len, h9']; decide
        obtain ⟨X, x1, x2⟩ := hX h4 (by rw [h9']; decide) (by rw [h9']; decide)
        have hb9 : (k.toList != [9]) = false := by rw [h9]; rfl
        refine ⟨X, ?_, x2⟩
        unfold paste_Over.f
        refine Ev.call (utf_Place.eq t q (by omega)) (Ev.pos hp (Ev.call (ksign_val k hk) (Ev.neg (by rw [hs]; simp) ?_)))
        rw [hb9]; exact x1
      · have hb9 : (k.toList != [9]) = true := by simpa using h9
        refine ⟨(⟨#[]⟩, 0, 9), ?_, bad 9 (by decide)⟩
        unfold paste_Over.f
        refine Ev.call (utf_Place.eq t q (by omega)) (Ev.pos hp (Ev.call (ksign_val k hk) (Ev.neg (by rw [hs]; simp) ?_)))
        rw [hb9]
        refine Ev.step (fun _ => (by rw [paste_Over.j0])) ?_
        exact Ev.pos rfl (Ev.ret rfl)
  intro h4 hil h10
  by_cases hm : (restN (ls t) q e : Int) < max n 1
  · refine ⟨(⟨#[]⟩, 0, 10), ?_, bad 10 (by decide)⟩
    refine Ev.step (fun _ => (by rw [paste_Over.j0])) ?_
    rw [mx_eq]
    exact Ev.neg (by simp) (Ev.bind hb' (Ev.pos (by show min (max n 1) (restN (ls t) q e : Int) < max n 1; omega) (Ev.ret rfl)))
  · obtain ⟨N, hN⟩ : ∃ N : Nat, max n 1 = N := ⟨(max n 1).toNat, by omega⟩
    have hmul : N * k.size ≤ 2000 := Nat.le_trans (Nat.mul_le_mul (by omega : N ≤ 500) h4) (by decide)
    have z1 : (t.extract 0 q).size = q := by rw [ByteArray.size_extract]; omega
    have z2 : (t.extract v t.size).size = t.size - v := by rw [ByteArray.size_extract]; omega
    have zc : (t.extract 0 q ++ t.extract v t.size).size = q + (t.size - v) := by rw [ByteArray.size_append, z1, z2]
    have ht' : Ev (fun K => paste_times.f K k ⟨#[]⟩ (N : Int)) (repT k ⟨#[]⟩ N, true) := times_ev k ⟨#[]⟩ N (by omega) (by omega) (by show N * (k.size + 0) ≤ 8194; rw [Nat.add_zero]; omega)
    rw [hN] at hb' hm v1
    by_cases hb2 : q + N * k.size + (t.size - v) > 4096
    · refine ⟨(⟨#[]⟩, 0, 8), ?_, bad 8 (by decide)⟩
      refine Ev.step (fun _ => (by rw [paste_Over.j0])) ?_
      rw [mx_eq, hN]
      refine Ev.neg (by simp) (Ev.bind hb' (Ev.neg (by show ¬ min (N : Int) (restN (ls t) q e : Int) < N; omega) (Ev.bind ht' (Ev.pos rfl ?_))))
      refine Ev.pos (by omega) (Ev.pos (by omega) (Ev.pos (by show 0 ≤ (v : Int); omega) (Ev.pos (by show (v : Int) ≤ t.size; omega) ?_)))
      rw [Int.toNat_natCast, Int.toNat_natCast]
      refine Ev.pos (by rw [z1, z2]; omega) ?_
      exact Ev.call (insert_long _ _ _ (by rw [zc]; omega) (by rw [size_rep0]; omega) (by rw [zc, size_rep0]; omega)) (Ev.neg (by decide) (Ev.ret rfl))
    · refine ⟨(overT t k q v N, ((q + (N - 1) * k.size : Nat) : Int), 0), ?_, .inr ⟨q, v, N, e, rfl, hp, k3, hN, v1, v2, v3, k6, v4, by omega, hil, h10, h4, by omega, rfl⟩⟩
      refine Ev.step (fun _ => (by rw [paste_Over.j0])) ?_
      rw [mx_eq, hN]
      refine Ev.neg (by simp) (Ev.bind hb' (Ev.neg (by show ¬ min (N : Int) (restN (ls t) q e : Int) < N; omega) (Ev.bind ht' (Ev.pos rfl ?_))))
      refine Ev.pos (by omega) (Ev.pos (by omega) (Ev.pos (by show 0 ≤ (v : Int); omega) (Ev.pos (by show (v : Int) ≤ t.size; omega) ?_)))
      rw [Int.toNat_natCast, Int.toNat_natCast]
      refine Ev.pos (by rw [z1, z2]; omega) ?_
      refine Ev.call (insert_ok _ _ q (by rw [zc]; omega) (by rw [zc, size_rep0]; omega)) (Ev.pos rfl (Ev.ret ?_))
      have e1 : ((t.extract 0 q ++ t.extract v t.size).extract 0 q ++ repT k ⟨#[]⟩ N) ++ (t.extract 0 q ++ t.extract v t.size).extract q (t.extract 0 q ++ t.extract v t.size).size = overT t k q v N := by
        unfold overT
        apply ba_ext
        have hl : (ls (t.extract 0 q)).length = q := by rw [ls_len, z1]
        rw [ls_cat, ls_cat, ls_cat, ls_cat, ls_ext2, ls_ext, ls_cat, List.drop_zero, Nat.sub_zero]
        rw [List.take_left' hl, List.drop_left' hl]
      have e2 : wrap64 (wrap64 ((q : Int) + ((repT k ⟨#[]⟩ N).size : Int)) - (k.size : Int)) = ((q + (N - 1) * k.size : Nat) : Int) := by
        have : N * k.size = (N - 1) * k.size + k.size := by
          obtain ⟨m, rfl⟩ := Nat.exists_eq_succ_of_ne_zero (show N ≠ 0 by omega)
          rw [Nat.succ_mul]; rfl
        rw [size_rep0, w64 (n := (q : Int) + (N * k.size : Nat)) (by omega) (by omega), w64 (by omega) (by omega)]; omega
      rw [e1, e2]
theorem sz_app (a b : List UInt8) (hz : szL a ≠ 0) : szL (a ++ b) = szL a := by
  have hle := szL_le a
  obtain ⟨g1, g2, g3, g4⟩ := szL_pos hz
  refine szL_of (by rw [List.length_append]; omega) ?_ (by rw [List.length_append]; omega) ?_
  · rw [g2, byL_app1 (by omega)]
  · unfold begOk at g4 ⊢
    rw [List.all_eq_true] at g4 ⊢
    intro j hj
    have h := g4 j hj
    have hj' := List.mem_range.1 hj
    rw [byL_app1 (by omega), byL_app1 (by omega)]; exact h
theorem is_facts {k : List UInt8} (h : isL k = true) (h10 : k ≠ [10]) : szL k = k.length ∧ 1 ≤ k.length ∧ validL k = true ∧ cntL k = 1 ∧ tens k = 0 := by
  have hh := h
  unfold isL at h
  simp only [Bool.and_eq_true, decide_eq_true_eq] at h
  obtain ⟨h1, h2⟩ := h
  have hv : validL k = true := by rw [validL_step h1 (by omega), h2, List.drop_length]; rfl
  refine ⟨h2, by omega, hv, ?_, ?_⟩
  · rw [is_cnt] at hh
    have := of_decide_eq_true hh
    unfold countI at this; rw [if_pos hv] at this; omega
  · unfold tens
    rw [List.count_eq_zero]
    intro hm
    obtain ⟨j, hj, hjv⟩ := List.getElem_of_mem hm
    have hb : byL k j = 10 := by rw [byL_ten hj]; exact hjv
    rcases Nat.eq_zero_or_pos j with h0 | h0
    · subst h0
      obtain ⟨_, g2, _⟩ := szL_pos (show szL k ≠ 0 by omega)
      rw [hb] at g2
      have e1 : fSize 10 = 1 := by decide
      have hl : k.length = 1 := by omega
      apply h10
      obtain ⟨x, hx⟩ := List.length_eq_one_iff.1 hl
      rw [hx] at hm ⊢
      rw [List.mem_singleton] at hm
      rw [← hm]
    · have hi := inn_rest (show szL k ≠ 0 by omega) h0 (by omega)
      rw [hb] at hi; exact absurd hi (by decide)
theorem cnt_rep (s : List UInt8) : ∀ n, cntL (repB s [] n) = n * cntL s ∧ tens (repB s [] n) = n * tens s
  | 0 => by simp [repB, cntL, tens]
  | n + 1 => by
    obtain ⟨h1, h2⟩ := cnt_rep s n
    rw [repB_nil_succ, cnt_app, h1, Nat.succ_mul]
    refine ⟨rfl, ?_⟩
    unfold tens at h2 ⊢
    rw [List.count_append, h2, Nat.succ_mul]
theorem vAt_rest {l : List UInt8} {e : Nat} : ∀ (d p N v : Nat), e - p ≤ d → p ≤ e → placeB l p = true → endI l (ofI l p) = e → e ≤ l.length → N ≤ restN l p e → vAt l e p N = v → p ≤ v → v ≤ e → cntL (rowL l (p, v)) = N := by
  intro d
  induction d with
  | zero =>
    intro p N v h1 h2 hp he hel hN hv hv1 hv2
    obtain rfl : p = e := by omega
    obtain rfl : v = p := by omega
    rw [rest_end] at hN
    rw [row_nil]; simp [cntL]; omega
  | succ d ih =>
    intro p N v h1 h2 hp he hel hN hv hv1 hv2
    obtain ⟨e', k1, k2, k3, k4, k5, k6, k7, k8⟩ := line_pair hp
    obtain rfl : e' = e := by omega
    by_cases h0 : N = 0
    · subst h0
      rw [show ((0 : Nat) : Int) = 0 from rfl, vAt_zero k8 hp h2] at hv
      obtain rfl : v = p := by omega
      rw [row_nil]; rfl
    · by_cases hpe : p = e'
      · subst hpe; rw [rest_end] at hN; omega
      · obtain ⟨x, g1, g2, g3, g4, g5, g6, g7⟩ := rest_next hp he (by omega)
        obtain ⟨y, c1, c2, c3, c4, c5⟩ := next_gap hp (show p < l.length by omega)
        obtain rfl : x = y := by omega
        rw [g7 N (by omega), show (N : Int) - 1 = ((N - 1 : Nat) : Int) by omega] at hv
        obtain ⟨v', w1, w2, w3, _⟩ := vAt_in k8 _ x ((N - 1 : Nat) : Int) (Nat.le_refl _) g3 g4
        have hxv : x ≤ v := by omega
        have h := ih x (N - 1) v (by omega) g3 g4 (by rw [g5]; exact he) hel (by omega) hv hxv hv2
        have h1c := cnt_one_rune hp (x - (p + 1)) x (by omega) c3 (fun i a b => c5 i a b)
        rw [row_app (n := x) (by omega) hxv (by omega), cnt_app, h1c, h]; omega
end Go.Proofs.YtckfdehendifoaaDoor
-- Printed by this work's xp.py out of the translation. Lean checks it.
namespace Go.Proofs.YtckfdehendifoaaDoor.QP
open Go.RowKit Go.Proofs.YtckfdehendifoaaDoorW.PrintWords Go.Proofs.YtckfdehendifoaaDoorW.PrintLast Go.Proofs.YtckfdehendifoaaDoorW.PrintMore
attribute [local go_sem] max2_int min2_int max_two min_two max_three min_three max_four min_four   -- for this text's walks alone
set_option linter.unusedVariables false
set_option linter.unusedSimpArgs false


/-! ### calamuslaw24_PasteTwice -/
def calamuslaw24_PasteTwice.j0 : Nat → ByteArray → Int → ByteArray → Int → Int → Option (Bool)
  | 0, _, _, _, _, _ => none
  | k + 1, x0, x1, x2, x3, x11 => (paste_Over.f k x0 x1 x2 x3).bind fun bt267 => (if bt267.2.2 = 0 then (if x11 = 0 then ((utf_Count.f bt267.1).bind fun t271 => ((utf_Count.f x0).bind fun t272 => (if t271 = t272 then ((line_Count.f bt267.1).bind fun t273 => ((line_Count.f x0).bind fun t274 => (if t273 = t274 then ((utf_Rune.f bt267.1 bt267.2.1).bind fun t275 => (if t275.toList = x2.toList then ((utf_Rune.f bt267.1 x1).bind fun t276 => (if t276.toList = x2.toList then ((calamuslaw24_lives.f k).bind fun t277 => (some t277)) else (some false))) else (some false))) else (some false)))) else (some false)))) else (some false)) else (if bt267.1.toList = ([] : List UInt8) then (if bt267.2.1 = 0 then ((calamuslaw24_lives.f k).bind fun t270 => (some t270)) else (some false)) else (some false)))
def calamuslaw24_PasteTwice.f (k : Nat) (a0 : ByteArray) (a1 : Int) (a2 : ByteArray) (a3 : Int) : Option (Bool) := if (a0.size : Int) > 500 then ((calamuslaw24_lives.f k).bind fun t259 => (some t259)) else ((paste_Flip.f k a0 a1 a3).bind fun bt260 => (if bt260.2.2 = 0 then ((paste_Flip.f k bt260.1 a1 a3).bind fun bt263 => (if bt263.1.toList = a0.toList then (if bt263.2.2 = 0 then ((line_Normal.f bt260.1 bt260.2.1).bind fun t266 => (if t266 = true then (if (bt260.1.size : Int) = (a0.size : Int) then (calamuslaw24_PasteTwice.j0 k a0 a1 a2 a3 bt260.2.2) else (some false)) else (some false))) else (some false)) else (some false))) else (calamuslaw24_PasteTwice.j0 k a0 a1 a2 a3 bt260.2.2)))
theorem calamuslaw24_PasteTwice.mono_l : ∀ k, (∀ y0 y1 y2 y3 y4, LeO (calamuslaw24_PasteTwice.j0 k y0 y1 y2 y3 y4) (calamuslaw24_PasteTwice.j0 (k + 1) y0 y1 y2 y3 y4))
  | 0 => fun _ _ _ _ _ r h => by simp [calamuslaw24_PasteTwice.j0] at h
  | k + 1 => by
    have ih0 := calamuslaw24_PasteTwice.mono_l k
    · intro y0 y1 y2 y3 y4
      unfold calamuslaw24_PasteTwice.j0
      repeat' first
      | (with_reducible exact ih0 _ _ _ _ _)
      | (with_reducible exact calamuslaw24_lives.mono _)
      | (with_reducible exact paste_Flip.mono _ _ _ _)
      | (with_reducible exact paste_Over.mono _ _ _ _ _)
      | (with_reducible exact LeO.refl _)
      | (with_reducible exact LeO.none _)
      | (with_reducible refine LeO.ite ?_ ?_)
      | (with_reducible refine LeO.bind ?_ (fun _ => ?_))
      | exact ih0 _ _ _ _ _
      | exact calamuslaw24_lives.mono _
      | exact paste_Flip.mono _ _ _ _
      | exact paste_Over.mono _ _ _ _ _
      | exact LeO.none _
      | refine LeO.ite ?_ ?_
      | refine LeO.bind ?_ (fun _ => ?_)
theorem calamuslaw24_PasteTwice.mono : ∀ a0 a1 a2 a3 k, LeO (calamuslaw24_PasteTwice.f k a0 a1 a2 a3) (calamuslaw24_PasteTwice.f (k + 1) a0 a1 a2 a3) := by
  intro a0 a1 a2 a3 k
  have ih0 := calamuslaw24_PasteTwice.mono_l k
  unfold calamuslaw24_PasteTwice.f
  repeat' first
      | (with_reducible exact ih0 _ _ _ _ _)
      | (with_reducible exact calamuslaw24_lives.mono _)
      | (with_reducible exact paste_Flip.mono _ _ _ _)
      | (with_reducible exact paste_Over.mono _ _ _ _ _)
      | (with_reducible exact LeO.refl _)
      | (with_reducible exact LeO.none _)
      | (with_reducible refine LeO.ite ?_ ?_)
      | (with_reducible refine LeO.bind ?_ (fun _ => ?_))
      | exact ih0 _ _ _ _ _
      | exact calamuslaw24_lives.mono _
      | exact paste_Flip.mono _ _ _ _
      | exact paste_Over.mono _ _ _ _ _
      | exact LeO.none _
      | refine LeO.ite ?_ ?_
      | refine LeO.bind ?_ (fun _ => ?_)
set_option maxHeartbeats 8000000 in
set_option maxRecDepth 100000 in
theorem calamuslaw24_PasteTwice.calls (k : Nat) (a0 : ByteArray) (a1 : Int) (a2 : ByteArray) (a3 : Int) (r : Bool) (w : World) (h : calamuslaw24_PasteTwice.f k a0 a1 a2 a3 = some r) :
    Calls Tryd.prog 6 #[.string a0, .int .i64 a1, .string a2, .int .i64 a3] w fun e w' => e = .returned (.bool r) ∧ Below w.heap.size w w' := by
  have HB := Aside0.mk (Below.refl w.heap.size w)
  have H : (if (a0.size : Int) > 500 then ((calamuslaw24_lives.f k).bind fun t259 => (some t259)) else ((paste_Flip.f k a0 a1 a3).bind fun bt260 => (if bt260.2.2 = 0 then ((paste_Flip.f k bt260.1 a1 a3).bind fun bt263 => (if bt263.1.toList = a0.toList then (if bt263.2.2 = 0 then ((line_Normal.f bt260.1 bt260.2.1).bind fun t266 => (if t266 = true then (if (bt260.1.size : Int) = (a0.size : Int) then (calamuslaw24_PasteTwice.j0 k a0 a1 a2 a3 bt260.2.2) else (some false)) else (some false))) else (some false)) else (some false))) else (calamuslaw24_PasteTwice.j0 k a0 a1 a2 a3 bt260.2.2)))) = some r := h
  clear h
  by_cases c5 : (a0.size : Int) > 500
  · rw [if_pos c5] at H
    have c5b0 : decide (500 < (a0.size : Int)) = true := decide_eq_true c5
    have c5b1 : decide (500 < a0.size) = true := decide_eq_true (by omega)
    clear c5
    replace H := Option.bind_eq_some_iff.mp H
    obtain ⟨t259, A60, H⟩ := H
    replace H : (some t259) = some r := H
    have A6 := Aside0.mk A60
    clear A60
    obtain rfl := Option.some.inj H
    go_enter Tryd.func6, Tryd.ntmps6
    go_wp2_with (first | ((with_reducible refine gate_callee (f := 7) rfl ?_); refine goesL_ (some 21) rfl rfl Tryd.func7 (by kernel_rfl) rfl #[] rfl (by (try simp only [List.map_toArray, List.map_cons, List.map_nil]); first | done | rfl | (simp only [List.length_drop, List.length_take]; rfl)) ?_; (with_reducible refine (calamuslaw24_lives.calls k  t259 _ A6.out).mono ?_); rintro e w7 ⟨rfl, hb⟩; refine ⟨_, rfl, ?_⟩; have n0_ := Aside0.mk (below_step (by repeat (first | (with_reducible first | exact HB.out | apply below_alloc | apply pw_below_drewN | apply below_drew1) | exact HB.out)) hb); clear HB; have HB := n0_; clear n0_; (try clear hb); (try clear hb2); (try clear hk); (try clear hi)))
    go_ret
    exact ⟨by first | rfl | (simp [errW_none, errW_some] <;> rfl) | (simp [*, errW_none, errW_some] <;> rfl), by repeat (first | (with_reducible first | exact HB.out | apply below_alloc | apply pw_below_drewN | apply below_drew1) | exact HB.out)⟩
  · rw [if_neg c5] at H
    have c5b0 : decide (500 < (a0.size : Int)) = false := decide_eq_false c5
    have c5b1 : decide (500 < a0.size) = false := decide_eq_false (by omega)
    clear c5
    replace H := Option.bind_eq_some_iff.mp H
    obtain ⟨⟨t260, t261, t262⟩, A80, H⟩ := H
    replace H : (if t262 = 0 then ((paste_Flip.f k t260 a1 a3).bind fun bt263 => (if bt263.1.toList = a0.toList then (if bt263.2.2 = 0 then ((line_Normal.f t260 t261).bind fun t266 => (if t266 = true then (if (t260.size : Int) = (a0.size : Int) then (calamuslaw24_PasteTwice.j0 k a0 a1 a2 a3 t262) else (some false)) else (some false))) else (some false)) else (some false))) else (calamuslaw24_PasteTwice.j0 k a0 a1 a2 a3 t262)) = some r := H
    have A8 := Aside0.mk A80
    clear A80
    have HC9 := Aside0.mk H
    clear H
    go_enter Tryd.func6, Tryd.ntmps6
    go_upto_if 31 with (first | ((with_reducible refine gate_callee (f := 12) rfl ?_); refine goesL_ (some 26) rfl rfl Tryd.func12 (by kernel_rfl) rfl #[.string a0, .int .i64 a1, .int .i64 a3] rfl (by (try simp only [List.map_toArray, List.map_cons, List.map_nil]); first | done | rfl | (simp only [List.length_drop, List.length_take]; rfl)) ?_; (with_reducible refine (paste_Flip.calls k a0 a1 a3 t260 t261 t262 _ A8.out).mono ?_); rintro e w10 ⟨rfl, hb⟩; refine ⟨_, rfl, ?_⟩; have n0_ := Aside0.mk (below_step (by repeat (first | (with_reducible first | exact HB.out | apply below_alloc | apply pw_below_drewN | apply below_drew1) | exact HB.out)) hb); clear HB; have HB := n0_; clear n0_; (try clear hb); (try clear hb2); (try clear hk); (try clear hi)))
    (try simp only [Act.put, List.setIfInBounds_toArray, List.set_cons_zero, List.set_cons_succ])
    go_cut [] (fun wc => ∃ (kq : Nat), Aside0 (calamuslaw24_PasteTwice.j0 kq a0 a1 a2 a3 t262 = some r) ∧ Aside0 (kq ≤ k) ∧ Aside0 (Below w.heap.size w wc))
    case first =>
      have H := HC9.out
      clear HC9
      by_cases c11 : t262 = 0
      · rw [if_pos c11] at H
        have c11b0 : (t262 == 0) = true := beq_iff_eq.mpr c11
        have c11b1 : (t262 != 0) = false := bne_eq_false_iff_eq.mpr c11
        clear c11
        (first | rw [c11b0] | (simp only [i64_w, i32_w]; rw [c11b0]) | skip)
        replace H := Option.bind_eq_some_iff.mp H
        obtain ⟨⟨t263, t264, t265⟩, A120, H⟩ := H
        replace H : (if t263.toList = a0.toList then (if t265 = 0 then ((line_Normal.f t260 t261).bind fun t266 => (if t266 = true then (if (t260.size : Int) = (a0.size : Int) then (calamuslaw24_PasteTwice.j0 k a0 a1 a2 a3 t262) else (some false)) else (some false))) else (some false)) else (some false)) = some r := H
        have A12 := Aside0.mk A120
        clear A120
        by_cases c13 : t263.toList = a0.toList
        · rw [if_pos c13] at H
          have c13b0 : (t263.toList == a0.toList) = true := beq_iff_eq.mpr c13
          have c13b1 : (t263.toList != a0.toList) = false := bne_eq_false_iff_eq.mpr c13
          clear c13
          by_cases c14 : t265 = 0
          · rw [if_pos c14] at H
            have c14b0 : (t265 == 0) = true := beq_iff_eq.mpr c14
            have c14b1 : (t265 != 0) = false := bne_eq_false_iff_eq.mpr c14
            clear c14
            replace H := Option.bind_eq_some_iff.mp H
            obtain ⟨t266, A150, H⟩ := H
            replace H : (if t266 = true then (if (t260.size : Int) = (a0.size : Int) then (calamuslaw24_PasteTwice.j0 k a0 a1 a2 a3 t262) else (some false)) else (some false)) = some r := H
            have A15 := Aside0.mk A150
            clear A150
            by_cases c16 : t266 = true
            · subst c16
              have H1 : (if (t260.size : Int) = (a0.size : Int) then (calamuslaw24_PasteTwice.j0 k a0 a1 a2 a3 t262) else (some false)) = some r := by rw [if_pos rfl] at H; exact H
              clear H
              have H := H1
              clear H1
              by_cases c17 : (t260.size : Int) = (a0.size : Int)
              · rw [if_pos c17] at H
                have c17b0 : ((t260.size : Int) == (a0.size : Int)) = true := beq_iff_eq.mpr c17
                have c17b1 : ((t260.size : Int) != (a0.size : Int)) = false := bne_eq_false_iff_eq.mpr c17
                have c17b2 : (t260.size == a0.size) = true := by first | simpa using c17 | (simp at c17 ⊢; omega)
                clear c17
                have H' := Aside0.mk H
                clear H
                go_wp2_with (first | ((with_reducible refine gate_callee (f := 12) rfl ?_); refine goesL_ (some 36) rfl rfl Tryd.func12 (by kernel_rfl) rfl #[.string t260, .int .i64 a1, .int .i64 a3] rfl (by (try simp only [List.map_toArray, List.map_cons, List.map_nil]); first | done | rfl | (simp only [List.length_drop, List.length_take]; rfl)) ?_; (with_reducible refine (paste_Flip.calls k t260 a1 a3 t263 t264 t265 _ A12.out).mono ?_); rintro e w18 ⟨rfl, hb⟩; refine ⟨_, rfl, ?_⟩; have n0_ := Aside0.mk (below_step (by repeat (first | (with_reducible first | exact HB.out | apply below_alloc | apply pw_below_drewN | apply below_drew1) | exact HB.out)) hb); clear HB; have HB := n0_; clear n0_; (try clear hb); (try clear hb2); (try clear hk); (try clear hi)) | (go_at_call 11; (with_reducible refine (line_Normal.calls t260 t261 true _ A15.out).mono ?_); rintro e w19 ⟨rfl, hb⟩; have n0_ := Aside0.mk (below_step (by repeat (first | (with_reducible first | exact HB.out | apply below_alloc | apply pw_below_drewN | apply below_drew1) | exact HB.out)) hb); clear HB; have HB := n0_; clear n0_; (try clear hb); (try clear hb2); (try clear hk); (try clear hi)))
                go_meet
                case rel => exact ⟨_, H', ⟨by first | omega | exact Nat.le_refl _⟩, ⟨by repeat (first | (with_reducible first | exact HB.out | apply below_alloc | apply pw_below_drewN | apply below_drew1) | exact HB.out)⟩⟩
              · rw [if_neg c17] at H
                have c17b0 : ((t260.size : Int) == (a0.size : Int)) = false := beq_eq_false_iff_ne.mpr c17
                have c17b1 : ((t260.size : Int) != (a0.size : Int)) = true := bne_iff_ne.mpr c17
                have c17b2 : (t260.size == a0.size) = false := by first | simpa using c17 | (simp at c17 ⊢; omega)
                obtain rfl := Option.some.inj H
                go_wp2_with (first | ((with_reducible refine gate_callee (f := 12) rfl ?_); refine goesL_ (some 36) rfl rfl Tryd.func12 (by kernel_rfl) rfl #[.string t260, .int .i64 a1, .int .i64 a3] rfl (by (try simp only [List.map_toArray, List.map_cons, List.map_nil]); first | done | rfl | (simp only [List.length_drop, List.length_take]; rfl)) ?_; (with_reducible refine (paste_Flip.calls k t260 a1 a3 t263 t264 t265 _ A12.out).mono ?_); rintro e w20 ⟨rfl, hb⟩; refine ⟨_, rfl, ?_⟩; have n0_ := Aside0.mk (below_step (by repeat (first | (with_reducible first | exact HB.out | apply below_alloc | apply pw_below_drewN | apply below_drew1) | exact HB.out)) hb); clear HB; have HB := n0_; clear n0_; (try clear hb); (try clear hb2); (try clear hk); (try clear hi)) | (go_at_call 11; (with_reducible refine (line_Normal.calls t260 t261 true _ A15.out).mono ?_); rintro e w21 ⟨rfl, hb⟩; have n0_ := Aside0.mk (below_step (by repeat (first | (with_reducible first | exact HB.out | apply below_alloc | apply pw_below_drewN | apply below_drew1) | exact HB.out)) hb); clear HB; have HB := n0_; clear n0_; (try clear hb); (try clear hb2); (try clear hk); (try clear hi)))
                go_ret
                exact ⟨by first | rfl | (simp [errW_none, errW_some] <;> rfl) | (simp [*, errW_none, errW_some] <;> rfl), by repeat (first | (with_reducible first | exact HB.out | apply below_alloc | apply pw_below_drewN | apply below_drew1) | exact HB.out)⟩
            · replace c16 := Bool.eq_false_iff.mpr c16
              subst c16
              have H1 : (some false) = some r := by rw [if_neg (show ¬ (false = true) by decide)] at H; exact H
              clear H
              have H := H1
              clear H1
              obtain rfl := Option.some.inj H
              go_wp2_with (first | ((with_reducible refine gate_callee (f := 12) rfl ?_); refine goesL_ (some 36) rfl rfl Tryd.func12 (by kernel_rfl) rfl #[.string t260, .int .i64 a1, .int .i64 a3] rfl (by (try simp only [List.map_toArray, List.map_cons, List.map_nil]); first | done | rfl | (simp only [List.length_drop, List.length_take]; rfl)) ?_; (with_reducible refine (paste_Flip.calls k t260 a1 a3 t263 t264 t265 _ A12.out).mono ?_); rintro e w22 ⟨rfl, hb⟩; refine ⟨_, rfl, ?_⟩; have n0_ := Aside0.mk (below_step (by repeat (first | (with_reducible first | exact HB.out | apply below_alloc | apply pw_below_drewN | apply below_drew1) | exact HB.out)) hb); clear HB; have HB := n0_; clear n0_; (try clear hb); (try clear hb2); (try clear hk); (try clear hi)) | (go_at_call 11; (with_reducible refine (line_Normal.calls t260 t261 false _ A15.out).mono ?_); rintro e w23 ⟨rfl, hb⟩; have n0_ := Aside0.mk (below_step (by repeat (first | (with_reducible first | exact HB.out | apply below_alloc | apply pw_below_drewN | apply below_drew1) | exact HB.out)) hb); clear HB; have HB := n0_; clear n0_; (try clear hb); (try clear hb2); (try clear hk); (try clear hi)))
              go_ret
              exact ⟨by first | rfl | (simp [errW_none, errW_some] <;> rfl) | (simp [*, errW_none, errW_some] <;> rfl), by repeat (first | (with_reducible first | exact HB.out | apply below_alloc | apply pw_below_drewN | apply below_drew1) | exact HB.out)⟩
          · rw [if_neg c14] at H
            have c14b0 : (t265 == 0) = false := beq_eq_false_iff_ne.mpr c14
            have c14b1 : (t265 != 0) = true := bne_iff_ne.mpr c14
            obtain rfl := Option.some.inj H
            go_wp2_with (first | ((with_reducible refine gate_callee (f := 12) rfl ?_); refine goesL_ (some 36) rfl rfl Tryd.func12 (by kernel_rfl) rfl #[.string t260, .int .i64 a1, .int .i64 a3] rfl (by (try simp only [List.map_toArray, List.map_cons, List.map_nil]); first | done | rfl | (simp only [List.length_drop, List.length_take]; rfl)) ?_; (with_reducible refine (paste_Flip.calls k t260 a1 a3 t263 t264 t265 _ A12.out).mono ?_); rintro e w24 ⟨rfl, hb⟩; refine ⟨_, rfl, ?_⟩; have n0_ := Aside0.mk (below_step (by repeat (first | (with_reducible first | exact HB.out | apply below_alloc | apply pw_below_drewN | apply below_drew1) | exact HB.out)) hb); clear HB; have HB := n0_; clear n0_; (try clear hb); (try clear hb2); (try clear hk); (try clear hi)))
            go_ret
            exact ⟨by first | rfl | (simp [errW_none, errW_some] <;> rfl) | (simp [*, errW_none, errW_some] <;> rfl), by repeat (first | (with_reducible first | exact HB.out | apply below_alloc | apply pw_below_drewN | apply below_drew1) | exact HB.out)⟩
        · rw [if_neg c13] at H
          have c13b0 : (t263.toList == a0.toList) = false := beq_eq_false_iff_ne.mpr c13
          have c13b1 : (t263.toList != a0.toList) = true := bne_iff_ne.mpr c13
          obtain rfl := Option.some.inj H
          go_wp2_with (first | ((with_reducible refine gate_callee (f := 12) rfl ?_); refine goesL_ (some 36) rfl rfl Tryd.func12 (by kernel_rfl) rfl #[.string t260, .int .i64 a1, .int .i64 a3] rfl (by (try simp only [List.map_toArray, List.map_cons, List.map_nil]); first | done | rfl | (simp only [List.length_drop, List.length_take]; rfl)) ?_; (with_reducible refine (paste_Flip.calls k t260 a1 a3 t263 t264 t265 _ A12.out).mono ?_); rintro e w25 ⟨rfl, hb⟩; refine ⟨_, rfl, ?_⟩; have n0_ := Aside0.mk (below_step (by repeat (first | (with_reducible first | exact HB.out | apply below_alloc | apply pw_below_drewN | apply below_drew1) | exact HB.out)) hb); clear HB; have HB := n0_; clear n0_; (try clear hb); (try clear hb2); (try clear hk); (try clear hi)))
          go_ret
          exact ⟨by first | rfl | (simp [errW_none, errW_some] <;> rfl) | (simp [*, errW_none, errW_some] <;> rfl), by repeat (first | (with_reducible first | exact HB.out | apply below_alloc | apply pw_below_drewN | apply below_drew1) | exact HB.out)⟩
      · rw [if_neg c11] at H
        have c11b0 : (t262 == 0) = false := beq_eq_false_iff_ne.mpr c11
        have c11b1 : (t262 != 0) = true := bne_iff_ne.mpr c11
        (first | rw [c11b0] | (simp only [i64_w, i32_w]; rw [c11b0]) | skip)
        have H' := Aside0.mk H
        clear H
        go_wp2
        go_meet
        case rel => exact ⟨_, H', ⟨by first | omega | exact Nat.le_refl _⟩, ⟨by repeat (first | (with_reducible first | exact HB.out | apply below_alloc | apply pw_below_drewN | apply below_drew1) | exact HB.out)⟩⟩
    case rest =>
      clear HC9
      try clear c1
      try clear p2
      try clear c5
      try clear c5b0
      try clear c5b1
      try clear c6
      try clear c7
      try clear c11
      try clear c11b0
      try clear c11b1
      try clear c12
      try clear c13
      try clear c13b0
      try clear c13b1
      try clear c14
      try clear c14b0
      try clear c14b1
      try clear c16
      try clear c17
      try clear c17b0
      try clear c17b1
      try clear c17b2
      obtain ⟨kq, HA, HJ8, HB⟩ := hcut
      cases kq with
      | zero => exact absurd HA.out (by simp [calamuslaw24_PasteTwice.j0])
      | succ kj8 =>
        have H := HA.out
        clear HA
        simp only [calamuslaw24_PasteTwice.j0] at H
        replace H := Option.bind_eq_some_iff.mp H
        obtain ⟨⟨t267, t268, t269⟩, A260, H⟩ := H
        replace H : (if t269 = 0 then (if t262 = 0 then ((utf_Count.f t267).bind fun t271 => ((utf_Count.f a0).bind fun t272 => (if t271 = t272 then ((line_Count.f t267).bind fun t273 => ((line_Count.f a0).bind fun t274 => (if t273 = t274 then ((utf_Rune.f t267 t268).bind fun t275 => (if t275.toList = a2.toList then ((utf_Rune.f t267 a1).bind fun t276 => (if t276.toList = a2.toList then ((calamuslaw24_lives.f kj8).bind fun t277 => (some t277)) else (some false))) else (some false))) else (some false)))) else (some false)))) else (some false)) else (if t267.toList = ([] : List UInt8) then (if t268 = 0 then ((calamuslaw24_lives.f kj8).bind fun t270 => (some t270)) else (some false)) else (some false))) = some r := H
        have A26 := Aside0.mk A260
        clear A260
        by_cases c27 : t269 = 0
        · rw [if_pos c27] at H
          have c27b0 : (t269 == 0) = true := beq_iff_eq.mpr c27
          have c27b1 : (t269 != 0) = false := bne_eq_false_iff_eq.mpr c27
          clear c27
          by_cases c28 : t262 = 0
          · rw [if_pos c28] at H
            have c28b0 : (t262 == 0) = true := beq_iff_eq.mpr c28
            have c28b1 : (t262 != 0) = false := bne_eq_false_iff_eq.mpr c28
            clear c28
            replace H := Option.bind_eq_some_iff.mp H
            obtain ⟨t271, A290, H⟩ := H
            replace H : ((utf_Count.f a0).bind fun t272 => (if t271 = t272 then ((line_Count.f t267).bind fun t273 => ((line_Count.f a0).bind fun t274 => (if t273 = t274 then ((utf_Rune.f t267 t268).bind fun t275 => (if t275.toList = a2.toList then ((utf_Rune.f t267 a1).bind fun t276 => (if t276.toList = a2.toList then ((calamuslaw24_lives.f kj8).bind fun t277 => (some t277)) else (some false))) else (some false))) else (some false)))) else (some false))) = some r := H
            have A29 := Aside0.mk A290
            clear A290
            replace H := Option.bind_eq_some_iff.mp H
            obtain ⟨t272, A300, H⟩ := H
            replace H : (if t271 = t272 then ((line_Count.f t267).bind fun t273 => ((line_Count.f a0).bind fun t274 => (if t273 = t274 then ((utf_Rune.f t267 t268).bind fun t275 => (if t275.toList = a2.toList then ((utf_Rune.f t267 a1).bind fun t276 => (if t276.toList = a2.toList then ((calamuslaw24_lives.f kj8).bind fun t277 => (some t277)) else (some false))) else (some false))) else (some false)))) else (some false)) = some r := H
            have A30 := Aside0.mk A300
            clear A300
            by_cases c31 : t271 = t272
            · rw [if_pos c31] at H
              have c31b0 : (t271 == t272) = true := beq_iff_eq.mpr c31
              have c31b1 : (t271 != t272) = false := bne_eq_false_iff_eq.mpr c31
              clear c31
              replace H := Option.bind_eq_some_iff.mp H
              obtain ⟨t273, A320, H⟩ := H
              replace H : ((line_Count.f a0).bind fun t274 => (if t273 = t274 then ((utf_Rune.f t267 t268).bind fun t275 => (if t275.toList = a2.toList then ((utf_Rune.f t267 a1).bind fun t276 => (if t276.toList = a2.toList then ((calamuslaw24_lives.f kj8).bind fun t277 => (some t277)) else (some false))) else (some false))) else (some false))) = some r := H
              have A32 := Aside0.mk A320
              clear A320
              replace H := Option.bind_eq_some_iff.mp H
              obtain ⟨t274, A330, H⟩ := H
              replace H : (if t273 = t274 then ((utf_Rune.f t267 t268).bind fun t275 => (if t275.toList = a2.toList then ((utf_Rune.f t267 a1).bind fun t276 => (if t276.toList = a2.toList then ((calamuslaw24_lives.f kj8).bind fun t277 => (some t277)) else (some false))) else (some false))) else (some false)) = some r := H
              have A33 := Aside0.mk A330
              clear A330
              by_cases c34 : t273 = t274
              · rw [if_pos c34] at H
                have c34b0 : (t273 == t274) = true := beq_iff_eq.mpr c34
                have c34b1 : (t273 != t274) = false := bne_eq_false_iff_eq.mpr c34
                clear c34
                replace H := Option.bind_eq_some_iff.mp H
                obtain ⟨t275, A350, H⟩ := H
                replace H : (if t275.toList = a2.toList then ((utf_Rune.f t267 a1).bind fun t276 => (if t276.toList = a2.toList then ((calamuslaw24_lives.f kj8).bind fun t277 => (some t277)) else (some false))) else (some false)) = some r := H
                have A35 := Aside0.mk A350
                clear A350
                by_cases c36 : t275.toList = a2.toList
                · rw [if_pos c36] at H
                  have c36b0 : (t275.toList == a2.toList) = true := beq_iff_eq.mpr c36
                  have c36b1 : (t275.toList != a2.toList) = false := bne_eq_false_iff_eq.mpr c36
                  clear c36
                  replace H := Option.bind_eq_some_iff.mp H
                  obtain ⟨t276, A370, H⟩ := H
                  replace H : (if t276.toList = a2.toList then ((calamuslaw24_lives.f kj8).bind fun t277 => (some t277)) else (some false)) = some r := H
                  have A37 := Aside0.mk A370
                  clear A370
                  by_cases c38 : t276.toList = a2.toList
                  · rw [if_pos c38] at H
                    have c38b0 : (t276.toList == a2.toList) = true := beq_iff_eq.mpr c38
                    have c38b1 : (t276.toList != a2.toList) = false := bne_eq_false_iff_eq.mpr c38
                    clear c38
                    replace H := Option.bind_eq_some_iff.mp H
                    obtain ⟨t277, A390, H⟩ := H
                    replace H : (some t277) = some r := H
                    have A39 := Aside0.mk A390
                    clear A390
                    obtain rfl := Option.some.inj H
                    go_wp2_with (first | ((with_reducible refine gate_callee (f := 14) rfl ?_); refine goesL_ (some 65) rfl rfl Tryd.func14 (by kernel_rfl) rfl #[.string a0, .int .i64 a1, .string a2, .int .i64 a3] rfl (by (try simp only [List.map_toArray, List.map_cons, List.map_nil]); first | done | rfl | (simp only [List.length_drop, List.length_take]; rfl)) ?_; (with_reducible refine (paste_Over.calls kj8 a0 a1 a2 a3 t267 t268 t269 _ A26.out).mono ?_); rintro e w40 ⟨rfl, hb⟩; refine ⟨_, rfl, ?_⟩; have n0_ := Aside0.mk (below_step (by repeat (first | (with_reducible first | exact HB.out | apply below_alloc | apply pw_below_drewN | apply below_drew1) | exact HB.out)) hb); clear HB; have HB := n0_; clear n0_; (try clear hb); (try clear hb2); (try clear hk); (try clear hi)) | (go_at_call 16; (with_reducible refine (utf_Count.calls t267 t271 _ A29.out).mono ?_); rintro e w41 ⟨rfl, hb⟩; have n0_ := Aside0.mk (below_step (by repeat (first | (with_reducible first | exact HB.out | apply below_alloc | apply pw_below_drewN | apply below_drew1) | exact HB.out)) hb); clear HB; have HB := n0_; clear n0_; (try clear hb); (try clear hb2); (try clear hk); (try clear hi)) | (go_at_call 16; (with_reducible refine (utf_Count.calls a0 t272 _ A30.out).mono ?_); rintro e w42 ⟨rfl, hb⟩; have n0_ := Aside0.mk (below_step (by repeat (first | (with_reducible first | exact HB.out | apply below_alloc | apply pw_below_drewN | apply below_drew1) | exact HB.out)) hb); clear HB; have HB := n0_; clear n0_; (try clear hb); (try clear hb2); (try clear hk); (try clear hi)) | (go_at_call 17; (with_reducible refine (line_Count.calls t267 t273 _ A32.out).mono ?_); rintro e w43 ⟨rfl, hb⟩; have n0_ := Aside0.mk (below_step (by repeat (first | (with_reducible first | exact HB.out | apply below_alloc | apply pw_below_drewN | apply below_drew1) | exact HB.out)) hb); clear HB; have HB := n0_; clear n0_; (try clear hb); (try clear hb2); (try clear hk); (try clear hi)) | (go_at_call 17; (with_reducible refine (line_Count.calls a0 t274 _ A33.out).mono ?_); rintro e w44 ⟨rfl, hb⟩; have n0_ := Aside0.mk (below_step (by repeat (first | (with_reducible first | exact HB.out | apply below_alloc | apply pw_below_drewN | apply below_drew1) | exact HB.out)) hb); clear HB; have HB := n0_; clear n0_; (try clear hb); (try clear hb2); (try clear hk); (try clear hi)) | (go_at_call 18; (with_reducible refine (utf_Rune.calls t267 t268 t275 _ A35.out).mono ?_); rintro e w45 ⟨rfl, hb⟩; have n0_ := Aside0.mk (below_step (by repeat (first | (with_reducible first | exact HB.out | apply below_alloc | apply pw_below_drewN | apply below_drew1) | exact HB.out)) hb); clear HB; have HB := n0_; clear n0_; (try clear hb); (try clear hb2); (try clear hk); (try clear hi)) | (go_at_call 18; (with_reducible refine (utf_Rune.calls t267 a1 t276 _ A37.out).mono ?_); rintro e w46 ⟨rfl, hb⟩; have n0_ := Aside0.mk (below_step (by repeat (first | (with_reducible first | exact HB.out | apply below_alloc | apply pw_below_drewN | apply below_drew1) | exact HB.out)) hb); clear HB; have HB := n0_; clear n0_; (try clear hb); (try clear hb2); (try clear hk); (try clear hi)) | (go_at_call 7; (with_reducible refine (calamuslaw24_lives.calls kj8  t277 _ A39.out).mono ?_); rintro e w47 ⟨rfl, hb⟩; have n0_ := Aside0.mk (below_step (by repeat (first | (with_reducible first | exact HB.out | apply below_alloc | apply pw_below_drewN | apply below_drew1) | exact HB.out)) hb); clear HB; have HB := n0_; clear n0_; (try clear hb); (try clear hb2); (try clear hk); (try clear hi)))
                    go_ret
                    exact ⟨by first | rfl | (simp [errW_none, errW_some] <;> rfl) | (simp [*, errW_none, errW_some] <;> rfl), by repeat (first | (with_reducible first | exact HB.out | apply below_alloc | apply pw_below_drewN | apply below_drew1) | exact HB.out)⟩
                  · rw [if_neg c38] at H
                    have c38b0 : (t276.toList == a2.toList) = false := beq_eq_false_iff_ne.mpr c38
                    have c38b1 : (t276.toList != a2.toList) = true := bne_iff_ne.mpr c38
                    obtain rfl := Option.some.inj H
                    go_wp2_with (first | ((with_reducible refine gate_callee (f := 14) rfl ?_); refine goesL_ (some 65) rfl rfl Tryd.func14 (by kernel_rfl) rfl #[.string a0, .int .i64 a1, .string a2, .int .i64 a3] rfl (by (try simp only [List.map_toArray, List.map_cons, List.map_nil]); first | done | rfl | (simp only [List.length_drop, List.length_take]; rfl)) ?_; (with_reducible refine (paste_Over.calls kj8 a0 a1 a2 a3 t267 t268 t269 _ A26.out).mono ?_); rintro e w48 ⟨rfl, hb⟩; refine ⟨_, rfl, ?_⟩; have n0_ := Aside0.mk (below_step (by repeat (first | (with_reducible first | exact HB.out | apply below_alloc | apply pw_below_drewN | apply below_drew1) | exact HB.out)) hb); clear HB; have HB := n0_; clear n0_; (try clear hb); (try clear hb2); (try clear hk); (try clear hi)) | (go_at_call 16; (with_reducible refine (utf_Count.calls t267 t271 _ A29.out).mono ?_); rintro e w49 ⟨rfl, hb⟩; have n0_ := Aside0.mk (below_step (by repeat (first | (with_reducible first | exact HB.out | apply below_alloc | apply pw_below_drewN | apply below_drew1) | exact HB.out)) hb); clear HB; have HB := n0_; clear n0_; (try clear hb); (try clear hb2); (try clear hk); (try clear hi)) | (go_at_call 16; (with_reducible refine (utf_Count.calls a0 t272 _ A30.out).mono ?_); rintro e w50 ⟨rfl, hb⟩; have n0_ := Aside0.mk (below_step (by repeat (first | (with_reducible first | exact HB.out | apply below_alloc | apply pw_below_drewN | apply below_drew1) | exact HB.out)) hb); clear HB; have HB := n0_; clear n0_; (try clear hb); (try clear hb2); (try clear hk); (try clear hi)) | (go_at_call 17; (with_reducible refine (line_Count.calls t267 t273 _ A32.out).mono ?_); rintro e w51 ⟨rfl, hb⟩; have n0_ := Aside0.mk (below_step (by repeat (first | (with_reducible first | exact HB.out | apply below_alloc | apply pw_below_drewN | apply below_drew1) | exact HB.out)) hb); clear HB; have HB := n0_; clear n0_; (try clear hb); (try clear hb2); (try clear hk); (try clear hi)) | (go_at_call 17; (with_reducible refine (line_Count.calls a0 t274 _ A33.out).mono ?_); rintro e w52 ⟨rfl, hb⟩; have n0_ := Aside0.mk (below_step (by repeat (first | (with_reducible first | exact HB.out | apply below_alloc | apply pw_below_drewN | apply below_drew1) | exact HB.out)) hb); clear HB; have HB := n0_; clear n0_; (try clear hb); (try clear hb2); (try clear hk); (try clear hi)) | (go_at_call 18; (with_reducible refine (utf_Rune.calls t267 t268 t275 _ A35.out).mono ?_); rintro e w53 ⟨rfl, hb⟩; have n0_ := Aside0.mk (below_step (by repeat (first | (with_reducible first | exact HB.out | apply below_alloc | apply pw_below_drewN | apply below_drew1) | exact HB.out)) hb); clear HB; have HB := n0_; clear n0_; (try clear hb); (try clear hb2); (try clear hk); (try clear hi)) | (go_at_call 18; (with_reducible refine (utf_Rune.calls t267 a1 t276 _ A37.out).mono ?_); rintro e w54 ⟨rfl, hb⟩; have n0_ := Aside0.mk (below_step (by repeat (first | (with_reducible first | exact HB.out | apply below_alloc | apply pw_below_drewN | apply below_drew1) | exact HB.out)) hb); clear HB; have HB := n0_; clear n0_; (try clear hb); (try clear hb2); (try clear hk); (try clear hi)))
                    go_ret
                    exact ⟨by first | rfl | (simp [errW_none, errW_some] <;> rfl) | (simp [*, errW_none, errW_some] <;> rfl), by repeat (first | (with_reducible first | exact HB.out | apply below_alloc | apply pw_below_drewN | apply below_drew1) | exact HB.out)⟩
                · rw [if_neg c36] at H
                  have c36b0 : (t275.toList == a2.toList) = false := beq_eq_false_iff_ne.mpr c36
                  have c36b1 : (t275.toList != a2.toList) = true := bne_iff_ne.mpr c36
                  obtain rfl := Option.some.inj H
                  go_wp2_with (first | ((with_reducible refine gate_callee (f := 14) rfl ?_); refine goesL_ (some 65) rfl rfl Tryd.func14 (by kernel_rfl) rfl #[.string a0, .int .i64 a1, .string a2, .int .i64 a3] rfl (by (try simp only [List.map_toArray, List.map_cons, List.map_nil]); first | done | rfl | (simp only [List.length_drop, List.length_take]; rfl)) ?_; (with_reducible refine (paste_Over.calls kj8 a0 a1 a2 a3 t267 t268 t269 _ A26.out).mono ?_); rintro e w55 ⟨rfl, hb⟩; refine ⟨_, rfl, ?_⟩; have n0_ := Aside0.mk (below_step (by repeat (first | (with_reducible first | exact HB.out | apply below_alloc | apply pw_below_drewN | apply below_drew1) | exact HB.out)) hb); clear HB; have HB := n0_; clear n0_; (try clear hb); (try clear hb2); (try clear hk); (try clear hi)) | (go_at_call 16; (with_reducible refine (utf_Count.calls t267 t271 _ A29.out).mono ?_); rintro e w56 ⟨rfl, hb⟩; have n0_ := Aside0.mk (below_step (by repeat (first | (with_reducible first | exact HB.out | apply below_alloc | apply pw_below_drewN | apply below_drew1) | exact HB.out)) hb); clear HB; have HB := n0_; clear n0_; (try clear hb); (try clear hb2); (try clear hk); (try clear hi)) | (go_at_call 16; (with_reducible refine (utf_Count.calls a0 t272 _ A30.out).mono ?_); rintro e w57 ⟨rfl, hb⟩; have n0_ := Aside0.mk (below_step (by repeat (first | (with_reducible first | exact HB.out | apply below_alloc | apply pw_below_drewN | apply below_drew1) | exact HB.out)) hb); clear HB; have HB := n0_; clear n0_; (try clear hb); (try clear hb2); (try clear hk); (try clear hi)) | (go_at_call 17; (with_reducible refine (line_Count.calls t267 t273 _ A32.out).mono ?_); rintro e w58 ⟨rfl, hb⟩; have n0_ := Aside0.mk (below_step (by repeat (first | (with_reducible first | exact HB.out | apply below_alloc | apply pw_below_drewN | apply below_drew1) | exact HB.out)) hb); clear HB; have HB := n0_; clear n0_; (try clear hb); (try clear hb2); (try clear hk); (try clear hi)) | (go_at_call 17; (with_reducible refine (line_Count.calls a0 t274 _ A33.out).mono ?_); rintro e w59 ⟨rfl, hb⟩; have n0_ := Aside0.mk (below_step (by repeat (first | (with_reducible first | exact HB.out | apply below_alloc | apply pw_below_drewN | apply below_drew1) | exact HB.out)) hb); clear HB; have HB := n0_; clear n0_; (try clear hb); (try clear hb2); (try clear hk); (try clear hi)) | (go_at_call 18; (with_reducible refine (utf_Rune.calls t267 t268 t275 _ A35.out).mono ?_); rintro e w60 ⟨rfl, hb⟩; have n0_ := Aside0.mk (below_step (by repeat (first | (with_reducible first | exact HB.out | apply below_alloc | apply pw_below_drewN | apply below_drew1) | exact HB.out)) hb); clear HB; have HB := n0_; clear n0_; (try clear hb); (try clear hb2); (try clear hk); (try clear hi)))
                  go_ret
                  exact ⟨by first | rfl | (simp [errW_none, errW_some] <;> rfl) | (simp [*, errW_none, errW_some] <;> rfl), by repeat (first | (with_reducible first | exact HB.out | apply below_alloc | apply pw_below_drewN | apply below_drew1) | exact HB.out)⟩
              · rw [if_neg c34] at H
                have c34b0 : (t273 == t274) = false := beq_eq_false_iff_ne.mpr c34
                have c34b1 : (t273 != t274) = true := bne_iff_ne.mpr c34
                obtain rfl := Option.some.inj H
                go_wp2_with (first | ((with_reducible refine gate_callee (f := 14) rfl ?_); refine goesL_ (some 65) rfl rfl Tryd.func14 (by kernel_rfl) rfl #[.string a0, .int .i64 a1, .string a2, .int .i64 a3] rfl (by (try simp only [List.map_toArray, List.map_cons, List.map_nil]); first | done | rfl | (simp only [List.length_drop, List.length_take]; rfl)) ?_; (with_reducible refine (paste_Over.calls kj8 a0 a1 a2 a3 t267 t268 t269 _ A26.out).mono ?_); rintro e w61 ⟨rfl, hb⟩; refine ⟨_, rfl, ?_⟩; have n0_ := Aside0.mk (below_step (by repeat (first | (with_reducible first | exact HB.out | apply below_alloc | apply pw_below_drewN | apply below_drew1) | exact HB.out)) hb); clear HB; have HB := n0_; clear n0_; (try clear hb); (try clear hb2); (try clear hk); (try clear hi)) | (go_at_call 16; (with_reducible refine (utf_Count.calls t267 t271 _ A29.out).mono ?_); rintro e w62 ⟨rfl, hb⟩; have n0_ := Aside0.mk (below_step (by repeat (first | (with_reducible first | exact HB.out | apply below_alloc | apply pw_below_drewN | apply below_drew1) | exact HB.out)) hb); clear HB; have HB := n0_; clear n0_; (try clear hb); (try clear hb2); (try clear hk); (try clear hi)) | (go_at_call 16; (with_reducible refine (utf_Count.calls a0 t272 _ A30.out).mono ?_); rintro e w63 ⟨rfl, hb⟩; have n0_ := Aside0.mk (below_step (by repeat (first | (with_reducible first | exact HB.out | apply below_alloc | apply pw_below_drewN | apply below_drew1) | exact HB.out)) hb); clear HB; have HB := n0_; clear n0_; (try clear hb); (try clear hb2); (try clear hk); (try clear hi)) | (go_at_call 17; (with_reducible refine (line_Count.calls t267 t273 _ A32.out).mono ?_); rintro e w64 ⟨rfl, hb⟩; have n0_ := Aside0.mk (below_step (by repeat (first | (with_reducible first | exact HB.out | apply below_alloc | apply pw_below_drewN | apply below_drew1) | exact HB.out)) hb); clear HB; have HB := n0_; clear n0_; (try clear hb); (try clear hb2); (try clear hk); (try clear hi)) | (go_at_call 17; (with_reducible refine (line_Count.calls a0 t274 _ A33.out).mono ?_); rintro e w65 ⟨rfl, hb⟩; have n0_ := Aside0.mk (below_step (by repeat (first | (with_reducible first | exact HB.out | apply below_alloc | apply pw_below_drewN | apply below_drew1) | exact HB.out)) hb); clear HB; have HB := n0_; clear n0_; (try clear hb); (try clear hb2); (try clear hk); (try clear hi)))
                go_ret
                exact ⟨by first | rfl | (simp [errW_none, errW_some] <;> rfl) | (simp [*, errW_none, errW_some] <;> rfl), by repeat (first | (with_reducible first | exact HB.out | apply below_alloc | apply pw_below_drewN | apply below_drew1) | exact HB.out)⟩
            · rw [if_neg c31] at H
              have c31b0 : (t271 == t272) = false := beq_eq_false_iff_ne.mpr c31
              have c31b1 : (t271 != t272) = true := bne_iff_ne.mpr c31
              obtain rfl := Option.some.inj H
              go_wp2_with (first | ((with_reducible refine gate_callee (f := 14) rfl ?_); refine goesL_ (some 65) rfl rfl Tryd.func14 (by kernel_rfl) rfl #[.string a0, .int .i64 a1, .string a2, .int .i64 a3] rfl (by (try simp only [List.map_toArray, List.map_cons, List.map_nil]); first | done | rfl | (simp only [List.length_drop, List.length_take]; rfl)) ?_; (with_reducible refine (paste_Over.calls kj8 a0 a1 a2 a3 t267 t268 t269 _ A26.out).mono ?_); rintro e w66 ⟨rfl, hb⟩; refine ⟨_, rfl, ?_⟩; have n0_ := Aside0.mk (below_step (by repeat (first | (with_reducible first | exact HB.out | apply below_alloc | apply pw_below_drewN | apply below_drew1) | exact HB.out)) hb); clear HB; have HB := n0_; clear n0_; (try clear hb); (try clear hb2); (try clear hk); (try clear hi)) | (go_at_call 16; (with_reducible refine (utf_Count.calls t267 t271 _ A29.out).mono ?_); rintro e w67 ⟨rfl, hb⟩; have n0_ := Aside0.mk (below_step (by repeat (first | (with_reducible first | exact HB.out | apply below_alloc | apply pw_below_drewN | apply below_drew1) | exact HB.out)) hb); clear HB; have HB := n0_; clear n0_; (try clear hb); (try clear hb2); (try clear hk); (try clear hi)) | (go_at_call 16; (with_reducible refine (utf_Count.calls a0 t272 _ A30.out).mono ?_); rintro e w68 ⟨rfl, hb⟩; have n0_ := Aside0.mk (below_step (by repeat (first | (with_reducible first | exact HB.out | apply below_alloc | apply pw_below_drewN | apply below_drew1) | exact HB.out)) hb); clear HB; have HB := n0_; clear n0_; (try clear hb); (try clear hb2); (try clear hk); (try clear hi)))
              go_ret
              exact ⟨by first | rfl | (simp [errW_none, errW_some] <;> rfl) | (simp [*, errW_none, errW_some] <;> rfl), by repeat (first | (with_reducible first | exact HB.out | apply below_alloc | apply pw_below_drewN | apply below_drew1) | exact HB.out)⟩
          · rw [if_neg c28] at H
            have c28b0 : (t262 == 0) = false := beq_eq_false_iff_ne.mpr c28
            have c28b1 : (t262 != 0) = true := bne_iff_ne.mpr c28
            obtain rfl := Option.some.inj H
            go_wp2_with (first | ((with_reducible refine gate_callee (f := 14) rfl ?_); refine goesL_ (some 65) rfl rfl Tryd.func14 (by kernel_rfl) rfl #[.string a0, .int .i64 a1, .string a2, .int .i64 a3] rfl (by (try simp only [List.map_toArray, List.map_cons, List.map_nil]); first | done | rfl | (simp only [List.length_drop, List.length_take]; rfl)) ?_; (with_reducible refine (paste_Over.calls kj8 a0 a1 a2 a3 t267 t268 t269 _ A26.out).mono ?_); rintro e w69 ⟨rfl, hb⟩; refine ⟨_, rfl, ?_⟩; have n0_ := Aside0.mk (below_step (by repeat (first | (with_reducible first | exact HB.out | apply below_alloc | apply pw_below_drewN | apply below_drew1) | exact HB.out)) hb); clear HB; have HB := n0_; clear n0_; (try clear hb); (try clear hb2); (try clear hk); (try clear hi)))
            go_ret
            exact ⟨by first | rfl | (simp [errW_none, errW_some] <;> rfl) | (simp [*, errW_none, errW_some] <;> rfl), by repeat (first | (with_reducible first | exact HB.out | apply below_alloc | apply pw_below_drewN | apply below_drew1) | exact HB.out)⟩
        · rw [if_neg c27] at H
          have c27b0 : (t269 == 0) = false := beq_eq_false_iff_ne.mpr c27
          have c27b1 : (t269 != 0) = true := bne_iff_ne.mpr c27
          by_cases c70 : t267.toList = ([] : List UInt8)
          · rw [if_pos c70] at H
            have c70b0 : (t267.toList == ([] : List UInt8)) = true := beq_iff_eq.mpr c70
            have c70b1 : (t267.toList != ([] : List UInt8)) = false := bne_eq_false_iff_eq.mpr c70
            clear c70
            by_cases c71 : t268 = 0
            · rw [if_pos c71] at H
              have c71b0 : (t268 == 0) = true := beq_iff_eq.mpr c71
              have c71b1 : (t268 != 0) = false := bne_eq_false_iff_eq.mpr c71
              clear c71
              replace H := Option.bind_eq_some_iff.mp H
              obtain ⟨t270, A720, H⟩ := H
              replace H : (some t270) = some r := H
              have A72 := Aside0.mk A720
              clear A720
              obtain rfl := Option.some.inj H
              go_wp2_with (first | ((with_reducible refine gate_callee (f := 14) rfl ?_); refine goesL_ (some 65) rfl rfl Tryd.func14 (by kernel_rfl) rfl #[.string a0, .int .i64 a1, .string a2, .int .i64 a3] rfl (by (try simp only [List.map_toArray, List.map_cons, List.map_nil]); first | done | rfl | (simp only [List.length_drop, List.length_take]; rfl)) ?_; (with_reducible refine (paste_Over.calls kj8 a0 a1 a2 a3 t267 t268 t269 _ A26.out).mono ?_); rintro e w73 ⟨rfl, hb⟩; refine ⟨_, rfl, ?_⟩; have n0_ := Aside0.mk (below_step (by repeat (first | (with_reducible first | exact HB.out | apply below_alloc | apply pw_below_drewN | apply below_drew1) | exact HB.out)) hb); clear HB; have HB := n0_; clear n0_; (try clear hb); (try clear hb2); (try clear hk); (try clear hi)) | (go_at_call 7; (with_reducible refine (calamuslaw24_lives.calls kj8  t270 _ A72.out).mono ?_); rintro e w74 ⟨rfl, hb⟩; have n0_ := Aside0.mk (below_step (by repeat (first | (with_reducible first | exact HB.out | apply below_alloc | apply pw_below_drewN | apply below_drew1) | exact HB.out)) hb); clear HB; have HB := n0_; clear n0_; (try clear hb); (try clear hb2); (try clear hk); (try clear hi)))
              go_ret
              exact ⟨by first | rfl | (simp [errW_none, errW_some] <;> rfl) | (simp [*, errW_none, errW_some] <;> rfl), by repeat (first | (with_reducible first | exact HB.out | apply below_alloc | apply pw_below_drewN | apply below_drew1) | exact HB.out)⟩
            · rw [if_neg c71] at H
              have c71b0 : (t268 == 0) = false := beq_eq_false_iff_ne.mpr c71
              have c71b1 : (t268 != 0) = true := bne_iff_ne.mpr c71
              obtain rfl := Option.some.inj H
              go_wp2_with (first | ((with_reducible refine gate_callee (f := 14) rfl ?_); refine goesL_ (some 65) rfl rfl Tryd.func14 (by kernel_rfl) rfl #[.string a0, .int .i64 a1, .string a2, .int .i64 a3] rfl (by (try simp only [List.map_toArray, List.map_cons, List.map_nil]); first | done | rfl | (simp only [List.length_drop, List.length_take]; rfl)) ?_; (with_reducible refine (paste_Over.calls kj8 a0 a1 a2 a3 t267 t268 t269 _ A26.out).mono ?_); rintro e w75 ⟨rfl, hb⟩; refine ⟨_, rfl, ?_⟩; have n0_ := Aside0.mk (below_step (by repeat (first | (with_reducible first | exact HB.out | apply below_alloc | apply pw_below_drewN | apply below_drew1) | exact HB.out)) hb); clear HB; have HB := n0_; clear n0_; (try clear hb); (try clear hb2); (try clear hk); (try clear hi)))
              go_ret
              exact ⟨by first | rfl | (simp [errW_none, errW_some] <;> rfl) | (simp [*, errW_none, errW_some] <;> rfl), by repeat (first | (with_reducible first | exact HB.out | apply below_alloc | apply pw_below_drewN | apply below_drew1) | exact HB.out)⟩
          · rw [if_neg c70] at H
            have c70b0 : (t267.toList == ([] : List UInt8)) = false := beq_eq_false_iff_ne.mpr c70
            have c70b1 : (t267.toList != ([] : List UInt8)) = true := bne_iff_ne.mpr c70
            obtain rfl := Option.some.inj H
            go_wp2_with (first | ((with_reducible refine gate_callee (f := 14) rfl ?_); refine goesL_ (some 65) rfl rfl Tryd.func14 (by kernel_rfl) rfl #[.string a0, .int .i64 a1, .string a2, .int .i64 a3] rfl (by (try simp only [List.map_toArray, List.map_cons, List.map_nil]); first | done | rfl | (simp only [List.length_drop, List.length_take]; rfl)) ?_; (with_reducible refine (paste_Over.calls kj8 a0 a1 a2 a3 t267 t268 t269 _ A26.out).mono ?_); rintro e w76 ⟨rfl, hb⟩; refine ⟨_, rfl, ?_⟩; have n0_ := Aside0.mk (below_step (by repeat (first | (with_reducible first | exact HB.out | apply below_alloc | apply pw_below_drewN | apply below_drew1) | exact HB.out)) hb); clear HB; have HB := n0_; clear n0_; (try clear hb); (try clear hb2); (try clear hk); (try clear hi)))
            go_ret
            exact ⟨by first | rfl | (simp [errW_none, errW_some] <;> rfl) | (simp [*, errW_none, errW_some] <;> rfl), by repeat (first | (with_reducible first | exact HB.out | apply below_alloc | apply pw_below_drewN | apply below_drew1) | exact HB.out)⟩

def calamuslaw24_PasteTwice.Pure : Prop := ∀ (a0 : ByteArray) (a1 : Int) (a2 : ByteArray) (a3 : Int), a0.size ≤ 140737488351232 → (Lit.int .i64 a1).wf = true → a2.size ≤ 140737488351232 → (Lit.int .i64 a3).wf = true → ∃ k, calamuslaw24_PasteTwice.f k a0 a1 a2 a3 = some true
theorem calamuslaw24_PasteTwice.walk (P : calamuslaw24_PasteTwice.Pure) (a0 : ByteArray) (a1 : Int) (a2 : ByteArray) (a3 : Int) (w : World) (w0 : a0.size ≤ 140737488351232) (w1 : (Lit.int .i64 a1).wf = true) (w2 : a2.size ≤ 140737488351232) (w3 : (Lit.int .i64 a3).wf = true) :
    Calls Tryd.prog 6 #[.string a0, .int .i64 a1, .string a2, .int .i64 a3] w fun e w' => e = .returned (.bool true) ∧ Below w.heap.size w w' := by
  obtain ⟨k, h⟩ := P a0 a1 a2 a3 w0 w1 w2 w3
  refine (calamuslaw24_PasteTwice.calls k a0 a1 a2 a3 true w h).mono ?_
  rintro e w' ⟨rfl, hd⟩
  exact ⟨rfl, hd⟩

end Go.Proofs.YtckfdehendifoaaDoor.QP
/- The statement PasteTwice in plain words (MOD QP). -/
namespace Go.Proofs.YtckfdehendifoaaDoor
open Go.RowKit
set_option linter.unusedVariables false
set_option linter.unusedSimpArgs false
open Go.RowKit Go.Proofs.YtckfdehendifoaaDoor.QP Go.Proofs.YtckfdehendifoaaDoorW.PrintWords Go.Proofs.YtckfdehendifoaaDoorW.PrintMore
theorem repB_add (s : List UInt8) (a : Nat) : ∀ b, repB s [] (a + b) = repB s [] a ++ repB s [] b
  | 0 => by rw [Nat.add_zero]; simp [repB]
  | b + 1 => by rw [← Nat.add_assoc, repB_nil_succ, repB_add s a b, repB_nil_succ, List.append_assoc]
theorem repB_len0 (s : List UInt8) : ∀ n, (repB s [] n).length = n * s.length
  | 0 => by simp [repB]
  | n + 1 => by rw [repB_nil_succ, List.length_append, repB_len0 s n, Nat.succ_mul]
section
variable (t k : ByteArray) (q v N e : Nat) (hp : placeB (ls t) q = true) (he : endI (ls t) (ofI (ls t) q) = e) (hv : vAt (ls t) e q N = v) (h1 : q ≤ v) (h2 : v ≤ e) (h3 : e ≤ t.size) (hpv : placeB (ls t) v = true) (hN : N ≤ restN (ls t) q e) (hil : isL (ls k) = true) (h10 : ls k ≠ [10])
theorem ls_overT : ls (overT t k q v N) = ((ls t).take q ++ repB (ls k) [] N) ++ (ls t).drop v := by
  unfold overT; rw [ls_cat, ls_cat, ls_ext2, ls_ext, List.drop_zero, Nat.sub_zero, ls_repT]
include hp hpv hil h10
theorem over_valid : validL (ls (overT t k q v N)) = true := by
  obtain ⟨_, hle, hvl⟩ := valid_at hp
  obtain ⟨_, _, hvk, _, _⟩ := is_facts hil h10
  rw [ls_overT]
  exact valid_app' _ _ (valid_app' _ _ (valid_tk _ _ _ (Nat.le_refl _) hvl hle (place_inn hp)) (valid_rep hvk rfl N)) (valid_at hpv).1
theorem over_rune {j : Nat} (hj : j < N) : runeL (ls (overT t k q v N)) ((q + j * k.size : Nat) : Int) = ls k := by
  obtain ⟨z1, z2, hvk, _, _⟩ := is_facts hil h10
  have hle := (valid_at hp).2.1
  have hlq : ((ls t).take q).length = q := by rw [List.length_take]; omega
  have hd : (ls (overT t k q v N)).drop (q + j * k.size) = ls k ++ (repB (ls k) [] (N - 1 - j) ++ (ls t).drop v) := by
    have e1 : repB (ls k) [] N = repB (ls k) [] j ++ (ls k ++ repB (ls k) [] (N - 1 - j)) := by
      have e2 : N = j + (1 + (N - 1 - j)) := by omega
      have e3 : repB (ls k) [] (1 + (N - 1 - j)) = ls k ++ repB (ls k) [] (N - 1 - j) := repB_add (ls k) 1 (N - 1 - j)
      rw [← e3, ← repB_add, ← e2]
    have hlj : ((ls t).take q ++ repB (ls k) [] j).length = q + j * k.size := by rw [List.length_append, hlq, repB_len0, ls_len]
    rw [ls_overT, e1, ← List.append_assoc, List.append_assoc, List.drop_left' hlj, List.append_assoc]
  have hlen : q + j * k.size < (ls (overT t k q v N)).length := by
    have := congrArg List.length hd
    rw [List.length_drop, List.length_append] at this
    omega
  have hb : byL (ls (overT t k q v N)) (q + j * k.size) = byL (ls k) 0 := by
    have : byL ((ls (overT t k q v N)).drop (q + j * k.size)) 0 = byL (ls k) 0 := by rw [hd, byL_app1 (by omega)]
    rw [byL_drop, Nat.add_zero] at this; exact this
  have hpl : placeB (ls (overT t k q v N)) ((q + j * k.size : Nat) : Int) = true := place_mk (over_valid t k q v N hp hpv hil h10) (by omega) (.inr (by rw [hb]; exact valid_first hvk (by omega)))
  unfold runeL
  rw [if_pos ⟨hpl, by omega⟩, Int.toNat_natCast, hd, sz_app _ _ (by omega), z1, List.take_left' rfl]
include he hv h1 h2 h3 hN
theorem over_counts : countI (ls (overT t k q v N)) = countI (ls t) ∧ lcountI (ls (overT t k q v N)) = lcountI (ls t) := by
  have hvo := over_valid t k q v N hp hpv hil h10
  obtain ⟨_, hle, hvl⟩ := valid_at hp
  obtain ⟨z1, z2, hvk, zc, zt⟩ := is_facts hil h10
  obtain ⟨c1, c2⟩ := cnt_rep (ls k) N
  have hm := vAt_rest _ q N v (Nat.le_refl _) (by omega) hp he (by rw [ls_len]; exact h3) hN hv h1 h2
  have hsplit : ls t = (ls t).take q ++ (rowL (ls t) (q, v) ++ (ls t).drop v) := by
    have e4 : (ls t).drop v = ((ls t).drop q).drop (v - q) := by rw [List.drop_drop]; congr 1; omega
    unfold rowL
    show ls t = (ls t).take q ++ (((ls t).drop q).take (v - q) ++ (ls t).drop v)
    rw [e4, List.take_append_drop, List.take_append_drop]
  have htm : tens (rowL (ls t) (q, v)) = 0 := by
    have o := in_line' hp he (j := v) (by have := lst_le (ls t) q; omega) h2
    obtain ⟨s1, _⟩ := start_of hle hvl
    obtain ⟨s2, _⟩ := start_of (p := v) (by rw [ls_len]; omega) hvl
    have hf : fds (ls t) v = fds (ls t) q := by omega
    unfold fds tens at hf
    have e5 : (ls t).take v = (ls t).take q ++ rowL (ls t) (q, v) := by
      unfold rowL
      show _ = (ls t).take q ++ ((ls t).drop q).take (v - q)
      rw [← List.take_add, show q + (v - q) = v by omega]
    rw [e5, List.count_append] at hf
    unfold tens; omega
  have a1 : cntL (ls t) = cntL ((ls t).take q) + (N + cntL ((ls t).drop v)) := by
    conv => lhs; rw [hsplit]
    rw [cnt_app, cnt_app, hm]
  have a2 : cntL (ls (overT t k q v N)) = cntL (ls t) := by
    rw [ls_overT, cnt_app, cnt_app, c1, zc, a1, Nat.mul_one]; omega
  have b1 : tens (ls t) = tens ((ls t).take q) + (0 + tens ((ls t).drop v)) := by
    conv => lhs; rw [hsplit]
    rw [← htm]
    unfold tens; rw [List.count_append, List.count_append]
  have b2 : tens (ls (overT t k q v N)) = tens (ls t) := by
    rw [ls_overT, b1]
    rw [zt, Nat.mul_zero] at c2
    unfold tens at c2 ⊢
    rw [List.count_append, List.count_append, c2]; omega
  constructor
  · unfold countI; rw [if_pos hvo, if_pos hvl, a2]
  · unfold lcountI; rw [if_pos hvo, if_pos hvl, b2]
end
theorem PasteTwice_p (t : ByteArray) (p : Int) (k : ByteArray) (n : Int) (ht : t.size ≤ 140737488351232) (hp : -9223372036854775808 ≤ p ∧ p ≤ 9223372036854775807) (hk : k.size ≤ 140737488351232) (hn : -9223372036854775808 ≤ n ∧ n ≤ 9223372036854775807) : ∃ m, calamuslaw24_PasteTwice.f m t p k n = some true := by
  suffices h : Ev (fun m => calamuslaw24_PasteTwice.f m t p k n) true by obtain ⟨K, h⟩ := h; exact ⟨K, h K (Nat.le_refl _)⟩
  unfold calamuslaw24_PasteTwice.f
  refine Ev.ite (fun _ => lives24') (fun hs => ?_)
  obtain ⟨⟨o, at_, er⟩, y1, y2⟩ := over_all t p k n (by omega) hk hn
  have second : ∀ c : Int, (er = 0 → c = 0) → Ev (fun K => calamuslaw24_PasteTwice.j0 K t p k n c) true := by
    intro c hc
    refine Ev.step (fun _ => (by rw [calamuslaw24_PasteTwice.j0])) ?_
    refine Ev.bind y1 ?_
    rcases y2 with ⟨e1, e2, e3⟩ | ⟨q, v, N, e, rfl, g1, g2, g3, g4, g5, g6, g7, g8, g9, g10, g11, g12, g13, hX⟩
    · simp only at e1 e2 e3
      subst e2 e3
      exact Ev.neg e1 (Ev.pos ((empty_iff _).2 rfl) (Ev.pos rfl lives24'))
    · simp only [Prod.mk.injEq] at hX
      obtain ⟨rfl, rfl, rfl⟩ := hX
      obtain ⟨c1, c2⟩ := over_counts t k q v N e g1 g2 g4 g5 g6 g7 g8 g9 g10 g11
      have hmul : N * k.size ≤ 2000 := Nat.le_trans (Nat.mul_le_mul g13 g12) (by decide)
      have hz : (overT t k q v N).size ≤ 10000 := by
        unfold overT
        rw [ByteArray.size_append, ByteArray.size_append, size_rep0, ByteArray.size_extract, ByteArray.size_extract]; omega
      have r1 := over_rune t k q v N g1 g8 g10 g11 (j := N - 1) (by omega)
      have r2 := over_rune t k q v N g1 g8 g10 g11 (j := 0) (by omega)
      rw [Nat.zero_mul, Nat.add_zero] at r2
      have tl : ∀ x : Int, runeL (ls (overT t k q v N)) x = ls k → (⟨(runeL (ls (overT t k q v N)) x).toArray⟩ : ByteArray).toList = k.toList := fun x hx => by
        rw [toList_ls, toList_ls]; exact hx
      refine Ev.pos rfl (Ev.pos (hc rfl) (Ev.call (utf_Count.eq _ (by show (overT t k q v N).size ≤ _; omega)) (Ev.call (utf_Count.eq t (by omega)) (Ev.pos c1 ?_))))
      refine Ev.call (line_Count.eq _ (by show (overT t k q v N).size ≤ _; omega)) (Ev.call (line_Count.eq t (by omega)) (Ev.pos c2 ?_))
      refine Ev.call (utf_Rune.eq _ _ (by show (overT t k q v N).size ≤ _; omega)) (Ev.pos (tl _ r1) ?_)
      exact Ev.call (utf_Rune.eq _ _ (by show (overT t k q v N).size ≤ _; omega)) (Ev.pos (tl _ r2) lives24')
  rcases flip_all t p n (by omega) hn with ⟨⟨s, a, c⟩, f1, f2, f3⟩ | ⟨s, a, f1, f2, f3, b, f4⟩
  · refine Ev.bind f1 (Ev.neg f2 (second c (fun h => ?_)))
    subst h
    rcases y2 with ⟨e1, _⟩ | ⟨q, v, N, e, rfl, g1, g2, g3, g4, g5, g6, g7, g8, g9, _⟩
    · exact absurd rfl e1
    · rcases f3 with h | ⟨q', hq, h⟩
      · rw [g1] at h; cases h
      · obtain rfl : q = q' := by omega
        rw [g2] at h
        obtain rfl : e = q := by omega
        rw [rest_end] at g9; omega
  · refine Ev.bind f1 (Ev.pos rfl (Ev.bind f4 (Ev.pos rfl (Ev.pos rfl (Ev.call (line_Normal.eq s a (by omega)) (Ev.pos f3 (Ev.pos (by show (s.size : Int) = t.size; rw [f2]) (second 0 (fun _ => rfl)))))))))
end Go.Proofs.YtckfdehendifoaaDoor
