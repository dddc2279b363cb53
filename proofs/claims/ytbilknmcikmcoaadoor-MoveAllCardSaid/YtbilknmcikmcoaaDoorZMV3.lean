/- Joined by merge.py out of this work's texts: QO2, PMp, PMq, QO3, QO4, PMs. -/
import Derived.Test.YtbilknmcikmcoaaDoorZMV1
import Derived.Test.YtbilknmcikmcoaaDoorZMV2
import Derived.Test.YtbilknmcikmcoaaDoorZMV0
-- Printed by this work's xp.py out of the translation. Lean checks it.
namespace Go.Proofs.YtbilknmcikmcoaaDoor.QO
open Go.RowKit Go.Proofs.YtbilknmcikmcoaaDoorW.PrintWords Go.Proofs.YtbilknmcikmcoaaDoorW.PrintLast Go.Proofs.YtbilknmcikmcoaaDoorW.PrintMore
attribute [local go_sem] max2_int min2_int max_two min_two max_three min_three max_four min_four   -- for this text's walks alone
set_option linter.unusedVariables false
set_option linter.unusedSimpArgs false


/-! ### calamusref14_Go -/
mutual
def calamusref14_Go.j0 : Nat → ByteArray → Int → ByteArray → Int → Int → Bool → Option (Int × Bool)
  | 0, _, _, _, _, _, _ => none
  | k + 1, x0, x1, x2, x3, x4, x25 => if x25 = true then (some (0, false)) else ((calamusref04_Of.f x0 x1).bind fun t126 => ((calamusref04_Start.f x0 t126).bind fun t127 => ((calamusref04_End.f x0 t126).bind fun t128 => ((calamusref04_Count.f x0).bind fun t129 => (if x3 < 1 then (calamusref14_Go.j1 k x0 x1 x2 x3 x4 t126 t127 t128 (wrap64 (t129 - 1)) 1) else (calamusref14_Go.j1 k x0 x1 x2 x3 x4 t126 t127 t128 (wrap64 (t129 - 1)) x3))))))
def calamusref14_Go.j1 : Nat → ByteArray → Int → ByteArray → Int → Int → Int → Int → Int → Int → Int → Option (Int × Bool)
  | 0, _, _, _, _, _, _, _, _, _, _ => none
  | k + 1, x0, x1, x2, x3, x4, x12, x13, x14, x15, x16 => if x2.toList = ([104] : List UInt8) then (if x1 = x13 then (some (0, false)) else ((calamusref04_Column.f x0 x1).bind fun t130 => ((calamusref04_Column.f x0 x1).bind fun t131 => ((calamusref14_least.f x16 t131).bind fun t132 => ((calamusref04_At.f x0 x12 (wrap64 (t130 - t132))).bind fun t133 => (some (t133, true))))))) else (if x2.toList = ([108] : List UInt8) then (if x1 = x14 then (some (0, false)) else ((calamusref04_Column.f x0 x1).bind fun t134 => ((calamusref14_least.f x16 (x0.size : Int)).bind fun t135 => ((calamusref04_At.f x0 x12 (wrap64 (t134 + t135))).bind fun t136 => (some (t136, true)))))) else (if x2.toList = ([48] : List UInt8) then (some (x13, true)) else (if x2.toList = ([94] : List UInt8) then ((calamusref04_First.f k x0 x12).bind fun t137 => (some (t137, true))) else (if x2.toList = ([36] : List UInt8) then (if (wrap64 (x16 - 1)) > (wrap64 (x15 - x12)) then (some (0, false)) else ((calamusref04_End.f x0 (wrap64 ((wrap64 (x12 + x16)) - 1))).bind fun t138 => (some (t138, true)))) else (if x2.toList = ([124] : List UInt8) then ((calamusref04_At.f x0 x12 (wrap64 (x16 - 1))).bind fun t139 => (some (t139, true))) else (if x2.toList = ([106] : List UInt8) then (if x12 = x15 then (some (0, false)) else ((calamusref14_least.f x16 (wrap64 (x15 - x12))).bind fun t140 => ((calamusref04_At.f x0 (wrap64 (x12 + t140)) x4).bind fun t141 => (some (t141, true))))) else (if x2.toList = ([107] : List UInt8) then (if x12 = 0 then (some (0, false)) else ((calamusref14_least.f x16 x12).bind fun t142 => ((calamusref04_At.f x0 (wrap64 (x12 - t142)) x4).bind fun t143 => (some (t143, true))))) else (if x2.toList = ([71] : List UInt8) then (if x3 < 1 then ((calamusref14_least.f (wrap64 ((wrap64 (x15 + 1)) - 1)) x15).bind fun t144 => ((calamusref04_First.f k x0 t144).bind fun t145 => (some (t145, true)))) else ((calamusref14_least.f (wrap64 (x16 - 1)) x15).bind fun t146 => ((calamusref04_First.f k x0 t146).bind fun t147 => (some (t147, true))))) else ((calamusref14_least.f (wrap64 (x16 - 1)) x15).bind fun t148 => ((calamusref04_First.f k x0 t148).bind fun t149 => (some (t149, true))))))))))))
end
def calamusref14_Go.f (k : Nat) (a0 : ByteArray) (a1 : Int) (a2 : ByteArray) (a3 : Int) (a4 : Int) : Option (Int × Bool) := (calamusref03_Place.f a0 a1).bind fun t124 => (if t124 = true then ((calamusref14_Has.f k a2).bind fun t125 => (calamusref14_Go.j0 k a0 a1 a2 a3 a4 (!t125))) else (calamusref14_Go.j0 k a0 a1 a2 a3 a4 true))
theorem calamusref14_Go.mono_l : ∀ k, (∀ y0 y1 y2 y3 y4 y5, LeO (calamusref14_Go.j0 k y0 y1 y2 y3 y4 y5) (calamusref14_Go.j0 (k + 1) y0 y1 y2 y3 y4 y5)) ∧ (∀ y0 y1 y2 y3 y4 y5 y6 y7 y8 y9, LeO (calamusref14_Go.j1 k y0 y1 y2 y3 y4 y5 y6 y7 y8 y9) (calamusref14_Go.j1 (k + 1) y0 y1 y2 y3 y4 y5 y6 y7 y8 y9))
  | 0 => ⟨fun _ _ _ _ _ _ r h => by simp [calamusref14_Go.j0] at h, fun _ _ _ _ _ _ _ _ _ _ r h => by simp [calamusref14_Go.j1] at h⟩
  | k + 1 => by
    obtain ⟨ih0, ih1⟩ := calamusref14_Go.mono_l k
    refine ⟨?_, ?_⟩
    · intro y0 y1 y2 y3 y4 y5
      unfold calamusref14_Go.j0
      repeat' first
      | (with_reducible exact ih0 _ _ _ _ _ _)
      | (with_reducible exact ih1 _ _ _ _ _ _ _ _ _ _)
      | (with_reducible exact calamusref04_First.mono _ _ _)
      | (with_reducible exact calamusref14_Has.mono _ _)
      | (with_reducible exact LeO.refl _)
      | (with_reducible exact LeO.none _)
      | (with_reducible refine LeO.ite ?_ ?_)
      | (with_reducible refine LeO.bind ?_ (fun _ => ?_))
      | exact ih0 _ _ _ _ _ _
      | exact ih1 _ _ _ _ _ _ _ _ _ _
      | exact calamusref04_First.mono _ _ _
      | exact calamusref14_Has.mono _ _
      | exact LeO.none _
      | refine LeO.ite ?_ ?_
      | refine LeO.bind ?_ (fun _ => ?_)
    · intro y0 y1 y2 y3 y4 y5 y6 y7 y8 y9
      unfold calamusref14_Go.j1
      repeat' first
      | (with_reducible exact ih0 _ _ _ _ _ _)
      | (with_reducible exact ih1 _ _ _ _ _ _ _ _ _ _)
      | (with_reducible exact calamusref04_First.mono _ _ _)
      | (with_reducible exact calamusref14_Has.mono _ _)
      | (with_reducible exact LeO.refl _)
      | (with_reducible exact LeO.none _)
      | (with_reducible refine LeO.ite ?_ ?_)
      | (with_reducible refine LeO.bind ?_ (fun _ => ?_))
      | exact ih0 _ _ _ _ _ _
      | exact ih1 _ _ _ _ _ _ _ _ _ _
      | exact calamusref04_First.mono _ _ _
      | exact calamusref14_Has.mono _ _
      | exact LeO.none _
      | refine LeO.ite ?_ ?_
      | refine LeO.bind ?_ (fun _ => ?_)
theorem calamusref14_Go.mono : ∀ a0 a1 a2 a3 a4 k, LeO (calamusref14_Go.f k a0 a1 a2 a3 a4) (calamusref14_Go.f (k + 1) a0 a1 a2 a3 a4) := by
  intro a0 a1 a2 a3 a4 k
  obtain ⟨ih0, ih1⟩ := calamusref14_Go.mono_l k
  unfold calamusref14_Go.f
  repeat' first
      | (with_reducible exact ih0 _ _ _ _ _ _)
      | (with_reducible exact ih1 _ _ _ _ _ _ _ _ _ _)
      | (with_reducible exact calamusref04_First.mono _ _ _)
      | (with_reducible exact calamusref14_Has.mono _ _)
      | (with_reducible exact LeO.refl _)
      | (with_reducible exact LeO.none _)
      | (with_reducible refine LeO.ite ?_ ?_)
      | (with_reducible refine LeO.bind ?_ (fun _ => ?_))
      | exact ih0 _ _ _ _ _ _
      | exact ih1 _ _ _ _ _ _ _ _ _ _
      | exact calamusref04_First.mono _ _ _
      | exact calamusref14_Has.mono _ _
      | exact LeO.none _
      | refine LeO.ite ?_ ?_
      | refine LeO.bind ?_ (fun _ => ?_)
set_option maxHeartbeats 8000000 in
set_option maxRecDepth 100000 in
theorem calamusref14_Go.calls (k : Nat) (a0 : ByteArray) (a1 : Int) (a2 : ByteArray) (a3 : Int) (a4 : Int) (r1 : Int) (r2 : Bool) (w : World) (h : calamusref14_Go.f k a0 a1 a2 a3 a4 = some (r1, r2)) :
    Calls Tryd.prog 23 #[.string a0, .int .i64 a1, .string a2, .int .i64 a3, .int .i64 a4] w fun e w' => e = .returned (.tuple #[.int .i64 r1, .bool r2]) ∧ Below w.heap.size w w' := by
  have HB := Aside0.mk (Below.refl w.heap.size w)
  have H : ((calamusref03_Place.f a0 a1).bind fun t124 => (if t124 = true then ((calamusref14_Has.f k a2).bind fun t125 => (calamusref14_Go.j0 k a0 a1 a2 a3 a4 (!t125))) else (calamusref14_Go.j0 k a0 a1 a2 a3 a4 true))) = some (r1, r2) := h
  clear h
  have HC6 := Aside0.mk H
  clear H
  go_enter Tryd.func23, Tryd.ntmps23
  go_upto_region 1 with (fail)
  go_cut [25] (fun v25 wc => ∃ (kq : Nat) (x25_5 : Bool), v25 = .bool x25_5 ∧ Aside0 (calamusref14_Go.j0 kq a0 a1 a2 a3 a4 x25_5 = some (r1, r2)) ∧ Aside0 (kq ≤ k) ∧ Aside0 (Below w.heap.size w wc))
  case first =>
    have H := HC6.out
    clear HC6
    replace H := Option.bind_eq_some_iff.mp H
    obtain ⟨t124, A70, H⟩ := H
    replace H : (if t124 = true then ((calamusref14_Has.f k a2).bind fun t125 => (calamusref14_Go.j0 k a0 a1 a2 a3 a4 (!t125))) else (calamusref14_Go.j0 k a0 a1 a2 a3 a4 true)) = some (r1, r2) := H
    have A7 := Aside0.mk A70
    clear A70
    by_cases c8 : t124 = true
    · subst c8
      have H1 : ((calamusref14_Has.f k a2).bind fun t125 => (calamusref14_Go.j0 k a0 a1 a2 a3 a4 (!t125))) = some (r1, r2) := by rw [if_pos rfl] at H; exact H
      clear H
      have H := H1
      clear H1
      replace H := Option.bind_eq_some_iff.mp H
      obtain ⟨t125, A90, H⟩ := H
      replace H : (calamusref14_Go.j0 k a0 a1 a2 a3 a4 (!t125)) = some (r1, r2) := H
      have A9 := Aside0.mk A90
      clear A90
      have H' := Aside0.mk H
      clear H
      go_wp2_with (first | ((with_reducible refine gate_callee (f := 29) rfl ?_); refine goesL_ (some 19) rfl rfl Tryd.func29 (by kernel_rfl) rfl #[.string a0, .int .i64 a1] rfl (by (try simp only [List.map_toArray, List.map_cons, List.map_nil]); first | done | rfl | (simp only [List.length_drop, List.length_take]; rfl)) ?_; (with_reducible refine (calamusref03_Place.calls a0 a1 true _ A7.out).mono ?_); rintro e w10 ⟨rfl, hb⟩; refine ⟨_, rfl, ?_⟩; have n0_ := Aside0.mk (below_step (by repeat (first | (with_reducible first | exact HB.out | apply below_alloc | apply pw_below_drewN | apply below_drew1) | exact HB.out)) hb); clear HB; have HB := n0_; clear n0_; (try clear hb); (try clear hb2); (try clear hk); (try clear hi)) | (go_at_call 25; (with_reducible refine (calamusref14_Has.calls k a2 t125 _ A9.out).mono ?_); rintro e w11 ⟨rfl, hb⟩; have n0_ := Aside0.mk (below_step (by repeat (first | (with_reducible first | exact HB.out | apply below_alloc | apply pw_below_drewN | apply below_drew1) | exact HB.out)) hb); clear HB; have HB := n0_; clear n0_; (try clear hb); (try clear hb2); (try clear hk); (try clear hi)))
      go_meet
      case rel => exact ⟨_, (!t125), (by first | rfl | (simp; done) | (simp [*]; done)), H', ⟨by first | omega | exact Nat.le_refl _⟩, ⟨by repeat (first | (with_reducible first | exact HB.out | apply below_alloc | apply pw_below_drewN | apply below_drew1) | exact HB.out)⟩⟩
    · replace c8 := Bool.eq_false_iff.mpr c8
      subst c8
      have H1 : (calamusref14_Go.j0 k a0 a1 a2 a3 a4 true) = some (r1, r2) := by rw [if_neg (show ¬ (false = true) by decide)] at H; exact H
      clear H
      have H := H1
      clear H1
      have H' := Aside0.mk H
      clear H
      go_wp2_with (first | ((with_reducible refine gate_callee (f := 29) rfl ?_); refine goesL_ (some 19) rfl rfl Tryd.func29 (by kernel_rfl) rfl #[.string a0, .int .i64 a1] rfl (by (try simp only [List.map_toArray, List.map_cons, List.map_nil]); first | done | rfl | (simp only [List.length_drop, List.length_take]; rfl)) ?_; (with_reducible refine (calamusref03_Place.calls a0 a1 false _ A7.out).mono ?_); rintro e w12 ⟨rfl, hb⟩; refine ⟨_, rfl, ?_⟩; have n0_ := Aside0.mk (below_step (by repeat (first | (with_reducible first | exact HB.out | apply below_alloc | apply pw_below_drewN | apply below_drew1) | exact HB.out)) hb); clear HB; have HB := n0_; clear n0_; (try clear hb); (try clear hb2); (try clear hk); (try clear hi)))
      go_meet
      case rel => exact ⟨_, (true), (by first | rfl | (simp; done) | (simp [*]; done)), H', ⟨by first | omega | exact Nat.le_refl _⟩, ⟨by repeat (first | (with_reducible first | exact HB.out | apply below_alloc | apply pw_below_drewN | apply below_drew1) | exact HB.out)⟩⟩
  case rest =>
    clear HC6
    try clear c2
    try clear p2
    try clear c8
    obtain ⟨kq, x25_5, rfl, HA, HJ5, HB⟩ := hcut
    cases kq with
    | zero => exact absurd HA.out (by simp [calamusref14_Go.j0])
    | succ kj5 =>
      have H := HA.out
      clear HA
      simp only [calamusref14_Go.j0] at H
      by_cases c13 : x25_5 = true
      · subst c13
        have H1 : (some (0, false)) = some (r1, r2) := by rw [if_pos rfl] at H; exact H
        clear H
        have H := H1
        clear H1
        simp only [Option.some.injEq, Prod.mk.injEq] at H
        obtain ⟨rfl, rfl⟩ := H
        go_wp2
        go_ret2
        exact ⟨by first | rfl | (simp [errW_none, errW_some] <;> rfl) | (simp [*, errW_none, errW_some] <;> rfl), by repeat (first | (with_reducible first | exact HB.out | apply below_alloc | apply pw_below_drewN | apply below_drew1) | exact HB.out)⟩
      · replace c13 := Bool.eq_false_iff.mpr c13
        subst c13
        have H1 : ((calamusref04_Of.f a0 a1).bind fun t126 => ((calamusref04_Start.f a0 t126).bind fun t127 => ((calamusref04_End.f a0 t126).bind fun t128 => ((calamusref04_Count.f a0).bind fun t129 => (if a3 < 1 then (calamusref14_Go.j1 kj5 a0 a1 a2 a3 a4 t126 t127 t128 (wrap64 (t129 - 1)) 1) else (calamusref14_Go.j1 kj5 a0 a1 a2 a3 a4 t126 t127 t128 (wrap64 (t129 - 1)) a3)))))) = some (r1, r2) := by rw [if_neg (show ¬ (false = true) by decide)] at H; exact H
        clear H
        have H := H1
        clear H1
        replace H := Option.bind_eq_some_iff.mp H
        obtain ⟨t126, A140, H⟩ := H
        replace H : ((calamusref04_Start.f a0 t126).bind fun t127 => ((calamusref04_End.f a0 t126).bind fun t128 => ((calamusref04_Count.f a0).bind fun t129 => (if a3 < 1 then (calamusref14_Go.j1 kj5 a0 a1 a2 a3 a4 t126 t127 t128 (wrap64 (t129 - 1)) 1) else (calamusref14_Go.j1 kj5 a0 a1 a2 a3 a4 t126 t127 t128 (wrap64 (t129 - 1)) a3))))) = some (r1, r2) := H
        have A14 := Aside0.mk A140
        clear A140
        replace H := Option.bind_eq_some_iff.mp H
        obtain ⟨t127, A150, H⟩ := H
        replace H : ((calamusref04_End.f a0 t126).bind fun t128 => ((calamusref04_Count.f a0).bind fun t129 => (if a3 < 1 then (calamusref14_Go.j1 kj5 a0 a1 a2 a3 a4 t126 t127 t128 (wrap64 (t129 - 1)) 1) else (calamusref14_Go.j1 kj5 a0 a1 a2 a3 a4 t126 t127 t128 (wrap64 (t129 - 1)) a3)))) = some (r1, r2) := H
        have A15 := Aside0.mk A150
        clear A150
        replace H := Option.bind_eq_some_iff.mp H
        obtain ⟨t128, A160, H⟩ := H
        replace H : ((calamusref04_Count.f a0).bind fun t129 => (if a3 < 1 then (calamusref14_Go.j1 kj5 a0 a1 a2 a3 a4 t126 t127 t128 (wrap64 (t129 - 1)) 1) else (calamusref14_Go.j1 kj5 a0 a1 a2 a3 a4 t126 t127 t128 (wrap64 (t129 - 1)) a3))) = some (r1, r2) := H
        have A16 := Aside0.mk A160
        clear A160
        replace H := Option.bind_eq_some_iff.mp H
        obtain ⟨t129, A170, H⟩ := H
        replace H : (if a3 < 1 then (calamusref14_Go.j1 kj5 a0 a1 a2 a3 a4 t126 t127 t128 (wrap64 (t129 - 1)) 1) else (calamusref14_Go.j1 kj5 a0 a1 a2 a3 a4 t126 t127 t128 (wrap64 (t129 - 1)) a3)) = some (r1, r2) := H
        have A17 := Aside0.mk A170
        clear A170
        have HC18 := Aside0.mk H
        clear H
        go_upto_if 40 with (first | ((with_reducible refine gate_callee (f := 31) rfl ?_); refine goesL_ (some 28) rfl rfl Tryd.func31 (by kernel_rfl) rfl #[.string a0, .int .i64 a1] rfl (by (try simp only [List.map_toArray, List.map_cons, List.map_nil]); first | done | rfl | (simp only [List.length_drop, List.length_take]; rfl)) ?_; (with_reducible refine (calamusref04_Of.calls a0 a1 t126 _ A14.out).mono ?_); rintro e w19 ⟨rfl, hb⟩; refine ⟨_, rfl, ?_⟩; have n0_ := Aside0.mk (below_step (by repeat (first | (with_reducible first | exact HB.out | apply below_alloc | apply pw_below_drewN | apply below_drew1) | exact HB.out)) hb); clear HB; have HB := n0_; clear n0_; (try clear hb); (try clear hb2); (try clear hk); (try clear hi)) | ((with_reducible refine gate_callee (f := 33) rfl ?_); refine goesL_ (some 31) rfl rfl Tryd.func33 (by kernel_rfl) rfl #[.string a0, .int .i64 t126] rfl (by (try simp only [List.map_toArray, List.map_cons, List.map_nil]); first | done | rfl | (simp only [List.length_drop, List.length_take]; rfl)) ?_; (with_reducible refine (calamusref04_Start.calls a0 t126 t127 _ A15.out).mono ?_); rintro e w20 ⟨rfl, hb⟩; refine ⟨_, rfl, ?_⟩; have n0_ := Aside0.mk (below_step (by repeat (first | (with_reducible first | exact HB.out | apply below_alloc | apply pw_below_drewN | apply below_drew1) | exact HB.out)) hb); clear HB; have HB := n0_; clear n0_; (try clear hb); (try clear hb2); (try clear hk); (try clear hi)) | ((with_reducible refine gate_callee (f := 40) rfl ?_); refine goesL_ (some 34) rfl rfl Tryd.func40 (by kernel_rfl) rfl #[.string a0, .int .i64 t126] rfl (by (try simp only [List.map_toArray, List.map_cons, List.map_nil]); first | done | rfl | (simp only [List.length_drop, List.length_take]; rfl)) ?_; (with_reducible refine (calamusref04_End.calls a0 t126 t128 _ A16.out).mono ?_); rintro e w21 ⟨rfl, hb⟩; refine ⟨_, rfl, ?_⟩; have n0_ := Aside0.mk (below_step (by repeat (first | (with_reducible first | exact HB.out | apply below_alloc | apply pw_below_drewN | apply below_drew1) | exact HB.out)) hb); clear HB; have HB := n0_; clear n0_; (try clear hb); (try clear hb2); (try clear hk); (try clear hi)) | ((with_reducible refine gate_callee (f := 30) rfl ?_); refine goesL_ (some 36) rfl rfl Tryd.func30 (by kernel_rfl) rfl #[.string a0] rfl (by (try simp only [List.map_toArray, List.map_cons, List.map_nil]); first | done | rfl | (simp only [List.length_drop, List.length_take]; rfl)) ?_; (with_reducible refine (calamusref04_Count.calls a0 t129 _ A17.out).mono ?_); rintro e w22 ⟨rfl, hb⟩; refine ⟨_, rfl, ?_⟩; have n0_ := Aside0.mk (below_step (by repeat (first | (with_reducible first | exact HB.out | apply below_alloc | apply pw_below_drewN | apply below_drew1) | exact HB.out)) hb); clear HB; have HB := n0_; clear n0_; (try clear hb); (try clear hb2); (try clear hk); (try clear hi)))
        (try simp only [Act.put, List.setIfInBounds_toArray, List.set_cons_zero, List.set_cons_succ])
        go_cut [16] (fun v16 wc => ∃ (kq : Nat) (x16_17 : Int), v16 = .int .i64 x16_17 ∧ Aside0 (calamusref14_Go.j1 kq a0 a1 a2 a3 a4 t126 t127 t128 (wrap64 (t129 - 1)) x16_17 = some (r1, r2)) ∧ Aside0 (kq ≤ kj5) ∧ Aside0 (Below w.heap.size w wc))
        case first =>
          have H := HC18.out
          clear HC18
          by_cases c23 : a3 < 1
          · rw [if_pos c23] at H
            have c23b0 : decide (a3 < 1) = true := decide_eq_true c23
            clear c23
            (first | rw [c23b0] | (simp only [i64_w, i32_w]; rw [c23b0]) | skip)
            have H' := Aside0.mk H
            clear H
            go_wp2
            go_meet
            case rel => exact ⟨_, (1), (by first | rfl | (simp; done) | (simp [*]; done)), H', ⟨by have := HJ5.out; first | omega | exact Nat.le_refl _⟩, ⟨by repeat (first | (with_reducible first | exact HB.out | apply below_alloc | apply pw_below_drewN | apply below_drew1) | exact HB.out)⟩⟩
          · rw [if_neg c23] at H
            have c23b0 : decide (a3 < 1) = false := decide_eq_false c23
            clear c23
            (first | rw [c23b0] | (simp only [i64_w, i32_w]; rw [c23b0]) | skip)
            have H' := Aside0.mk H
            clear H
            go_wp2
            go_meet
            case rel => exact ⟨_, (a3), (by first | rfl | (simp; done) | (simp [*]; done)), H', ⟨by have := HJ5.out; first | omega | exact Nat.le_refl _⟩, ⟨by repeat (first | (with_reducible first | exact HB.out | apply below_alloc | apply pw_below_drewN | apply below_drew1) | exact HB.out)⟩⟩
        case rest =>
          clear HC18
          try clear c1
          try clear c2
          try clear p2
          try clear c3
          try clear c4
          try clear p6
          try clear c8
          try clear c13
          try clear c23
          try clear c23b0
          try clear p2
          obtain ⟨kq, x16_17, rfl, HA, HJ17, HB⟩ := hcut
          cases kq with
          | zero => exact absurd HA.out (by simp [calamusref14_Go.j1])
          | succ kj17 =>
            have H := HA.out
            clear HA
            simp only [calamusref14_Go.j1] at H
            by_cases c24 : a2.toList = ([104] : List UInt8)
            · rw [if_pos c24] at H
              have c24b0 : (a2.toList == ([104] : List UInt8)) = true := beq_iff_eq.mpr c24
              have c24b1 : (a2.toList != ([104] : List UInt8)) = false := bne_eq_false_iff_eq.mpr c24
              clear c24
              by_cases c25 : a1 = t127
              · rw [if_pos c25] at H
                have c25b0 : (a1 == t127) = true := beq_iff_eq.mpr c25
                have c25b1 : (a1 != t127) = false := bne_eq_false_iff_eq.mpr c25
                clear c25
                simp only [Option.some.injEq, Prod.mk.injEq] at H
                obtain ⟨rfl, rfl⟩ := H
                go_wp2
                go_ret2
                exact ⟨by first | rfl | (simp [errW_none, errW_some] <;> rfl) | (simp [*, errW_none, errW_some] <;> rfl), by repeat (first | (with_reducible first | exact HB.out | apply below_alloc | apply pw_below_drewN | apply below_drew1) | exact HB.out)⟩
              · rw [if_neg c25] at H
                have c25b0 : (a1 == t127) = false := beq_eq_false_iff_ne.mpr c25
                have c25b1 : (a1 != t127) = true := bne_iff_ne.mpr c25
                replace H := Option.bind_eq_some_iff.mp H
                obtain ⟨t130, A260, H⟩ := H
                replace H : ((calamusref04_Column.f a0 a1).bind fun t131 => ((calamusref14_least.f x16_17 t131).bind fun t132 => ((calamusref04_At.f a0 t126 (wrap64 (t130 - t132))).bind fun t133 => (some (t133, true))))) = some (r1, r2) := H
                have A26 := Aside0.mk A260
                clear A260
                replace H := Option.bind_eq_some_iff.mp H
                obtain ⟨t131, A270, H⟩ := H
                replace H : ((calamusref14_least.f x16_17 t131).bind fun t132 => ((calamusref04_At.f a0 t126 (wrap64 (t130 - t132))).bind fun t133 => (some (t133, true)))) = some (r1, r2) := H
                have A27 := Aside0.mk A270
                clear A270
                replace H := Option.bind_eq_some_iff.mp H
                obtain ⟨t132, A280, H⟩ := H
                replace H : ((calamusref04_At.f a0 t126 (wrap64 (t130 - t132))).bind fun t133 => (some (t133, true))) = some (r1, r2) := H
                have A28 := Aside0.mk A280
                clear A280
                replace H := Option.bind_eq_some_iff.mp H
                obtain ⟨t133, A290, H⟩ := H
                replace H : (some (t133, true)) = some (r1, r2) := H
                have A29 := Aside0.mk A290
                clear A290
                simp only [Option.some.injEq, Prod.mk.injEq] at H
                obtain ⟨rfl, rfl⟩ := H
                go_wp2_with (first | ((with_reducible refine gate_callee (f := 42) rfl ?_); refine goesL_ (some 51) rfl rfl Tryd.func42 (by kernel_rfl) rfl #[.string a0, .int .i64 a1] rfl (by (try simp only [List.map_toArray, List.map_cons, List.map_nil]); first | done | rfl | (simp only [List.length_drop, List.length_take]; rfl)) ?_; (with_reducible refine (calamusref04_Column.calls a0 a1 t130 _ A26.out).mono ?_); rintro e w30 ⟨rfl, hb⟩; refine ⟨_, rfl, ?_⟩; have n0_ := Aside0.mk (below_step (by repeat (first | (with_reducible first | exact HB.out | apply below_alloc | apply pw_below_drewN | apply below_drew1) | exact HB.out)) hb); clear HB; have HB := n0_; clear n0_; (try clear hb); (try clear hb2); (try clear hk); (try clear hi)) | ((with_reducible refine gate_callee (f := 42) rfl ?_); refine goesL_ (some 55) rfl rfl Tryd.func42 (by kernel_rfl) rfl #[.string a0, .int .i64 a1] rfl (by (try simp only [List.map_toArray, List.map_cons, List.map_nil]); first | done | rfl | (simp only [List.length_drop, List.length_take]; rfl)) ?_; (with_reducible refine (calamusref04_Column.calls a0 a1 t131 _ A27.out).mono ?_); rintro e w31 ⟨rfl, hb⟩; refine ⟨_, rfl, ?_⟩; have n0_ := Aside0.mk (below_step (by repeat (first | (with_reducible first | exact HB.out | apply below_alloc | apply pw_below_drewN | apply below_drew1) | exact HB.out)) hb); clear HB; have HB := n0_; clear n0_; (try clear hb); (try clear hb2); (try clear hk); (try clear hi)) | ((with_reducible refine gate_callee (f := 43) rfl ?_); refine goesL_ (some 56) rfl rfl Tryd.func43 (by kernel_rfl) rfl #[.int .i64 x16_17, .int .i64 t131] rfl (by (try simp only [List.map_toArray, List.map_cons, List.map_nil]); first | done | rfl | (simp only [List.length_drop, List.length_take]; rfl)) ?_; (with_reducible refine (calamusref14_least.calls x16_17 t131 t132 _ A28.out).mono ?_); rintro e w' ⟨rfl, ⟨nd, rfl⟩⟩; refine ⟨_, rfl, ?_⟩) | ((with_reducible refine gate_callee (f := 41) rfl ?_); refine goesL_ (some 58) rfl rfl Tryd.func41 (by kernel_rfl) rfl #[.string a0, .int .i64 t126, .int .i64 (wrap64 (t130 - t132))] rfl (by (try simp only [List.map_toArray, List.map_cons, List.map_nil]); first | done | rfl | (simp only [List.length_drop, List.length_take]; rfl)) ?_; (with_reducible refine (calamusref04_At.calls a0 t126 (wrap64 (t130 - t132)) t133 _ A29.out).mono ?_); rintro e w32 ⟨rfl, hb⟩; refine ⟨_, rfl, ?_⟩; have n0_ := Aside0.mk (below_step (by repeat (first | (with_reducible first | exact HB.out | apply below_alloc | apply pw_below_drewN | apply below_drew1) | exact HB.out)) hb); clear HB; have HB := n0_; clear n0_; (try clear hb); (try clear hb2); (try clear hk); (try clear hi)))
                go_ret2
                exact ⟨by first | rfl | (simp [errW_none, errW_some] <;> rfl) | (simp [*, errW_none, errW_some] <;> rfl), by repeat (first | (with_reducible first | exact HB.out | apply below_alloc | apply pw_below_drewN | apply below_drew1) | exact HB.out)⟩
            · rw [if_neg c24] at H
              have c24b0 : (a2.toList == ([104] : List UInt8)) = false := beq_eq_false_iff_ne.mpr c24
              have c24b1 : (a2.toList != ([104] : List UInt8)) = true := bne_iff_ne.mpr c24
              by_cases c33 : a2.toList = ([108] : List UInt8)
              · rw [if_pos c33] at H
                have c33b0 : (a2.toList == ([108] : List UInt8)) = true := beq_iff_eq.mpr c33
                have c33b1 : (a2.toList != ([108] : List UInt8)) = false := bne_eq_false_iff_eq.mpr c33
                clear c33
                by_cases c34 : a1 = t128
                · rw [if_pos c34] at H
                  have c34b0 : (a1 == t128) = true := beq_iff_eq.mpr c34
                  have c34b1 : (a1 != t128) = false := bne_eq_false_iff_eq.mpr c34
                  clear c34
                  simp only [Option.some.injEq, Prod.mk.injEq] at H
                  obtain ⟨rfl, rfl⟩ := H
                  go_wp2
                  go_ret2
                  exact ⟨by first | rfl | (simp [errW_none, errW_some] <;> rfl) | (simp [*, errW_none, errW_some] <;> rfl), by repeat (first | (with_reducible first | exact HB.out | apply below_alloc | apply pw_below_drewN | apply below_drew1) | exact HB.out)⟩
                · rw [if_neg c34] at H
                  have c34b0 : (a1 == t128) = false := beq_eq_false_iff_ne.mpr c34
                  have c34b1 : (a1 != t128) = true := bne_iff_ne.mpr c34
                  replace H := Option.bind_eq_some_iff.mp H
                  obtain ⟨t134, A350, H⟩ := H
                  replace H : ((calamusref14_least.f x16_17 (a0.size : Int)).bind fun t135 => ((calamusref04_At.f a0 t126 (wrap64 (t134 + t135))).bind fun t136 => (some (t136, true)))) = some (r1, r2) := H
                  have A35 := Aside0.mk A350
                  clear A350
                  replace H := Option.bind_eq_some_iff.mp H
                  obtain ⟨t135, A360, H⟩ := H
                  replace H : ((calamusref04_At.f a0 t126 (wrap64 (t134 + t135))).bind fun t136 => (some (t136, true))) = some (r1, r2) := H
                  have A36 := Aside0.mk A360
                  clear A360
                  replace H := Option.bind_eq_some_iff.mp H
                  obtain ⟨t136, A370, H⟩ := H
                  replace H : (some (t136, true)) = some (r1, r2) := H
                  have A37 := Aside0.mk A370
                  clear A370
                  simp only [Option.some.injEq, Prod.mk.injEq] at H
                  obtain ⟨rfl, rfl⟩ := H
                  go_wp2_with (first | ((with_reducible refine gate_callee (f := 42) rfl ?_); refine goesL_ (some 68) rfl rfl Tryd.func42 (by kernel_rfl) rfl #[.string a0, .int .i64 a1] rfl (by (try simp only [List.map_toArray, List.map_cons, List.map_nil]); first | done | rfl | (simp only [List.length_drop, List.length_take]; rfl)) ?_; (with_reducible refine (calamusref04_Column.calls a0 a1 t134 _ A35.out).mono ?_); rintro e w38 ⟨rfl, hb⟩; refine ⟨_, rfl, ?_⟩; have n0_ := Aside0.mk (below_step (by repeat (first | (with_reducible first | exact HB.out | apply below_alloc | apply pw_below_drewN | apply below_drew1) | exact HB.out)) hb); clear HB; have HB := n0_; clear n0_; (try clear hb); (try clear hb2); (try clear hk); (try clear hi)) | ((with_reducible refine gate_callee (f := 43) rfl ?_); refine goesL_ (some 72) rfl rfl Tryd.func43 (by kernel_rfl) rfl #[.int .i64 x16_17, .int .i64 (a0.size : Int)] rfl (by (try simp only [List.map_toArray, List.map_cons, List.map_nil]); first | done | rfl | (simp only [List.length_drop, List.length_take]; rfl)) ?_; (with_reducible refine (calamusref14_least.calls x16_17 (a0.size : Int) t135 _ A36.out).mono ?_); rintro e w' ⟨rfl, ⟨nd, rfl⟩⟩; refine ⟨_, rfl, ?_⟩) | ((with_reducible refine gate_callee (f := 41) rfl ?_); refine goesL_ (some 74) rfl rfl Tryd.func41 (by kernel_rfl) rfl #[.string a0, .int .i64 t126, .int .i64 (wrap64 (t134 + t135))] rfl (by (try simp only [List.map_toArray, List.map_cons, List.map_nil]); first | done | rfl | (simp only [List.length_drop, List.length_take]; rfl)) ?_; (with_reducible refine (calamusref04_At.calls a0 t126 (wrap64 (t134 + t135)) t136 _ A37.out).mono ?_); rintro e w39 ⟨rfl, hb⟩; refine ⟨_, rfl, ?_⟩; have n0_ := Aside0.mk (below_step (by repeat (first | (with_reducible first | exact HB.out | apply below_alloc | apply pw_below_drewN | apply below_drew1) | exact HB.out)) hb); clear HB; have HB := n0_; clear n0_; (try clear hb); (try clear hb2); (try clear hk); (try clear hi)))
                  go_ret2
                  exact ⟨by first | rfl | (simp [errW_none, errW_some] <;> rfl) | (simp [*, errW_none, errW_some] <;> rfl), by repeat (first | (with_reducible first | exact HB.out | apply below_alloc | apply pw_below_drewN | apply below_drew1) | exact HB.out)⟩
              · rw [if_neg c33] at H
                have c33b0 : (a2.toList == ([108] : List UInt8)) = false := beq_eq_false_iff_ne.mpr c33
                have c33b1 : (a2.toList != ([108] : List UInt8)) = true := bne_iff_ne.mpr c33
                by_cases c40 : a2.toList = ([48] : List UInt8)
                · rw [if_pos c40] at H
                  have c40b0 : (a2.toList == ([48] : List UInt8)) = true := beq_iff_eq.mpr c40
                  have c40b1 : (a2.toList != ([48] : List UInt8)) = false := bne_eq_false_iff_eq.mpr c40
                  clear c40
                  simp only [Option.some.injEq, Prod.mk.injEq] at H
                  obtain ⟨rfl, rfl⟩ := H
                  go_wp2
                  go_ret2
                  exact ⟨by first | rfl | (simp [errW_none, errW_some] <;> rfl) | (simp [*, errW_none, errW_some] <;> rfl), by repeat (first | (with_reducible first | exact HB.out | apply below_alloc | apply pw_below_drewN | apply below_drew1) | exact HB.out)⟩
                · rw [if_neg c40] at H
                  have c40b0 : (a2.toList == ([48] : List UInt8)) = false := beq_eq_false_iff_ne.mpr c40
                  have c40b1 : (a2.toList != ([48] : List UInt8)) = true := bne_iff_ne.mpr c40
                  by_cases c41 : a2.toList = ([94] : List UInt8)
                  · rw [if_pos c41] at H
                    have c41b0 : (a2.toList == ([94] : List UInt8)) = true := beq_iff_eq.mpr c41
                    have c41b1 : (a2.toList != ([94] : List UInt8)) = false := bne_eq_false_iff_eq.mpr c41
                    clear c41
                    replace H := Option.bind_eq_some_iff.mp H
                    obtain ⟨t137, A420, H⟩ := H
                    replace H : (some (t137, true)) = some (r1, r2) := H
                    have A42 := Aside0.mk A420
                    clear A420
                    simp only [Option.some.injEq, Prod.mk.injEq] at H
                    obtain ⟨rfl, rfl⟩ := H
                    go_wp2_with (first | ((with_reducible refine gate_callee (f := 44) rfl ?_); refine goesL_ (some 82) rfl rfl Tryd.func44 (by kernel_rfl) rfl #[.string a0, .int .i64 t126] rfl (by (try simp only [List.map_toArray, List.map_cons, List.map_nil]); first | done | rfl | (simp only [List.length_drop, List.length_take]; rfl)) ?_; (with_reducible refine (calamusref04_First.calls kj17 a0 t126 t137 _ A42.out).mono ?_); rintro e w43 ⟨rfl, hb⟩; refine ⟨_, rfl, ?_⟩; have n0_ := Aside0.mk (below_step (by repeat (first | (with_reducible first | exact HB.out | apply below_alloc | apply pw_below_drewN | apply below_drew1) | exact HB.out)) hb); clear HB; have HB := n0_; clear n0_; (try clear hb); (try clear hb2); (try clear hk); (try clear hi)))
                    go_ret2
                    exact ⟨by first | rfl | (simp [errW_none, errW_some] <;> rfl) | (simp [*, errW_none, errW_some] <;> rfl), by repeat (first | (with_reducible first | exact HB.out | apply below_alloc | apply pw_below_drewN | apply below_drew1) | exact HB.out)⟩
                  · rw [if_neg c41] at H
                    have c41b0 : (a2.toList == ([94] : List UInt8)) = false := beq_eq_false_iff_ne.mpr c41
                    have c41b1 : (a2.toList != ([94] : List UInt8)) = true := bne_iff_ne.mpr c41
                    by_cases c44 : a2.toList = ([36] : List UInt8)
                    · rw [if_pos c44] at H
                      have c44b0 : (a2.toList == ([36] : List UInt8)) = true := beq_iff_eq.mpr c44
                      have c44b1 : (a2.toList != ([36] : List UInt8)) = false := bne_eq_false_iff_eq.mpr c44
                      clear c44
                      by_cases c45 : (wrap64 (x16_17 - 1)) > (wrap64 ((wrap64 (t129 - 1)) - t126))
                      · rw [if_pos c45] at H
                        have c45b0 : decide ((wrap64 ((wrap64 (t129 - 1)) - t126)) < (wrap64 (x16_17 - 1))) = true := decide_eq_true c45
                        clear c45
                        simp only [Option.some.injEq, Prod.mk.injEq] at H
                        obtain ⟨rfl, rfl⟩ := H
                        go_wp2
                        go_ret2
                        exact ⟨by first | rfl | (simp [errW_none, errW_some] <;> rfl) | (simp [*, errW_none, errW_some] <;> rfl), by repeat (first | (with_reducible first | exact HB.out | apply below_alloc | apply pw_below_drewN | apply below_drew1) | exact HB.out)⟩
                      · rw [if_neg c45] at H
                        have c45b0 : decide ((wrap64 ((wrap64 (t129 - 1)) - t126)) < (wrap64 (x16_17 - 1))) = false := decide_eq_false c45
                        clear c45
                        replace H := Option.bind_eq_some_iff.mp H
                        obtain ⟨t138, A460, H⟩ := H
                        replace H : (some (t138, true)) = some (r1, r2) := H
                        have A46 := Aside0.mk A460
                        clear A460
                        simp only [Option.some.injEq, Prod.mk.injEq] at H
                        obtain ⟨rfl, rfl⟩ := H
                        go_wp2_with (first | ((with_reducible refine gate_callee (f := 40) rfl ?_); refine goesL_ (some 96) rfl rfl Tryd.func40 (by kernel_rfl) rfl #[.string a0, .int .i64 (wrap64 ((wrap64 (t126 + x16_17)) - 1))] rfl (by (try simp only [List.map_toArray, List.map_cons, List.map_nil]); first | done | rfl | (simp only [List.length_drop, List.length_take]; rfl)) ?_; (with_reducible refine (calamusref04_End.calls a0 (wrap64 ((wrap64 (t126 + x16_17)) - 1)) t138 _ A46.out).mono ?_); rintro e w47 ⟨rfl, hb⟩; refine ⟨_, rfl, ?_⟩; have n0_ := Aside0.mk (below_step (by repeat (first | (with_reducible first | exact HB.out | apply below_alloc | apply pw_below_drewN | apply below_drew1) | exact HB.out)) hb); clear HB; have HB := n0_; clear n0_; (try clear hb); (try clear hb2); (try clear hk); (try clear hi)))
                        go_ret2
                        exact ⟨by first | rfl | (simp [errW_none, errW_some] <;> rfl) | (simp [*, errW_none, errW_some] <;> rfl), by repeat (first | (with_reducible first | exact HB.out | apply below_alloc | apply pw_below_drewN | apply below_drew1) | exact HB.out)⟩
                    · rw [if_neg c44] at H
                      have c44b0 : (a2.toList == ([36] : List UInt8)) = false := beq_eq_false_iff_ne.mpr c44
                      have c44b1 : (a2.toList != ([36] : List UInt8)) = true := bne_iff_ne.mpr c44
                      by_cases c48 : a2.toList = ([124] : List UInt8)
                      · rw [if_pos c48] at H
                        have c48b0 : (a2.toList == ([124] : List UInt8)) = true := beq_iff_eq.mpr c48
                        have c48b1 : (a2.toList != ([124] : List UInt8)) = false := bne_eq_false_iff_eq.mpr c48
                        clear c48
                        replace H := Option.bind_eq_some_iff.mp H
                        obtain ⟨t139, A490, H⟩ := H
                        replace H : (some (t139, true)) = some (r1, r2) := H
                        have A49 := Aside0.mk A490
                        clear A490
                        simp only [Option.some.injEq, Prod.mk.injEq] at H
                        obtain ⟨rfl, rfl⟩ := H
                        go_wp2_with (first | ((with_reducible refine gate_callee (f := 41) rfl ?_); refine goesL_ (some 103) rfl rfl Tryd.func41 (by kernel_rfl) rfl #[.string a0, .int .i64 t126, .int .i64 (wrap64 (x16_17 - 1))] rfl (by (try simp only [List.map_toArray, List.map_cons, List.map_nil]); first | done | rfl | (simp only [List.length_drop, List.length_take]; rfl)) ?_; (with_reducible refine (calamusref04_At.calls a0 t126 (wrap64 (x16_17 - 1)) t139 _ A49.out).mono ?_); rintro e w50 ⟨rfl, hb⟩; refine ⟨_, rfl, ?_⟩; have n0_ := Aside0.mk (below_step (by repeat (first | (with_reducible first | exact HB.out | apply below_alloc | apply pw_below_drewN | apply below_drew1) | exact HB.out)) hb); clear HB; have HB := n0_; clear n0_; (try clear hb); (try clear hb2); (try clear hk); (try clear hi)))
                        go_ret2
                        exact ⟨by first | rfl | (simp [errW_none, errW_some] <;> rfl) | (simp [*, errW_none, errW_some] <;> rfl), by repeat (first | (with_reducible first | exact HB.out | apply below_alloc | apply pw_below_drewN | apply below_drew1) | exact HB.out)⟩
                      · rw [if_neg c48] at H
                        have c48b0 : (a2.toList == ([124] : List UInt8)) = false := beq_eq_false_iff_ne.mpr c48
                        have c48b1 : (a2.toList != ([124] : List UInt8)) = true := bne_iff_ne.mpr c48
                        by_cases c51 : a2.toList = ([106] : List UInt8)
                        · rw [if_pos c51] at H
                          have c51b0 : (a2.toList == ([106] : List UInt8)) = true := beq_iff_eq.mpr c51
                          have c51b1 : (a2.toList != ([106] : List UInt8)) = false := bne_eq_false_iff_eq.mpr c51
                          clear c51
                          by_cases c52 : t126 = (wrap64 (t129 - 1))
                          · rw [if_pos c52] at H
                            have c52b0 : (t126 == (wrap64 (t129 - 1))) = true := beq_iff_eq.mpr c52
                            have c52b1 : (t126 != (wrap64 (t129 - 1))) = false := bne_eq_false_iff_eq.mpr c52
                            clear c52
                            simp only [Option.some.injEq, Prod.mk.injEq] at H
                            obtain ⟨rfl, rfl⟩ := H
                            go_wp2
                            go_ret2
                            exact ⟨by first | rfl | (simp [errW_none, errW_some] <;> rfl) | (simp [*, errW_none, errW_some] <;> rfl), by repeat (first | (with_reducible first | exact HB.out | apply below_alloc | apply pw_below_drewN | apply below_drew1) | exact HB.out)⟩
                          · rw [if_neg c52] at H
                            have c52b0 : (t126 == (wrap64 (t129 - 1))) = false := beq_eq_false_iff_ne.mpr c52
                            have c52b1 : (t126 != (wrap64 (t129 - 1))) = true := bne_iff_ne.mpr c52
                            replace H := Option.bind_eq_some_iff.mp H
                            obtain ⟨t140, A530, H⟩ := H
                            replace H : ((calamusref04_At.f a0 (wrap64 (t126 + t140)) a4).bind fun t141 => (some (t141, true))) = some (r1, r2) := H
                            have A53 := Aside0.mk A530
                            clear A530
                            replace H := Option.bind_eq_some_iff.mp H
                            obtain ⟨t141, A540, H⟩ := H
                            replace H : (some (t141, true)) = some (r1, r2) := H
                            have A54 := Aside0.mk A540
                            clear A540
                            simp only [Option.some.injEq, Prod.mk.injEq] at H
                            obtain ⟨rfl, rfl⟩ := H
                            go_wp2_with (first | ((with_reducible refine gate_callee (f := 43) rfl ?_); refine goesL_ (some 115) rfl rfl Tryd.func43 (by kernel_rfl) rfl #[.int .i64 x16_17, .int .i64 (wrap64 ((wrap64 (t129 - 1)) - t126))] rfl (by (try simp only [List.map_toArray, List.map_cons, List.map_nil]); first | done | rfl | (simp only [List.length_drop, List.length_take]; rfl)) ?_; (with_reducible refine (calamusref14_least.calls x16_17 (wrap64 ((wrap64 (t129 - 1)) - t126)) t140 _ A53.out).mono ?_); rintro e w' ⟨rfl, ⟨nd, rfl⟩⟩; refine ⟨_, rfl, ?_⟩) | ((with_reducible refine gate_callee (f := 41) rfl ?_); refine goesL_ (some 118) rfl rfl Tryd.func41 (by kernel_rfl) rfl #[.string a0, .int .i64 (wrap64 (t126 + t140)), .int .i64 a4] rfl (by (try simp only [List.map_toArray, List.map_cons, List.map_nil]); first | done | rfl | (simp only [List.length_drop, List.length_take]; rfl)) ?_; (with_reducible refine (calamusref04_At.calls a0 (wrap64 (t126 + t140)) a4 t141 _ A54.out).mono ?_); rintro e w55 ⟨rfl, hb⟩; refine ⟨_, rfl, ?_⟩; have n0_ := Aside0.mk (below_step (by repeat (first | (with_reducible first | exact HB.out | apply below_alloc | apply pw_below_drewN | apply below_drew1) | exact HB.out)) hb); clear HB; have HB := n0_; clear n0_; (try clear hb); (try clear hb2); (try clear hk); (try clear hi)))
                            go_ret2
                            exact ⟨by first | rfl | (simp [errW_none, errW_some] <;> rfl) | (simp [*, errW_none, errW_some] <;> rfl), by repeat (first | (with_reducible first | exact HB.out | apply below_alloc | apply pw_below_drewN | apply below_drew1) | exact HB.out)⟩
                        · rw [if_neg c51] at H
                          have c51b0 : (a2.toList == ([106] : List UInt8)) = false := beq_eq_false_iff_ne.mpr c51
                          have c51b1 : (a2.toList != ([106] : List UInt8)) = true := bne_iff_ne.mpr c51
                          by_cases c56 : a2.toList = ([107] : List UInt8)
                          · rw [if_pos c56] at H
                            have c56b0 : (a2.toList == ([107] : List UInt8)) = true := beq_iff_eq.mpr c56
                            have c56b1 : (a2.toList != ([107] : List UInt8)) = false := bne_eq_false_iff_eq.mpr c56
                            clear c56
                            by_cases c57 : t126 = 0
                            · rw [if_pos c57] at H
                              have c57b0 : (t126 == 0) = true := beq_iff_eq.mpr c57
                              have c57b1 : (t126 != 0) = false := bne_eq_false_iff_eq.mpr c57
                              clear c57
                              simp only [Option.some.injEq, Prod.mk.injEq] at H
                              obtain ⟨rfl, rfl⟩ := H
                              go_wp2
                              go_ret2
                              exact ⟨by first | rfl | (simp [errW_none, errW_some] <;> rfl) | (simp [*, errW_none, errW_some] <;> rfl), by repeat (first | (with_reducible first | exact HB.out | apply below_alloc | apply pw_below_drewN | apply below_drew1) | exact HB.out)⟩
                            · rw [if_neg c57] at H
                              have c57b0 : (t126 == 0) = false := beq_eq_false_iff_ne.mpr c57
                              have c57b1 : (t126 != 0) = true := bne_iff_ne.mpr c57
                              replace H := Option.bind_eq_some_iff.mp H
                              obtain ⟨t142, A580, H⟩ := H
                              replace H : ((calamusref04_At.f a0 (wrap64 (t126 - t142)) a4).bind fun t143 => (some (t143, true))) = some (r1, r2) := H
                              have A58 := Aside0.mk A580
                              clear A580
                              replace H := Option.bind_eq_some_iff.mp H
                              obtain ⟨t143, A590, H⟩ := H
                              replace H : (some (t143, true)) = some (r1, r2) := H
                              have A59 := Aside0.mk A590
                              clear A590
                              simp only [Option.some.injEq, Prod.mk.injEq] at H
                              obtain ⟨rfl, rfl⟩ := H
                              go_wp2_with (first | ((with_reducible refine gate_callee (f := 43) rfl ?_); refine goesL_ (some 127) rfl rfl Tryd.func43 (by kernel_rfl) rfl #[.int .i64 x16_17, .int .i64 t126] rfl (by (try simp only [List.map_toArray, List.map_cons, List.map_nil]); first | done | rfl | (simp only [List.length_drop, List.length_take]; rfl)) ?_; (with_reducible refine (calamusref14_least.calls x16_17 t126 t142 _ A58.out).mono ?_); rintro e w' ⟨rfl, ⟨nd, rfl⟩⟩; refine ⟨_, rfl, ?_⟩) | ((with_reducible refine gate_callee (f := 41) rfl ?_); refine goesL_ (some 130) rfl rfl Tryd.func41 (by kernel_rfl) rfl #[.string a0, .int .i64 (wrap64 (t126 - t142)), .int .i64 a4] rfl (by (try simp only [List.map_toArray, List.map_cons, List.map_nil]); first | done | rfl | (simp only [List.length_drop, List.length_take]; rfl)) ?_; (with_reducible refine (calamusref04_At.calls a0 (wrap64 (t126 - t142)) a4 t143 _ A59.out).mono ?_); rintro e w60 ⟨rfl, hb⟩; refine ⟨_, rfl, ?_⟩; have n0_ := Aside0.mk (below_step (by repeat (first | (with_reducible first | exact HB.out | apply below_alloc | apply pw_below_drewN | apply below_drew1) | exact HB.out)) hb); clear HB; have HB := n0_; clear n0_; (try clear hb); (try clear hb2); (try clear hk); (try clear hi)))
                              go_ret2
                              exact ⟨by first | rfl | (simp [errW_none, errW_some] <;> rfl) | (simp [*, errW_none, errW_some] <;> rfl), by repeat (first | (with_reducible first | exact HB.out | apply below_alloc | apply pw_below_drewN | apply below_drew1) | exact HB.out)⟩
                          · rw [if_neg c56] at H
                            have c56b0 : (a2.toList == ([107] : List UInt8)) = false := beq_eq_false_iff_ne.mpr c56
                            have c56b1 : (a2.toList != ([107] : List UInt8)) = true := bne_iff_ne.mpr c56
                            by_cases c61 : a2.toList = ([71] : List UInt8)
                            · rw [if_pos c61] at H
                              have c61b0 : (a2.toList == ([71] : List UInt8)) = true := beq_iff_eq.mpr c61
                              have c61b1 : (a2.toList != ([71] : List UInt8)) = false := bne_eq_false_iff_eq.mpr c61
                              clear c61
                              by_cases c62 : a3 < 1
                              · rw [if_pos c62] at H
                                have c62b0 : decide (a3 < 1) = true := decide_eq_true c62
                                clear c62
                                replace H := Option.bind_eq_some_iff.mp H
                                obtain ⟨t144, A630, H⟩ := H
                                replace H : ((calamusref04_First.f kj17 a0 t144).bind fun t145 => (some (t145, true))) = some (r1, r2) := H
                                have A63 := Aside0.mk A630
                                clear A630
                                replace H := Option.bind_eq_some_iff.mp H
                                obtain ⟨t145, A640, H⟩ := H
                                replace H : (some (t145, true)) = some (r1, r2) := H
                                have A64 := Aside0.mk A640
                                clear A640
                                simp only [Option.some.injEq, Prod.mk.injEq] at H
                                obtain ⟨rfl, rfl⟩ := H
                                go_wp2_with (first | ((with_reducible refine gate_callee (f := 43) rfl ?_); refine goesL_ (some 141) rfl rfl Tryd.func43 (by kernel_rfl) rfl #[.int .i64 (wrap64 ((wrap64 ((wrap64 (t129 - 1)) + 1)) - 1)), .int .i64 (wrap64 (t129 - 1))] rfl (by (try simp only [List.map_toArray, List.map_cons, List.map_nil]); first | done | rfl | (simp only [List.length_drop, List.length_take]; rfl)) ?_; (with_reducible refine (calamusref14_least.calls (wrap64 ((wrap64 ((wrap64 (t129 - 1)) + 1)) - 1)) (wrap64 (t129 - 1)) t144 _ A63.out).mono ?_); rintro e w' ⟨rfl, ⟨nd, rfl⟩⟩; refine ⟨_, rfl, ?_⟩) | ((with_reducible refine gate_callee (f := 44) rfl ?_); refine goesL_ (some 142) rfl rfl Tryd.func44 (by kernel_rfl) rfl #[.string a0, .int .i64 t144] rfl (by (try simp only [List.map_toArray, List.map_cons, List.map_nil]); first | done | rfl | (simp only [List.length_drop, List.length_take]; rfl)) ?_; (with_reducible refine (calamusref04_First.calls kj17 a0 t144 t145 _ A64.out).mono ?_); rintro e w65 ⟨rfl, hb⟩; refine ⟨_, rfl, ?_⟩; have n0_ := Aside0.mk (below_step (by repeat (first | (with_reducible first | exact HB.out | apply below_alloc | apply pw_below_drewN | apply below_drew1) | exact HB.out)) hb); clear HB; have HB := n0_; clear n0_; (try clear hb); (try clear hb2); (try clear hk); (try clear hi)))
                                go_ret2
                                exact ⟨by first | rfl | (simp [errW_none, errW_some] <;> rfl) | (simp [*, errW_none, errW_some] <;> rfl), by repeat (first | (with_reducible first | exact HB.out | apply below_alloc | apply pw_below_drewN | apply below_drew1) | exact HB.out)⟩
                              · rw [if_neg c62] at H
                                have c62b0 : decide (a3 < 1) = false := decide_eq_false c62
                                clear c62
                                replace H := Option.bind_eq_some_iff.mp H
                                obtain ⟨t146, A660, H⟩ := H
                                replace H : ((calamusref04_First.f kj17 a0 t146).bind fun t147 => (some (t147, true))) = some (r1, r2) := H
                                have A66 := Aside0.mk A660
                                clear A660
                                replace H := Option.bind_eq_some_iff.mp H
                                obtain ⟨t147, A670, H⟩ := H
                                replace H : (some (t147, true)) = some (r1, r2) := H
                                have A67 := Aside0.mk A670
                                clear A670
                                simp only [Option.some.injEq, Prod.mk.injEq] at H
                                obtain ⟨rfl, rfl⟩ := H
                                go_wp2_with (first | ((with_reducible refine gate_callee (f := 43) rfl ?_); refine goesL_ (some 141) rfl rfl Tryd.func43 (by kernel_rfl) rfl #[.int .i64 (wrap64 (x16_17 - 1)), .int .i64 (wrap64 (t129 - 1))] rfl (by (try simp only [List.map_toArray, List.map_cons, List.map_nil]); first | done | rfl | (simp only [List.length_drop, List.length_take]; rfl)) ?_; (with_reducible refine (calamusref14_least.calls (wrap64 (x16_17 - 1)) (wrap64 (t129 - 1)) t146 _ A66.out).mono ?_); rintro e w' ⟨rfl, ⟨nd, rfl⟩⟩; refine ⟨_, rfl, ?_⟩) | ((with_reducible refine gate_callee (f := 44) rfl ?_); refine goesL_ (some 142) rfl rfl Tryd.func44 (by kernel_rfl) rfl #[.string a0, .int .i64 t146] rfl (by (try simp only [List.map_toArray, List.map_cons, List.map_nil]); first | done | rfl | (simp only [List.length_drop, List.length_take]; rfl)) ?_; (with_reducible refine (calamusref04_First.calls kj17 a0 t146 t147 _ A67.out).mono ?_); rintro e w68 ⟨rfl, hb⟩; refine ⟨_, rfl, ?_⟩; have n0_ := Aside0.mk (below_step (by repeat (first | (with_reducible first | exact HB.out | apply below_alloc | apply pw_below_drewN | apply below_drew1) | exact HB.out)) hb); clear HB; have HB := n0_; clear n0_; (try clear hb); (try clear hb2); (try clear hk); (try clear hi)))
                                go_ret2
                                exact ⟨by first | rfl | (simp [errW_none, errW_some] <;> rfl) | (simp [*, errW_none, errW_some] <;> rfl), by repeat (first | (with_reducible first | exact HB.out | apply below_alloc | apply pw_below_drewN | apply below_drew1) | exact HB.out)⟩
                            · rw [if_neg c61] at H
                              have c61b0 : (a2.toList == ([71] : List UInt8)) = false := beq_eq_false_iff_ne.mpr c61
                              have c61b1 : (a2.toList != ([71] : List UInt8)) = true := bne_iff_ne.mpr c61
                              replace H := Option.bind_eq_some_iff.mp H
                              obtain ⟨t148, A690, H⟩ := H
                              replace H : ((calamusref04_First.f kj17 a0 t148).bind fun t149 => (some (t149, true))) = some (r1, r2) := H
                              have A69 := Aside0.mk A690
                              clear A690
                              replace H := Option.bind_eq_some_iff.mp H
                              obtain ⟨t149, A700, H⟩ := H
                              replace H : (some (t149, true)) = some (r1, r2) := H
                              have A70 := Aside0.mk A700
                              clear A700
                              simp only [Option.some.injEq, Prod.mk.injEq] at H
                              obtain ⟨rfl, rfl⟩ := H
                              go_wp2_with (first | ((with_reducible refine gate_callee (f := 43) rfl ?_); refine goesL_ (some 141) rfl rfl Tryd.func43 (by kernel_rfl) rfl #[.int .i64 (wrap64 (x16_17 - 1)), .int .i64 (wrap64 (t129 - 1))] rfl (by (try simp only [List.map_toArray, List.map_cons, List.map_nil]); first | done | rfl | (simp only [List.length_drop, List.length_take]; rfl)) ?_; (with_reducible refine (calamusref14_least.calls (wrap64 (x16_17 - 1)) (wrap64 (t129 - 1)) t148 _ A69.out).mono ?_); rintro e w' ⟨rfl, ⟨nd, rfl⟩⟩; refine ⟨_, rfl, ?_⟩) | ((with_reducible refine gate_callee (f := 44) rfl ?_); refine goesL_ (some 142) rfl rfl Tryd.func44 (by kernel_rfl) rfl #[.string a0, .int .i64 t148] rfl (by (try simp only [List.map_toArray, List.map_cons, List.map_nil]); first | done | rfl | (simp only [List.length_drop, List.length_take]; rfl)) ?_; (with_reducible refine (calamusref04_First.calls kj17 a0 t148 t149 _ A70.out).mono ?_); rintro e w71 ⟨rfl, hb⟩; refine ⟨_, rfl, ?_⟩; have n0_ := Aside0.mk (below_step (by repeat (first | (with_reducible first | exact HB.out | apply below_alloc | apply pw_below_drewN | apply below_drew1) | exact HB.out)) hb); clear HB; have HB := n0_; clear n0_; (try clear hb); (try clear hb2); (try clear hk); (try clear hi)))
                              go_ret2
                              exact ⟨by first | rfl | (simp [errW_none, errW_some] <;> rfl) | (simp [*, errW_none, errW_some] <;> rfl), by repeat (first | (with_reducible first | exact HB.out | apply below_alloc | apply pw_below_drewN | apply below_drew1) | exact HB.out)⟩

/-! ### calamuslaw14_MoveGoes -/
def calamuslaw14_MoveGoes.f (k : Nat) (a0 : ByteArray) (a1 : Int) (a2 : ByteArray) (a3 : Int) (a4 : Int) : Option (Bool) := if (a0.size : Int) > 300 then ((calamuslaw14_lives.f).bind fun t150 => (some t150)) else ((move_Go.f a0 a1 a2 a3 a4).bind fun bt151 => ((calamusref14_Go.f k a0 a1 a2 a3 a4).bind fun bt153 => (if bt151.1 = bt153.1 then (if (bt151.2 == bt153.2) = true then ((move_Has.f a2).bind fun t155 => ((calamusref14_Has.f k a2).bind fun t156 => (if (t155 == t156) = true then ((calamuslaw14_lives.f).bind fun t157 => (some t157)) else (some false)))) else (some false)) else (some false))))
theorem calamuslaw14_MoveGoes.mono : ∀ a0 a1 a2 a3 a4 k, LeO (calamuslaw14_MoveGoes.f k a0 a1 a2 a3 a4) (calamuslaw14_MoveGoes.f (k + 1) a0 a1 a2 a3 a4) := by
  intro a0 a1 a2 a3 a4 k
  unfold calamuslaw14_MoveGoes.f
  repeat' first
      | (with_reducible exact calamusref14_Go.mono _ _ _ _ _ _)
      | (with_reducible exact calamusref14_Has.mono _ _)
      | (with_reducible exact LeO.refl _)
      | (with_reducible exact LeO.none _)
      | (with_reducible refine LeO.ite ?_ ?_)
      | (with_reducible refine LeO.bind ?_ (fun _ => ?_))
      | exact calamusref14_Go.mono _ _ _ _ _ _
      | exact calamusref14_Has.mono _ _
      | exact LeO.none _
      | refine LeO.ite ?_ ?_
      | refine LeO.bind ?_ (fun _ => ?_)
set_option maxHeartbeats 8000000 in
set_option maxRecDepth 100000 in
theorem calamuslaw14_MoveGoes.calls (k : Nat) (a0 : ByteArray) (a1 : Int) (a2 : ByteArray) (a3 : Int) (a4 : Int) (r : Bool) (w : World) (h : calamuslaw14_MoveGoes.f k a0 a1 a2 a3 a4 = some r) :
    Calls Tryd.prog 7 #[.string a0, .int .i64 a1, .string a2, .int .i64 a3, .int .i64 a4] w fun e w' => e = .returned (.bool r) ∧ Below w.heap.size w w' := by
  have HB := Aside0.mk (Below.refl w.heap.size w)
  have H : (if (a0.size : Int) > 300 then ((calamuslaw14_lives.f).bind fun t150 => (some t150)) else ((move_Go.f a0 a1 a2 a3 a4).bind fun bt151 => ((calamusref14_Go.f k a0 a1 a2 a3 a4).bind fun bt153 => (if bt151.1 = bt153.1 then (if (bt151.2 == bt153.2) = true then ((move_Has.f a2).bind fun t155 => ((calamusref14_Has.f k a2).bind fun t156 => (if (t155 == t156) = true then ((calamuslaw14_lives.f).bind fun t157 => (some t157)) else (some false)))) else (some false)) else (some false))))) = some r := h
  clear h
  by_cases c6 : (a0.size : Int) > 300
  · rw [if_pos c6] at H
    have c6b0 : decide (300 < (a0.size : Int)) = true := decide_eq_true c6
    have c6b1 : decide (300 < a0.size) = true := decide_eq_true (by omega)
    clear c6
    replace H := Option.bind_eq_some_iff.mp H
    obtain ⟨t150, A70, H⟩ := H
    replace H : (some t150) = some r := H
    have A7 := Aside0.mk A70
    clear A70
    obtain rfl := Option.some.inj H
    go_enter Tryd.func7, Tryd.ntmps7
    go_wp2_with (first | ((with_reducible refine gate_callee (f := 21) rfl ?_); refine goesL_ (some 18) rfl rfl Tryd.func21 (by kernel_rfl) rfl #[] rfl (by (try simp only [List.map_toArray, List.map_cons, List.map_nil]); first | done | rfl | (simp only [List.length_drop, List.length_take]; rfl)) ?_; (with_reducible refine (calamuslaw14_lives.calls  t150 _ A7.out).mono ?_); rintro e w8 ⟨rfl, hb⟩; refine ⟨_, rfl, ?_⟩; have n0_ := Aside0.mk (below_step (by repeat (first | (with_reducible first | exact HB.out | apply below_alloc | apply pw_below_drewN | apply below_drew1) | exact HB.out)) hb); clear HB; have HB := n0_; clear n0_; (try clear hb); (try clear hb2); (try clear hk); (try clear hi)))
    go_ret
    exact ⟨by first | rfl | (simp [errW_none, errW_some] <;> rfl) | (simp [*, errW_none, errW_some] <;> rfl), by repeat (first | (with_reducible first | exact HB.out | apply below_alloc | apply pw_below_drewN | apply below_drew1) | exact HB.out)⟩
  · rw [if_neg c6] at H
    have c6b0 : decide (300 < (a0.size : Int)) = false := decide_eq_false c6
    have c6b1 : decide (300 < a0.size) = false := decide_eq_false (by omega)
    clear c6
    replace H := Option.bind_eq_some_iff.mp H
    obtain ⟨⟨t151, t152⟩, A90, H⟩ := H
    replace H : ((calamusref14_Go.f k a0 a1 a2 a3 a4).bind fun bt153 => (if t151 = bt153.1 then (if (t152 == bt153.2) = true then ((move_Has.f a2).bind fun t155 => ((calamusref14_Has.f k a2).bind fun t156 => (if (t155 == t156) = true then ((calamuslaw14_lives.f).bind fun t157 => (some t157)) else (some false)))) else (some false)) else (some false))) = some r := H
    have A9 := Aside0.mk A90
    clear A90
    replace H := Option.bind_eq_some_iff.mp H
    obtain ⟨⟨t153, t154⟩, A100, H⟩ := H
    replace H : (if t151 = t153 then (if (t152 == t154) = true then ((move_Has.f a2).bind fun t155 => ((calamusref14_Has.f k a2).bind fun t156 => (if (t155 == t156) = true then ((calamuslaw14_lives.f).bind fun t157 => (some t157)) else (some false)))) else (some false)) else (some false)) = some r := H
    have A10 := Aside0.mk A100
    clear A100
    by_cases c11 : t151 = t153
    · rw [if_pos c11] at H
      have c11b0 : (t151 == t153) = true := beq_iff_eq.mpr c11
      have c11b1 : (t151 != t153) = false := bne_eq_false_iff_eq.mpr c11
      clear c11
      by_cases c12 : (t152 == t154) = true
      · rw [if_pos c12] at H
        have c12b0 : (t152 == t154) = true := c12
        (try (have c12b1 : decide (t152 = t154) = true := by simpa using c12))
        (try (have c12b2 : (t152 == t154) = true := by simpa using c12))
        clear c12
        replace H := Option.bind_eq_some_iff.mp H
        obtain ⟨t155, A130, H⟩ := H
        replace H : ((calamusref14_Has.f k a2).bind fun t156 => (if (t155 == t156) = true then ((calamuslaw14_lives.f).bind fun t157 => (some t157)) else (some false))) = some r := H
        have A13 := Aside0.mk A130
        clear A130
        replace H := Option.bind_eq_some_iff.mp H
        obtain ⟨t156, A140, H⟩ := H
        replace H : (if (t155 == t156) = true then ((calamuslaw14_lives.f).bind fun t157 => (some t157)) else (some false)) = some r := H
        have A14 := Aside0.mk A140
        clear A140
        by_cases c15 : (t155 == t156) = true
        · rw [if_pos c15] at H
          have c15b0 : (t155 == t156) = true := c15
          (try (have c15b1 : decide (t155 = t156) = true := by simpa using c15))
          (try (have c15b2 : (t155 == t156) = true := by simpa using c15))
          clear c15
          replace H := Option.bind_eq_some_iff.mp H
          obtain ⟨t157, A160, H⟩ := H
          replace H : (some t157) = some r := H
          have A16 := Aside0.mk A160
          clear A160
          obtain rfl := Option.some.inj H
          go_enter Tryd.func7, Tryd.ntmps7
          go_wp2_with (first | ((with_reducible refine gate_callee (f := 22) rfl ?_); refine goesL_ (some 25) rfl rfl Tryd.func22 (by kernel_rfl) rfl #[.string a0, .int .i64 a1, .string a2, .int .i64 a3, .int .i64 a4] rfl (by (try simp only [List.map_toArray, List.map_cons, List.map_nil]); first | done | rfl | (simp only [List.length_drop, List.length_take]; rfl)) ?_; (with_reducible refine (move_Go.calls a0 a1 a2 a3 a4 t151 t152 _ A9.out).mono ?_); rintro e w17 ⟨rfl, hb⟩; refine ⟨_, rfl, ?_⟩; have n0_ := Aside0.mk (below_step (by repeat (first | (with_reducible first | exact HB.out | apply below_alloc | apply pw_below_drewN | apply below_drew1) | exact HB.out)) hb); clear HB; have HB := n0_; clear n0_; (try clear hb); (try clear hb2); (try clear hk); (try clear hi)) | ((with_reducible refine gate_callee (f := 23) rfl ?_); refine goesL_ (some 34) rfl rfl Tryd.func23 (by kernel_rfl) rfl #[.string a0, .int .i64 a1, .string a2, .int .i64 a3, .int .i64 a4] rfl (by (try simp only [List.map_toArray, List.map_cons, List.map_nil]); first | done | rfl | (simp only [List.length_drop, List.length_take]; rfl)) ?_; (with_reducible refine (calamusref14_Go.calls k a0 a1 a2 a3 a4 t153 t154 _ A10.out).mono ?_); rintro e w18 ⟨rfl, hb⟩; refine ⟨_, rfl, ?_⟩; have n0_ := Aside0.mk (below_step (by repeat (first | (with_reducible first | exact HB.out | apply below_alloc | apply pw_below_drewN | apply below_drew1) | exact HB.out)) hb); clear HB; have HB := n0_; clear n0_; (try clear hb); (try clear hb2); (try clear hk); (try clear hi)) | (go_at_call 24; (with_reducible refine (move_Has.calls a2 t155 _ A13.out).mono ?_); rintro e w19 ⟨rfl, hb⟩; have n0_ := Aside0.mk (below_step (by repeat (first | (with_reducible first | exact HB.out | apply below_alloc | apply pw_below_drewN | apply below_drew1) | exact HB.out)) hb); clear HB; have HB := n0_; clear n0_; (try clear hb); (try clear hb2); (try clear hk); (try clear hi)) | (go_at_call 25; (with_reducible refine (calamusref14_Has.calls k a2 t156 _ A14.out).mono ?_); rintro e w20 ⟨rfl, hb⟩; have n0_ := Aside0.mk (below_step (by repeat (first | (with_reducible first | exact HB.out | apply below_alloc | apply pw_below_drewN | apply below_drew1) | exact HB.out)) hb); clear HB; have HB := n0_; clear n0_; (try clear hb); (try clear hb2); (try clear hk); (try clear hi)) | (go_at_call 21; (with_reducible refine (calamuslaw14_lives.calls  t157 _ A16.out).mono ?_); rintro e w21 ⟨rfl, hb⟩; have n0_ := Aside0.mk (below_step (by repeat (first | (with_reducible first | exact HB.out | apply below_alloc | apply pw_below_drewN | apply below_drew1) | exact HB.out)) hb); clear HB; have HB := n0_; clear n0_; (try clear hb); (try clear hb2); (try clear hk); (try clear hi)))
          go_ret
          exact ⟨by first | rfl | (simp [errW_none, errW_some] <;> rfl) | (simp [*, errW_none, errW_some] <;> rfl), by repeat (first | (with_reducible first | exact HB.out | apply below_alloc | apply pw_below_drewN | apply below_drew1) | exact HB.out)⟩
        · rw [if_neg c15] at H
          have c15b0 : (t155 == t156) = false := by simpa using c15
          (try (have c15b1 : decide (t155 = t156) = false := by simpa using c15))
          (try (have c15b2 : (t155 == t156) = false := by simpa using c15))
          (try (have c15b3 : ¬ (t155 = t156) := by simpa using c15))
          clear c15
          obtain rfl := Option.some.inj H
          go_enter Tryd.func7, Tryd.ntmps7
          go_wp2_with (first | ((with_reducible refine gate_callee (f := 22) rfl ?_); refine goesL_ (some 25) rfl rfl Tryd.func22 (by kernel_rfl) rfl #[.string a0, .int .i64 a1, .string a2, .int .i64 a3, .int .i64 a4] rfl (by (try simp only [List.map_toArray, List.map_cons, List.map_nil]); first | done | rfl | (simp only [List.length_drop, List.length_take]; rfl)) ?_; (with_reducible refine (move_Go.calls a0 a1 a2 a3 a4 t151 t152 _ A9.out).mono ?_); rintro e w22 ⟨rfl, hb⟩; refine ⟨_, rfl, ?_⟩; have n0_ := Aside0.mk (below_step (by repeat (first | (with_reducible first | exact HB.out | apply below_alloc | apply pw_below_drewN | apply below_drew1) | exact HB.out)) hb); clear HB; have HB := n0_; clear n0_; (try clear hb); (try clear hb2); (try clear hk); (try clear hi)) | ((with_reducible refine gate_callee (f := 23) rfl ?_); refine goesL_ (some 34) rfl rfl Tryd.func23 (by kernel_rfl) rfl #[.string a0, .int .i64 a1, .string a2, .int .i64 a3, .int .i64 a4] rfl (by (try simp only [List.map_toArray, List.map_cons, List.map_nil]); first | done | rfl | (simp only [List.length_drop, List.length_take]; rfl)) ?_; (with_reducible refine (calamusref14_Go.calls k a0 a1 a2 a3 a4 t153 t154 _ A10.out).mono ?_); rintro e w23 ⟨rfl, hb⟩; refine ⟨_, rfl, ?_⟩; have n0_ := Aside0.mk (below_step (by repeat (first | (with_reducible first | exact HB.out | apply below_alloc | apply pw_below_drewN | apply below_drew1) | exact HB.out)) hb); clear HB; have HB := n0_; clear n0_; (try clear hb); (try clear hb2); (try clear hk); (try clear hi)) | (go_at_call 24; (with_reducible refine (move_Has.calls a2 t155 _ A13.out).mono ?_); rintro e w24 ⟨rfl, hb⟩; have n0_ := Aside0.mk (below_step (by repeat (first | (with_reducible first | exact HB.out | apply below_alloc | apply pw_below_drewN | apply below_drew1) | exact HB.out)) hb); clear HB; have HB := n0_; clear n0_; (try clear hb); (try clear hb2); (try clear hk); (try clear hi)) | (go_at_call 25; (with_reducible refine (calamusref14_Has.calls k a2 t156 _ A14.out).mono ?_); rintro e w25 ⟨rfl, hb⟩; have n0_ := Aside0.mk (below_step (by repeat (first | (with_reducible first | exact HB.out | apply below_alloc | apply pw_below_drewN | apply below_drew1) | exact HB.out)) hb); clear HB; have HB := n0_; clear n0_; (try clear hb); (try clear hb2); (try clear hk); (try clear hi)))
          go_ret
          exact ⟨by first | rfl | (simp [errW_none, errW_some] <;> rfl) | (simp [*, errW_none, errW_some] <;> rfl), by repeat (first | (with_reducible first | exact HB.out | apply below_alloc | apply pw_below_drewN | apply below_drew1) | exact HB.out)⟩
      · rw [if_neg c12] at H
        have c12b0 : (t152 == t154) = false := by simpa using c12
        (try (have c12b1 : decide (t152 = t154) = false := by simpa using c12))
        (try (have c12b2 : (t152 == t154) = false := by simpa using c12))
        (try (have c12b3 : ¬ (t152 = t154) := by simpa using c12))
        clear c12
        obtain rfl := Option.some.inj H
        go_enter Tryd.func7, Tryd.ntmps7
        go_wp2_with (first | ((with_reducible refine gate_callee (f := 22) rfl ?_); refine goesL_ (some 25) rfl rfl Tryd.func22 (by kernel_rfl) rfl #[.string a0, .int .i64 a1, .string a2, .int .i64 a3, .int .i64 a4] rfl (by (try simp only [List.map_toArray, List.map_cons, List.map_nil]); first | done | rfl | (simp only [List.length_drop, List.length_take]; rfl)) ?_; (with_reducible refine (move_Go.calls a0 a1 a2 a3 a4 t151 t152 _ A9.out).mono ?_); rintro e w26 ⟨rfl, hb⟩; refine ⟨_, rfl, ?_⟩; have n0_ := Aside0.mk (below_step (by repeat (first | (with_reducible first | exact HB.out | apply below_alloc | apply pw_below_drewN | apply below_drew1) | exact HB.out)) hb); clear HB; have HB := n0_; clear n0_; (try clear hb); (try clear hb2); (try clear hk); (try clear hi)) | ((with_reducible refine gate_callee (f := 23) rfl ?_); refine goesL_ (some 34) rfl rfl Tryd.func23 (by kernel_rfl) rfl #[.string a0, .int .i64 a1, .string a2, .int .i64 a3, .int .i64 a4] rfl (by (try simp only [List.map_toArray, List.map_cons, List.map_nil]); first | done | rfl | (simp only [List.length_drop, List.length_take]; rfl)) ?_; (with_reducible refine (calamusref14_Go.calls k a0 a1 a2 a3 a4 t153 t154 _ A10.out).mono ?_); rintro e w27 ⟨rfl, hb⟩; refine ⟨_, rfl, ?_⟩; have n0_ := Aside0.mk (below_step (by repeat (first | (with_reducible first | exact HB.out | apply below_alloc | apply pw_below_drewN | apply below_drew1) | exact HB.out)) hb); clear HB; have HB := n0_; clear n0_; (try clear hb); (try clear hb2); (try clear hk); (try clear hi)))
        go_ret
        exact ⟨by first | rfl | (simp [errW_none, errW_some] <;> rfl) | (simp [*, errW_none, errW_some] <;> rfl), by repeat (first | (with_reducible first | exact HB.out | apply below_alloc | apply pw_below_drewN | apply below_drew1) | exact HB.out)⟩
    · rw [if_neg c11] at H
      have c11b0 : (t151 == t153) = false := beq_eq_false_iff_ne.mpr c11
      have c11b1 : (t151 != t153) = true := bne_iff_ne.mpr c11
      obtain rfl := Option.some.inj H
      go_enter Tryd.func7, Tryd.ntmps7
      go_wp2_with (first | ((with_reducible refine gate_callee (f := 22) rfl ?_); refine goesL_ (some 25) rfl rfl Tryd.func22 (by kernel_rfl) rfl #[.string a0, .int .i64 a1, .string a2, .int .i64 a3, .int .i64 a4] rfl (by (try simp only [List.map_toArray, List.map_cons, List.map_nil]); first | done | rfl | (simp only [List.length_drop, List.length_take]; rfl)) ?_; (with_reducible refine (move_Go.calls a0 a1 a2 a3 a4 t151 t152 _ A9.out).mono ?_); rintro e w28 ⟨rfl, hb⟩; refine ⟨_, rfl, ?_⟩; have n0_ := Aside0.mk (below_step (by repeat (first | (with_reducible first | exact HB.out | apply below_alloc | apply pw_below_drewN | apply below_drew1) | exact HB.out)) hb); clear HB; have HB := n0_; clear n0_; (try clear hb); (try clear hb2); (try clear hk); (try clear hi)) | ((with_reducible refine gate_callee (f := 23) rfl ?_); refine goesL_ (some 34) rfl rfl Tryd.func23 (by kernel_rfl) rfl #[.string a0, .int .i64 a1, .string a2, .int .i64 a3, .int .i64 a4] rfl (by (try simp only [List.map_toArray, List.map_cons, List.map_nil]); first | done | rfl | (simp only [List.length_drop, List.length_take]; rfl)) ?_; (with_reducible refine (calamusref14_Go.calls k a0 a1 a2 a3 a4 t153 t154 _ A10.out).mono ?_); rintro e w29 ⟨rfl, hb⟩; refine ⟨_, rfl, ?_⟩; have n0_ := Aside0.mk (below_step (by repeat (first | (with_reducible first | exact HB.out | apply below_alloc | apply pw_below_drewN | apply below_drew1) | exact HB.out)) hb); clear HB; have HB := n0_; clear n0_; (try clear hb); (try clear hb2); (try clear hk); (try clear hi)))
      go_ret
      exact ⟨by first | rfl | (simp [errW_none, errW_some] <;> rfl) | (simp [*, errW_none, errW_some] <;> rfl), by repeat (first | (with_reducible first | exact HB.out | apply below_alloc | apply pw_below_drewN | apply below_drew1) | exact HB.out)⟩

def calamuslaw14_MoveGoes.Pure : Prop := ∀ (a0 : ByteArray) (a1 : Int) (a2 : ByteArray) (a3 : Int) (a4 : Int), a0.size ≤ 140737488351232 → (Lit.int .i64 a1).wf = true → a2.size ≤ 140737488351232 → (Lit.int .i64 a3).wf = true → (Lit.int .i64 a4).wf = true → ∃ k, calamuslaw14_MoveGoes.f k a0 a1 a2 a3 a4 = some true
theorem calamuslaw14_MoveGoes.walk (P : calamuslaw14_MoveGoes.Pure) (a0 : ByteArray) (a1 : Int) (a2 : ByteArray) (a3 : Int) (a4 : Int) (w : World) (w0 : a0.size ≤ 140737488351232) (w1 : (Lit.int .i64 a1).wf = true) (w2 : a2.size ≤ 140737488351232) (w3 : (Lit.int .i64 a3).wf = true) (w4 : (Lit.int .i64 a4).wf = true) :
    Calls Tryd.prog 7 #[.string a0, .int .i64 a1, .string a2, .int .i64 a3, .int .i64 a4] w fun e w' => e = .returned (.bool true) ∧ Below w.heap.size w w' := by
  obtain ⟨k, h⟩ := P a0 a1 a2 a3 a4 w0 w1 w2 w3 w4
  refine (calamuslaw14_MoveGoes.calls k a0 a1 a2 a3 a4 true w h).mono ?_
  rintro e w' ⟨rfl, hd⟩
  exact ⟨rfl, hd⟩

/-! ### calamuslaw14_MoveAll -/
def calamuslaw14_MoveAll.l0 : Nat → ByteArray → Int → Int → Int → List ByteArray → Int → Int → Option (Bool)
  | 0, _, _, _, _, _, _, _ => none
  | k + 1, x0, x1, x2, x3, x19, x20, x21 => if x21 < x20 then (if 0 ≤ x21 then (if x21 < (x19.length : Int) then ((move_Go.f x0 x1 (rdOf ByteArray.empty x19 x21) x2 x3).bind fun bt164 => ((calamusref14_Go.f k x0 x1 (rdOf ByteArray.empty x19 x21) x2 x3).bind fun bt166 => (if bt164.1 = bt166.1 then (if (bt164.2 != bt166.2) = true then (some false) else ((move_Has.f (rdOf ByteArray.empty x19 x21)).bind fun t168 => ((calamusref14_Has.f k (rdOf ByteArray.empty x19 x21)).bind fun t169 => (if (t168 != t169) = true then (some false) else (calamuslaw14_MoveAll.l0 k x0 x1 x2 x3 x19 x20 (wrap64 (x21 + 1))))))) else (some false)))) else (none)) else (none)) else ((calamuslaw14_lives.f).bind fun t162 => (some t162))
def calamuslaw14_MoveAll.f (k : Nat) (a0 : ByteArray) (a1 : Int) (a2 : Int) (a3 : Int) : Option (Bool) := if (a0.size : Int) > 200 then ((calamuslaw14_lives.f).bind fun t158 => (some t158)) else ((some (([(⟨#[104]⟩ : ByteArray), (⟨#[108]⟩ : ByteArray), (⟨#[48]⟩ : ByteArray), (⟨#[94]⟩ : ByteArray), (⟨#[36]⟩ : ByteArray), (⟨#[124]⟩ : ByteArray), (⟨#[106]⟩ : ByteArray), (⟨#[107]⟩ : ByteArray), (⟨#[103, 103]⟩ : ByteArray), (⟨#[71]⟩ : ByteArray), (⟨#[103]⟩ : ByteArray), (⟨#[]⟩ : ByteArray)] : List ByteArray) : List ByteArray)).bind fun y159 => (calamuslaw14_MoveAll.l0 k a0 a1 a2 a3 y159 (y159.length : Int) 0))
theorem calamuslaw14_MoveAll.mono_l : ∀ k, (∀ y0 y1 y2 y3 y4 y5 y6, LeO (calamuslaw14_MoveAll.l0 k y0 y1 y2 y3 y4 y5 y6) (calamuslaw14_MoveAll.l0 (k + 1) y0 y1 y2 y3 y4 y5 y6))
  | 0 => fun _ _ _ _ _ _ _ r h => by simp [calamuslaw14_MoveAll.l0] at h
  | k + 1 => by
    have ih0 := calamuslaw14_MoveAll.mono_l k
    · intro y0 y1 y2 y3 y4 y5 y6
      unfold calamuslaw14_MoveAll.l0
      repeat' first
      | (with_reducible exact ih0 _ _ _ _ _ _ _)
      | (with_reducible exact calamusref14_Go.mono _ _ _ _ _ _)
      | (with_reducible exact calamusref14_Has.mono _ _)
      | (with_reducible exact LeO.refl _)
      | (with_reducible exact LeO.none _)
      | (with_reducible refine LeO.ite ?_ ?_)
      | (with_reducible refine LeO.bind ?_ (fun _ => ?_))
      | exact ih0 _ _ _ _ _ _ _
      | exact calamusref14_Go.mono _ _ _ _ _ _
      | exact calamusref14_Has.mono _ _
      | exact LeO.none _
      | refine LeO.ite ?_ ?_
      | refine LeO.bind ?_ (fun _ => ?_)
theorem calamuslaw14_MoveAll.mono : ∀ a0 a1 a2 a3 k, LeO (calamuslaw14_MoveAll.f k a0 a1 a2 a3) (calamuslaw14_MoveAll.f (k + 1) a0 a1 a2 a3) := by
  intro a0 a1 a2 a3 k
  have ih0 := calamuslaw14_MoveAll.mono_l k
  unfold calamuslaw14_MoveAll.f
  repeat' first
      | (with_reducible exact ih0 _ _ _ _ _ _ _)
      | (with_reducible exact calamusref14_Go.mono _ _ _ _ _ _)
      | (with_reducible exact calamusref14_Has.mono _ _)
      | (with_reducible exact LeO.refl _)
      | (with_reducible exact LeO.none _)
      | (with_reducible refine LeO.ite ?_ ?_)
      | (with_reducible refine LeO.bind ?_ (fun _ => ?_))
      | exact ih0 _ _ _ _ _ _ _
      | exact calamusref14_Go.mono _ _ _ _ _ _
      | exact calamusref14_Has.mono _ _
      | exact LeO.none _
      | refine LeO.ite ?_ ?_
      | refine LeO.bind ?_ (fun _ => ?_)
set_option maxHeartbeats 8000000 in
set_option maxRecDepth 100000 in
theorem calamuslaw14_MoveAll.calls (k : Nat) (a0 : ByteArray) (a1 : Int) (a2 : Int) (a3 : Int) (r : Bool) (w : World) (h : calamuslaw14_MoveAll.f k a0 a1 a2 a3 = some r) :
    Calls Tryd.prog 8 #[.string a0, .int .i64 a1, .int .i64 a2, .int .i64 a3] w fun e w' => e = .returned (.bool r) ∧ Below w.heap.size w w' := by
  have HB := Aside0.mk (Below.refl w.heap.size w)
  have H : (if (a0.size : Int) > 200 then ((calamuslaw14_lives.f).bind fun t158 => (some t158)) else ((some (([(⟨#[104]⟩ : ByteArray), (⟨#[108]⟩ : ByteArray), (⟨#[48]⟩ : ByteArray), (⟨#[94]⟩ : ByteArray), (⟨#[36]⟩ : ByteArray), (⟨#[124]⟩ : ByteArray), (⟨#[106]⟩ : ByteArray), (⟨#[107]⟩ : ByteArray), (⟨#[103, 103]⟩ : ByteArray), (⟨#[71]⟩ : ByteArray), (⟨#[103]⟩ : ByteArray), (⟨#[]⟩ : ByteArray)] : List ByteArray) : List ByteArray)).bind fun y159 => (calamuslaw14_MoveAll.l0 k a0 a1 a2 a3 y159 (y159.length : Int) 0))) = some r := h
  clear h
  by_cases c5 : (a0.size : Int) > 200
  · rw [if_pos c5] at H
    have c5b0 : decide (200 < (a0.size : Int)) = true := decide_eq_true c5
    have c5b1 : decide (200 < a0.size) = true := decide_eq_true (by omega)
    clear c5
    replace H := Option.bind_eq_some_iff.mp H
    obtain ⟨t158, A60, H⟩ := H
    replace H : (some t158) = some r := H
    have A6 := Aside0.mk A60
    clear A60
    obtain rfl := Option.some.inj H
    go_enter Tryd.func8, Tryd.ntmps8
    go_wp2_with (first | ((with_reducible refine gate_callee (f := 21) rfl ?_); refine goesL_ (some 18) rfl rfl Tryd.func21 (by kernel_rfl) rfl #[] rfl (by (try simp only [List.map_toArray, List.map_cons, List.map_nil]); first | done | rfl | (simp only [List.length_drop, List.length_take]; rfl)) ?_; (with_reducible refine (calamuslaw14_lives.calls  t158 _ A6.out).mono ?_); rintro e w7 ⟨rfl, hb⟩; refine ⟨_, rfl, ?_⟩; have n0_ := Aside0.mk (below_step (by repeat (first | (with_reducible first | exact HB.out | apply below_alloc | apply pw_below_drewN | apply below_drew1) | exact HB.out)) hb); clear HB; have HB := n0_; clear n0_; (try clear hb); (try clear hb2); (try clear hk); (try clear hi)))
    go_ret
    exact ⟨by first | rfl | (simp [errW_none, errW_some] <;> rfl) | (simp [*, errW_none, errW_some] <;> rfl), by repeat (first | (with_reducible first | exact HB.out | apply below_alloc | apply pw_below_drewN | apply below_drew1) | exact HB.out)⟩
  · rw [if_neg c5] at H
    have c5b0 : decide (200 < (a0.size : Int)) = false := decide_eq_false c5
    have c5b1 : decide (200 < a0.size) = false := decide_eq_false (by omega)
    clear c5
    obtain ⟨y159, hy159⟩ : ∃ y_ : List ByteArray, y_ = (([(⟨#[104]⟩ : ByteArray), (⟨#[108]⟩ : ByteArray), (⟨#[48]⟩ : ByteArray), (⟨#[94]⟩ : ByteArray), (⟨#[36]⟩ : ByteArray), (⟨#[124]⟩ : ByteArray), (⟨#[106]⟩ : ByteArray), (⟨#[107]⟩ : ByteArray), (⟨#[103, 103]⟩ : ByteArray), (⟨#[71]⟩ : ByteArray), (⟨#[103]⟩ : ByteArray), (⟨#[]⟩ : ByteArray)] : List ByteArray)) := ⟨_, rfl⟩
    replace H : (calamuslaw14_MoveAll.l0 k a0 a1 a2 a3 y159 (y159.length : Int) 0) = some r := by first | (rw [hy159]; with_reducible exact H) | (have H2_ := (Option.bind_some _ _).symm.trans H; rw [hy159]; with_reducible exact H2_) | (have H2_ := (Option.bind_some _ _).symm.trans H; with_reducible exact H2_) | with_reducible exact H | (rw [hy159]; exact H) | exact H
    have Ny159 := Aside0.mk hy159
    clear hy159
    have H' := Aside0.mk H
    clear H
    go_enter Tryd.func8, Tryd.ntmps8
    go_wp2_with (first | ((with_reducible refine gate_dst (N := 19) rfl ?_); refine Kd.R_lit Kd.string _ 9 ?hg (N := 19) ?hd (xs := ([(⟨#[104]⟩ : ByteArray), (⟨#[108]⟩ : ByteArray), (⟨#[48]⟩ : ByteArray), (⟨#[94]⟩ : ByteArray), (⟨#[36]⟩ : ByteArray), (⟨#[124]⟩ : ByteArray), (⟨#[106]⟩ : ByteArray), (⟨#[107]⟩ : ByteArray), (⟨#[103, 103]⟩ : ByteArray), (⟨#[71]⟩ : ByteArray), (⟨#[103]⟩ : ByteArray), (⟨#[]⟩ : ByteArray)] : List ByteArray)) (inner := [.string (⟨#[104]⟩ : ByteArray), .string (⟨#[108]⟩ : ByteArray), .string (⟨#[48]⟩ : ByteArray), .string (⟨#[94]⟩ : ByteArray), .string (⟨#[36]⟩ : ByteArray), .string (⟨#[124]⟩ : ByteArray), .string (⟨#[106]⟩ : ByteArray), .string (⟨#[107]⟩ : ByteArray), .string (⟨#[103, 103]⟩ : ByteArray), .string (⟨#[71]⟩ : ByteArray), .string (⟨#[103]⟩ : ByteArray), .string (⟨#[]⟩ : ByteArray)]) (ok := fun _ => True) (okp := fun _ => True) ?hr ?hp (fun _ hk => hk) trivial (Below.refl _ _) (Nat.le_refl _) (by simp) ?_; (case hd => rfl); (case hg => rfl); (case hr => first | (go_simp; done) | (go_simp; rfl)); (case hp => exact (Reps.one (show Kd.M Kd.string _ _ _ (⟨#[104]⟩ : ByteArray) [.string (⟨#[104]⟩ : ByteArray)] from rfl) (Reps.one (show Kd.M Kd.string _ _ _ (⟨#[108]⟩ : ByteArray) [.string (⟨#[108]⟩ : ByteArray)] from rfl) (Reps.one (show Kd.M Kd.string _ _ _ (⟨#[48]⟩ : ByteArray) [.string (⟨#[48]⟩ : ByteArray)] from rfl) (Reps.one (show Kd.M Kd.string _ _ _ (⟨#[94]⟩ : ByteArray) [.string (⟨#[94]⟩ : ByteArray)] from rfl) (Reps.one (show Kd.M Kd.string _ _ _ (⟨#[36]⟩ : ByteArray) [.string (⟨#[36]⟩ : ByteArray)] from rfl) (Reps.one (show Kd.M Kd.string _ _ _ (⟨#[124]⟩ : ByteArray) [.string (⟨#[124]⟩ : ByteArray)] from rfl) (Reps.one (show Kd.M Kd.string _ _ _ (⟨#[106]⟩ : ByteArray) [.string (⟨#[106]⟩ : ByteArray)] from rfl) (Reps.one (show Kd.M Kd.string _ _ _ (⟨#[107]⟩ : ByteArray) [.string (⟨#[107]⟩ : ByteArray)] from rfl) (Reps.one (show Kd.M Kd.string _ _ _ (⟨#[103, 103]⟩ : ByteArray) [.string (⟨#[103, 103]⟩ : ByteArray)] from rfl) (Reps.one (show Kd.M Kd.string _ _ _ (⟨#[71]⟩ : ByteArray) [.string (⟨#[71]⟩ : ByteArray)] from rfl) (Reps.one (show Kd.M Kd.string _ _ _ (⟨#[103]⟩ : ByteArray) [.string (⟨#[103]⟩ : ByteArray)] from rfl) (Reps.one (show Kd.M Kd.string _ _ _ (⟨#[]⟩ : ByteArray) [.string (⟨#[]⟩ : ByteArray)] from rfl) (Reps.none _ _)))))))))))))); intro v160 w8 ho9 hb hg_ hnew_; clear hg_ hnew_; (first | rw [← Ny159.out] at ho9 | (simp only [Int.reduceToNat] at ho9; rw [← Ny159.out] at ho9)); have n0_ := Aside0.mk (Kd.R_lower ho9 (below_size (by repeat (first | (with_reducible first | exact HB.out | apply below_alloc | apply pw_below_drewN | apply below_drew1) | exact HB.out)))); have n1_ := Aside0.mk (below_step (by repeat (first | (with_reducible first | exact HB.out | apply below_alloc | apply pw_below_drewN | apply below_drew1) | exact HB.out)) hb); clear HB; have HO161 := n0_; have HB := n1_; clear n0_ n1_; clear hb ho9; obtain ⟨Ao10, co10, eo10⟩ := Kd.R_slice HO161.out; subst eo10))
    go_loopg [21] k (fun kq v21 w' => ∃ (x21_1 : Int), v21 = .int .i64 x21_1 ∧ Aside0 (calamuslaw14_MoveAll.l0 kq a0 a1 a2 a3 y159 (y159.length : Int) x21_1 = some r) ∧ Aside0 (kq ≤ k) ∧ Aside0 (Kd.R Kd.string 9 w' w.heap.size (fun _ => True) (.slice Ao10 y159.length co10) y159) ∧ Aside0 (Below w.heap.size w w'))
    case atStart => exact ⟨(0), (by first | rfl | (simp; done) | (simp [*]; done)), H', ⟨Nat.le_refl _⟩, ⟨by (with_reducible repeat (first | apply Kd.R_alloc | apply Kd.R_drewN | apply Kd.R_drew)); exact HO161.out⟩, ⟨by repeat (first | (with_reducible first | exact HB.out | apply below_alloc | apply pw_below_drewN | apply below_drew1) | exact HB.out)⟩⟩
    case round =>
      clear H'
      try clear c2
      try clear p2
      try clear c5
      try clear c5b0
      try clear c5b1
      try clear c8
      obtain ⟨x21_1, rfl, HA, HK1, HO_19, HB⟩ := hrel
      cases gk with
      | zero => exact absurd HA.out (by simp [calamuslaw14_MoveAll.l0])
      | succ k1 =>
        have H := HA.out
        clear HA
        simp only [calamuslaw14_MoveAll.l0] at H
        by_cases c11 : x21_1 < (y159.length : Int)
        · rw [if_pos c11] at H
          have c11b0 : decide (x21_1 < (y159.length : Int)) = true := decide_eq_true c11
          clear c11
          by_cases c12 : 0 ≤ x21_1
          · rw [if_pos c12] at H
            have c12b0 : decide (0 ≤ x21_1) = true := decide_eq_true c12
            clear c12
            by_cases c13 : x21_1 < (y159.length : Int)
            · rw [if_pos c13] at H
              have c13b0 : decide (x21_1 < (y159.length : Int)) = true := decide_eq_true c13
              clear c13
              replace H := Option.bind_eq_some_iff.mp H
              obtain ⟨⟨t164, t165⟩, A140, H⟩ := H
              replace H : ((calamusref14_Go.f k1 a0 a1 (rdOf ByteArray.empty y159 x21_1) a2 a3).bind fun bt166 => (if t164 = bt166.1 then (if (t165 != bt166.2) = true then (some false) else ((move_Has.f (rdOf ByteArray.empty y159 x21_1)).bind fun t168 => ((calamusref14_Has.f k1 (rdOf ByteArray.empty y159 x21_1)).bind fun t169 => (if (t168 != t169) = true then (some false) else (calamuslaw14_MoveAll.l0 k1 a0 a1 a2 a3 y159 (y159.length : Int) (wrap64 (x21_1 + 1))))))) else (some false))) = some r := H
              have A14 := Aside0.mk A140
              clear A140
              replace H := Option.bind_eq_some_iff.mp H
              obtain ⟨⟨t166, t167⟩, A150, H⟩ := H
              replace H : (if t164 = t166 then (if (t165 != t167) = true then (some false) else ((move_Has.f (rdOf ByteArray.empty y159 x21_1)).bind fun t168 => ((calamusref14_Has.f k1 (rdOf ByteArray.empty y159 x21_1)).bind fun t169 => (if (t168 != t169) = true then (some false) else (calamuslaw14_MoveAll.l0 k1 a0 a1 a2 a3 y159 (y159.length : Int) (wrap64 (x21_1 + 1))))))) else (some false)) = some r := H
              have A15 := Aside0.mk A150
              clear A150
              by_cases c16 : t164 = t166
              · rw [if_pos c16] at H
                have c16b0 : (t164 == t166) = true := beq_iff_eq.mpr c16
                have c16b1 : (t164 != t166) = false := bne_eq_false_iff_eq.mpr c16
                clear c16
                by_cases c17 : (t165 != t167) = true
                · rw [if_pos c17] at H
                  have c17b0 : (t165 != t167) = true := c17
                  (try (have c17b1 : decide (t165 = t167) = false := by simpa using c17))
                  (try (have c17b2 : (t165 == t167) = false := by simpa using c17))
                  (try (have c17b3 : ¬ (t165 = t167) := by simpa using c17))
                  clear c17
                  obtain rfl := Option.some.inj H
                  have p163 : 0 ≤ (x21_1 : Int) := of_decide_eq_true (by first | (with_reducible assumption) | assumption)
                  have q163 : x21_1 < (y159.length : Int) := of_decide_eq_true (by first | (with_reducible assumption) | assumption)
                  obtain ⟨ad163, e163, hx163_0⟩ := Kd.at_string (Kd.R_reads' HO_19.out).2.2 x21_1 p163 q163
                  cases e163
                  replace p163 := eq_true p163
                  replace q163 := eq_true q163
                  go_wp2_with (first | ((with_reducible refine gate_callee (f := 22) rfl ?_); refine goesL_ (some 31) rfl rfl Tryd.func22 (by kernel_rfl) rfl #[.string a0, .int .i64 a1, .string (rdOf ByteArray.empty y159 x21_1), .int .i64 a2, .int .i64 a3] rfl (by (try simp only [List.map_toArray, List.map_cons, List.map_nil]); first | done | rfl | (simp only [List.length_drop, List.length_take]; rfl)) ?_; (with_reducible refine (move_Go.calls a0 a1 (rdOf ByteArray.empty y159 x21_1) a2 a3 t164 t165 _ A14.out).mono ?_); rintro e w18 ⟨rfl, hb⟩; refine ⟨_, rfl, ?_⟩; have n0_ := Aside0.mk (Kd.R_below (by (with_reducible repeat (first | apply Kd.R_alloc | apply Kd.R_drewN | apply Kd.R_drew)); exact HO_19.out) hb); have n1_ := Aside0.mk (below_step (by repeat (first | (with_reducible first | exact HB.out | apply below_alloc | apply pw_below_drewN | apply below_drew1) | exact HB.out)) hb); clear HO_19; clear HB; have HO_19 := n0_; have HB := n1_; clear n0_ n1_; (try clear hb); (try clear hb2); (try clear hk); (try clear hi)) | ((with_reducible refine gate_callee (f := 23) rfl ?_); refine goesL_ (some 40) rfl rfl Tryd.func23 (by kernel_rfl) rfl #[.string a0, .int .i64 a1, .string (rdOf ByteArray.empty y159 x21_1), .int .i64 a2, .int .i64 a3] rfl (by (try simp only [List.map_toArray, List.map_cons, List.map_nil]); first | done | rfl | (simp only [List.length_drop, List.length_take]; rfl)) ?_; (with_reducible refine (calamusref14_Go.calls k1 a0 a1 (rdOf ByteArray.empty y159 x21_1) a2 a3 t166 t167 _ A15.out).mono ?_); rintro e w19 ⟨rfl, hb⟩; refine ⟨_, rfl, ?_⟩; have n0_ := Aside0.mk (Kd.R_below (by (with_reducible repeat (first | apply Kd.R_alloc | apply Kd.R_drewN | apply Kd.R_drew)); exact HO_19.out) hb); have n1_ := Aside0.mk (below_step (by repeat (first | (with_reducible first | exact HB.out | apply below_alloc | apply pw_below_drewN | apply below_drew1) | exact HB.out)) hb); clear HO_19; clear HB; have HO_19 := n0_; have HB := n1_; clear n0_ n1_; (try clear hb); (try clear hb2); (try clear hk); (try clear hi)))
                  go_ret
                  exact ⟨by first | rfl | (simp [errW_none, errW_some] <;> rfl) | (simp [*, errW_none, errW_some] <;> rfl), by repeat (first | (with_reducible first | exact HB.out | apply below_alloc | apply pw_below_drewN | apply below_drew1) | exact HB.out)⟩
                · rw [if_neg c17] at H
                  have c17b0 : (t165 != t167) = false := by simpa using c17
                  (try (have c17b1 : decide (t165 = t167) = true := by simpa using c17))
                  (try (have c17b2 : (t165 == t167) = true := by simpa using c17))
                  clear c17
                  replace H := Option.bind_eq_some_iff.mp H
                  obtain ⟨t168, A200, H⟩ := H
                  replace H : ((calamusref14_Has.f k1 (rdOf ByteArray.empty y159 x21_1)).bind fun t169 => (if (t168 != t169) = true then (some false) else (calamuslaw14_MoveAll.l0 k1 a0 a1 a2 a3 y159 (y159.length : Int) (wrap64 (x21_1 + 1))))) = some r := H
                  have A20 := Aside0.mk A200
                  clear A200
                  replace H := Option.bind_eq_some_iff.mp H
                  obtain ⟨t169, A210, H⟩ := H
                  replace H : (if (t168 != t169) = true then (some false) else (calamuslaw14_MoveAll.l0 k1 a0 a1 a2 a3 y159 (y159.length : Int) (wrap64 (x21_1 + 1)))) = some r := H
                  have A21 := Aside0.mk A210
                  clear A210
                  by_cases c22 : (t168 != t169) = true
                  · rw [if_pos c22] at H
                    have c22b0 : (t168 != t169) = true := c22
                    (try (have c22b1 : decide (t168 = t169) = false := by simpa using c22))
                    (try (have c22b2 : (t168 == t169) = false := by simpa using c22))
                    (try (have c22b3 : ¬ (t168 = t169) := by simpa using c22))
                    clear c22
                    obtain rfl := Option.some.inj H
                    have p163 : 0 ≤ (x21_1 : Int) := of_decide_eq_true (by first | (with_reducible assumption) | assumption)
                    have q163 : x21_1 < (y159.length : Int) := of_decide_eq_true (by first | (with_reducible assumption) | assumption)
                    obtain ⟨ad163, e163, hx163_0⟩ := Kd.at_string (Kd.R_reads' HO_19.out).2.2 x21_1 p163 q163
                    cases e163
                    replace p163 := eq_true p163
                    replace q163 := eq_true q163
                    go_wp2_with (first | ((with_reducible refine gate_callee (f := 22) rfl ?_); refine goesL_ (some 31) rfl rfl Tryd.func22 (by kernel_rfl) rfl #[.string a0, .int .i64 a1, .string (rdOf ByteArray.empty y159 x21_1), .int .i64 a2, .int .i64 a3] rfl (by (try simp only [List.map_toArray, List.map_cons, List.map_nil]); first | done | rfl | (simp only [List.length_drop, List.length_take]; rfl)) ?_; (with_reducible refine (move_Go.calls a0 a1 (rdOf ByteArray.empty y159 x21_1) a2 a3 t164 t165 _ A14.out).mono ?_); rintro e w23 ⟨rfl, hb⟩; refine ⟨_, rfl, ?_⟩; have n0_ := Aside0.mk (Kd.R_below (by (with_reducible repeat (first | apply Kd.R_alloc | apply Kd.R_drewN | apply Kd.R_drew)); exact HO_19.out) hb); have n1_ := Aside0.mk (below_step (by repeat (first | (with_reducible first | exact HB.out | apply below_alloc | apply pw_below_drewN | apply below_drew1) | exact HB.out)) hb); clear HO_19; clear HB; have HO_19 := n0_; have HB := n1_; clear n0_ n1_; (try clear hb); (try clear hb2); (try clear hk); (try clear hi)) | ((with_reducible refine gate_callee (f := 23) rfl ?_); refine goesL_ (some 40) rfl rfl Tryd.func23 (by kernel_rfl) rfl #[.string a0, .int .i64 a1, .string (rdOf ByteArray.empty y159 x21_1), .int .i64 a2, .int .i64 a3] rfl (by (try simp only [List.map_toArray, List.map_cons, List.map_nil]); first | done | rfl | (simp only [List.length_drop, List.length_take]; rfl)) ?_; (with_reducible refine (calamusref14_Go.calls k1 a0 a1 (rdOf ByteArray.empty y159 x21_1) a2 a3 t166 t167 _ A15.out).mono ?_); rintro e w24 ⟨rfl, hb⟩; refine ⟨_, rfl, ?_⟩; have n0_ := Aside0.mk (Kd.R_below (by (with_reducible repeat (first | apply Kd.R_alloc | apply Kd.R_drewN | apply Kd.R_drew)); exact HO_19.out) hb); have n1_ := Aside0.mk (below_step (by repeat (first | (with_reducible first | exact HB.out | apply below_alloc | apply pw_below_drewN | apply below_drew1) | exact HB.out)) hb); clear HO_19; clear HB; have HO_19 := n0_; have HB := n1_; clear n0_ n1_; (try clear hb); (try clear hb2); (try clear hk); (try clear hi)) | (go_at_call 24; (with_reducible refine (move_Has.calls (rdOf ByteArray.empty y159 x21_1) t168 _ A20.out).mono ?_); rintro e w25 ⟨rfl, hb⟩; have n0_ := Aside0.mk (Kd.R_below (by (with_reducible repeat (first | apply Kd.R_alloc | apply Kd.R_drewN | apply Kd.R_drew)); exact HO_19.out) hb); have n1_ := Aside0.mk (below_step (by repeat (first | (with_reducible first | exact HB.out | apply below_alloc | apply pw_below_drewN | apply below_drew1) | exact HB.out)) hb); clear HO_19; clear HB; have HO_19 := n0_; have HB := n1_; clear n0_ n1_; (try clear hb); (try clear hb2); (try clear hk); (try clear hi)) | (go_at_call 25; (with_reducible refine (calamusref14_Has.calls k1 (rdOf ByteArray.empty y159 x21_1) t169 _ A21.out).mono ?_); rintro e w26 ⟨rfl, hb⟩; have n0_ := Aside0.mk (Kd.R_below (by (with_reducible repeat (first | apply Kd.R_alloc | apply Kd.R_drewN | apply Kd.R_drew)); exact HO_19.out) hb); have n1_ := Aside0.mk (below_step (by repeat (first | (with_reducible first | exact HB.out | apply below_alloc | apply pw_below_drewN | apply below_drew1) | exact HB.out)) hb); clear HO_19; clear HB; have HO_19 := n0_; have HB := n1_; clear n0_ n1_; (try clear hb); (try clear hb2); (try clear hk); (try clear hi)))
                    go_ret
                    exact ⟨by first | rfl | (simp [errW_none, errW_some] <;> rfl) | (simp [*, errW_none, errW_some] <;> rfl), by repeat (first | (with_reducible first | exact HB.out | apply below_alloc | apply pw_below_drewN | apply below_drew1) | exact HB.out)⟩
                  · rw [if_neg c22] at H
                    have c22b0 : (t168 != t169) = false := by simpa using c22
                    (try (have c22b1 : decide (t168 = t169) = true := by simpa using c22))
                    (try (have c22b2 : (t168 == t169) = true := by simpa using c22))
                    clear c22
                    have H' := Aside0.mk H
                    clear H
                    have p163 : 0 ≤ (x21_1 : Int) := of_decide_eq_true (by first | (with_reducible assumption) | assumption)
                    have q163 : x21_1 < (y159.length : Int) := of_decide_eq_true (by first | (with_reducible assumption) | assumption)
                    obtain ⟨ad163, e163, hx163_0⟩ := Kd.at_string (Kd.R_reads' HO_19.out).2.2 x21_1 p163 q163
                    cases e163
                    replace p163 := eq_true p163
                    replace q163 := eq_true q163
                    go_wp2_with (first | ((with_reducible refine gate_callee (f := 22) rfl ?_); refine goesL_ (some 31) rfl rfl Tryd.func22 (by kernel_rfl) rfl #[.string a0, .int .i64 a1, .string (rdOf ByteArray.empty y159 x21_1), .int .i64 a2, .int .i64 a3] rfl (by (try simp only [List.map_toArray, List.map_cons, List.map_nil]); first | done | rfl | (simp only [List.length_drop, List.length_take]; rfl)) ?_; (with_reducible refine (move_Go.calls a0 a1 (rdOf ByteArray.empty y159 x21_1) a2 a3 t164 t165 _ A14.out).mono ?_); rintro e w27 ⟨rfl, hb⟩; refine ⟨_, rfl, ?_⟩; have n0_ := Aside0.mk (Kd.R_below (by (with_reducible repeat (first | apply Kd.R_alloc | apply Kd.R_drewN | apply Kd.R_drew)); exact HO_19.out) hb); have n1_ := Aside0.mk (below_step (by repeat (first | (with_reducible first | exact HB.out | apply below_alloc | apply pw_below_drewN | apply below_drew1) | exact HB.out)) hb); clear HO_19; clear HB; have HO_19 := n0_; have HB := n1_; clear n0_ n1_; (try clear hb); (try clear hb2); (try clear hk); (try clear hi)) | ((with_reducible refine gate_callee (f := 23) rfl ?_); refine goesL_ (some 40) rfl rfl Tryd.func23 (by kernel_rfl) rfl #[.string a0, .int .i64 a1, .string (rdOf ByteArray.empty y159 x21_1), .int .i64 a2, .int .i64 a3] rfl (by (try simp only [List.map_toArray, List.map_cons, List.map_nil]); first | done | rfl | (simp only [List.length_drop, List.length_take]; rfl)) ?_; (with_reducible refine (calamusref14_Go.calls k1 a0 a1 (rdOf ByteArray.empty y159 x21_1) a2 a3 t166 t167 _ A15.out).mono ?_); rintro e w28 ⟨rfl, hb⟩; refine ⟨_, rfl, ?_⟩; have n0_ := Aside0.mk (Kd.R_below (by (with_reducible repeat (first | apply Kd.R_alloc | apply Kd.R_drewN | apply Kd.R_drew)); exact HO_19.out) hb); have n1_ := Aside0.mk (below_step (by repeat (first | (with_reducible first | exact HB.out | apply below_alloc | apply pw_below_drewN | apply below_drew1) | exact HB.out)) hb); clear HO_19; clear HB; have HO_19 := n0_; have HB := n1_; clear n0_ n1_; (try clear hb); (try clear hb2); (try clear hk); (try clear hi)) | (go_at_call 24; (with_reducible refine (move_Has.calls (rdOf ByteArray.empty y159 x21_1) t168 _ A20.out).mono ?_); rintro e w29 ⟨rfl, hb⟩; have n0_ := Aside0.mk (Kd.R_below (by (with_reducible repeat (first | apply Kd.R_alloc | apply Kd.R_drewN | apply Kd.R_drew)); exact HO_19.out) hb); have n1_ := Aside0.mk (below_step (by repeat (first | (with_reducible first | exact HB.out | apply below_alloc | apply pw_below_drewN | apply below_drew1) | exact HB.out)) hb); clear HO_19; clear HB; have HO_19 := n0_; have HB := n1_; clear n0_ n1_; (try clear hb); (try clear hb2); (try clear hk); (try clear hi)) | (go_at_call 25; (with_reducible refine (calamusref14_Has.calls k1 (rdOf ByteArray.empty y159 x21_1) t169 _ A21.out).mono ?_); rintro e w30 ⟨rfl, hb⟩; have n0_ := Aside0.mk (Kd.R_below (by (with_reducible repeat (first | apply Kd.R_alloc | apply Kd.R_drewN | apply Kd.R_drew)); exact HO_19.out) hb); have n1_ := Aside0.mk (below_step (by repeat (first | (with_reducible first | exact HB.out | apply below_alloc | apply pw_below_drewN | apply below_drew1) | exact HB.out)) hb); clear HO_19; clear HB; have HO_19 := n0_; have HB := n1_; clear n0_ n1_; (try clear hb); (try clear hb2); (try clear hk); (try clear hi)))
                    go_roundg k1
                    case measure => have := HK1.out; omega
                    case rel => exact ⟨(wrap64 (x21_1 + 1)), (by first | rfl | (simp; done) | (simp [*]; done)), H', ⟨by have := HK1.out; omega⟩, ⟨by (with_reducible repeat (first | apply Kd.R_alloc | apply Kd.R_drewN | apply Kd.R_drew)); exact HO_19.out⟩, ⟨by repeat (first | (with_reducible first | exact HB.out | apply below_alloc | apply pw_below_drewN | apply below_drew1) | exact HB.out)⟩⟩
              · rw [if_neg c16] at H
                have c16b0 : (t164 == t166) = false := beq_eq_false_iff_ne.mpr c16
                have c16b1 : (t164 != t166) = true := bne_iff_ne.mpr c16
                obtain rfl := Option.some.inj H
                have p163 : 0 ≤ (x21_1 : Int) := of_decide_eq_true (by first | (with_reducible assumption) | assumption)
                have q163 : x21_1 < (y159.length : Int) := of_decide_eq_true (by first | (with_reducible assumption) | assumption)
                obtain ⟨ad163, e163, hx163_0⟩ := Kd.at_string (Kd.R_reads' HO_19.out).2.2 x21_1 p163 q163
                cases e163
                replace p163 := eq_true p163
                replace q163 := eq_true q163
                go_wp2_with (first | ((with_reducible refine gate_callee (f := 22) rfl ?_); refine goesL_ (some 31) rfl rfl Tryd.func22 (by kernel_rfl) rfl #[.string a0, .int .i64 a1, .string (rdOf ByteArray.empty y159 x21_1), .int .i64 a2, .int .i64 a3] rfl (by (try simp only [List.map_toArray, List.map_cons, List.map_nil]); first | done | rfl | (simp only [List.length_drop, List.length_take]; rfl)) ?_; (with_reducible refine (move_Go.calls a0 a1 (rdOf ByteArray.empty y159 x21_1) a2 a3 t164 t165 _ A14.out).mono ?_); rintro e w31 ⟨rfl, hb⟩; refine ⟨_, rfl, ?_⟩; have n0_ := Aside0.mk (Kd.R_below (by (with_reducible repeat (first | apply Kd.R_alloc | apply Kd.R_drewN | apply Kd.R_drew)); exact HO_19.out) hb); have n1_ := Aside0.mk (below_step (by repeat (first | (with_reducible first | exact HB.out | apply below_alloc | apply pw_below_drewN | apply below_drew1) | exact HB.out)) hb); clear HO_19; clear HB; have HO_19 := n0_; have HB := n1_; clear n0_ n1_; (try clear hb); (try clear hb2); (try clear hk); (try clear hi)) | ((with_reducible refine gate_callee (f := 23) rfl ?_); refine goesL_ (some 40) rfl rfl Tryd.func23 (by kernel_rfl) rfl #[.string a0, .int .i64 a1, .string (rdOf ByteArray.empty y159 x21_1), .int .i64 a2, .int .i64 a3] rfl (by (try simp only [List.map_toArray, List.map_cons, List.map_nil]); first | done | rfl | (simp only [List.length_drop, List.length_take]; rfl)) ?_; (with_reducible refine (calamusref14_Go.calls k1 a0 a1 (rdOf ByteArray.empty y159 x21_1) a2 a3 t166 t167 _ A15.out).mono ?_); rintro e w32 ⟨rfl, hb⟩; refine ⟨_, rfl, ?_⟩; have n0_ := Aside0.mk (Kd.R_below (by (with_reducible repeat (first | apply Kd.R_alloc | apply Kd.R_drewN | apply Kd.R_drew)); exact HO_19.out) hb); have n1_ := Aside0.mk (below_step (by repeat (first | (with_reducible first | exact HB.out | apply below_alloc | apply pw_below_drewN | apply below_drew1) | exact HB.out)) hb); clear HO_19; clear HB; have HO_19 := n0_; have HB := n1_; clear n0_ n1_; (try clear hb); (try clear hb2); (try clear hk); (try clear hi)))
                go_ret
                exact ⟨by first | rfl | (simp [errW_none, errW_some] <;> rfl) | (simp [*, errW_none, errW_some] <;> rfl), by repeat (first | (with_reducible first | exact HB.out | apply below_alloc | apply pw_below_drewN | apply below_drew1) | exact HB.out)⟩
            · rw [if_neg c13] at H
              exact absurd H (by simp)
          · rw [if_neg c12] at H
            exact absurd H (by simp)
        · rw [if_neg c11] at H
          have c11b0 : decide (x21_1 < (y159.length : Int)) = false := decide_eq_false c11
          clear c11
          replace H := Option.bind_eq_some_iff.mp H
          obtain ⟨t162, A330, H⟩ := H
          replace H : (some t162) = some r := H
          have A33 := Aside0.mk A330
          clear A330
          obtain rfl := Option.some.inj H
          go_wp2_with (first | ((with_reducible refine gate_callee (f := 21) rfl ?_); refine goesL_ (some 59) rfl rfl Tryd.func21 (by kernel_rfl) rfl #[] rfl (by (try simp only [List.map_toArray, List.map_cons, List.map_nil]); first | done | rfl | (simp only [List.length_drop, List.length_take]; rfl)) ?_; (with_reducible refine (calamuslaw14_lives.calls  t162 _ A33.out).mono ?_); rintro e w34 ⟨rfl, hb⟩; refine ⟨_, rfl, ?_⟩; have n0_ := Aside0.mk (Kd.R_below (by (with_reducible repeat (first | apply Kd.R_alloc | apply Kd.R_drewN | apply Kd.R_drew)); exact HO_19.out) hb); have n1_ := Aside0.mk (below_step (by repeat (first | (with_reducible first | exact HB.out | apply below_alloc | apply pw_below_drewN | apply below_drew1) | exact HB.out)) hb); clear HO_19; clear HB; have HO_19 := n0_; have HB := n1_; clear n0_ n1_; (try clear hb); (try clear hb2); (try clear hk); (try clear hi)))
          go_ret
          exact ⟨by first | rfl | (simp [errW_none, errW_some] <;> rfl) | (simp [*, errW_none, errW_some] <;> rfl), by repeat (first | (with_reducible first | exact HB.out | apply below_alloc | apply pw_below_drewN | apply below_drew1) | exact HB.out)⟩

def calamuslaw14_MoveAll.Pure : Prop := ∀ (a0 : ByteArray) (a1 : Int) (a2 : Int) (a3 : Int), a0.size ≤ 140737488351232 → (Lit.int .i64 a1).wf = true → (Lit.int .i64 a2).wf = true → (Lit.int .i64 a3).wf = true → ∃ k, calamuslaw14_MoveAll.f k a0 a1 a2 a3 = some true
theorem calamuslaw14_MoveAll.walk (P : calamuslaw14_MoveAll.Pure) (a0 : ByteArray) (a1 : Int) (a2 : Int) (a3 : Int) (w : World) (w0 : a0.size ≤ 140737488351232) (w1 : (Lit.int .i64 a1).wf = true) (w2 : (Lit.int .i64 a2).wf = true) (w3 : (Lit.int .i64 a3).wf = true) :
    Calls Tryd.prog 8 #[.string a0, .int .i64 a1, .int .i64 a2, .int .i64 a3] w fun e w' => e = .returned (.bool true) ∧ Below w.heap.size w w' := by
  obtain ⟨k, h⟩ := P a0 a1 a2 a3 w0 w1 w2 w3
  refine (calamuslaw14_MoveAll.calls k a0 a1 a2 a3 true w h).mono ?_
  rintro e w' ⟨rfl, hd⟩
  exact ⟨rfl, hd⟩



end Go.Proofs.YtbilknmcikmcoaaDoor.QO
/- The document's motions (calamusref14) and the statements MoveGoes, MoveAll, MovePlaces, MoveBack in plain words (MOD QO). -/
namespace Go.Proofs.YtbilknmcikmcoaaDoor
open Go.RowKit
set_option linter.unusedVariables false
set_option linter.unusedSimpArgs false
open Go.RowKit Go.Proofs.YtbilknmcikmcoaaDoor.QO Go.Proofs.YtbilknmcikmcoaaDoorW.PrintWords Go.Proofs.YtbilknmcikmcoaaDoorW.PrintMore
def motL : List ByteArray := [⟨#[104]⟩, ⟨#[108]⟩, ⟨#[48]⟩, ⟨#[94]⟩, ⟨#[36]⟩, ⟨#[124]⟩, ⟨#[106]⟩, ⟨#[107]⟩, ⟨#[103, 103]⟩, ⟨#[71]⟩]
theorem motJ_mem (s : ByteArray) : (motJ s).isSome = motL.any fun x => decide (s = x) := by
  unfold motJ motL
  simp only [List.any_cons, List.any_nil, Bool.or_false]
  repeat' split
  all_goals simp_all
theorem rhas_l0 (s : ByteArray) : ∀ (d j : Nat), 10 - j ≤ d → j ≤ 10 → Ev (fun K => calamusref14_Has.l0 K s motL 10 j) ((motL.drop j).any fun x => decide (s = x)) := by
  have hlen : motL.length = 10 := rfl
  intro d
  induction d with
  | zero =>
    intro j h1 h2
    refine Ev.step (fun _ => (by rw [calamusref14_Has.l0])) ?_
    refine Ev.neg (show ¬ ((j : Int) < 10) by omega) (Ev.ret ?_)
    rw [List.drop_eq_nil_of_le (show motL.length ≤ j by omega)]; rfl
  | succ d ih =>
    intro j h1 h2
    refine Ev.step (fun _ => (by rw [calamusref14_Has.l0])) ?_
    refine Ev.ite (fun hj => ?_) (fun hj => Ev.ret (by rw [List.drop_eq_nil_of_le (show motL.length ≤ j by omega)]; rfl))
    refine Ev.pos (by omega) (Ev.pos (by rw [hlen]; omega) ?_)
    have hj' : j < motL.length := by omega
    have hr : rdOf ByteArray.empty motL (j : Int) = motL[j] := by
      unfold rdOf; simp [List.getD_eq_getElem?_getD, List.getElem?_eq_getElem hj']
    rw [hr, List.drop_eq_getElem_cons hj', List.any_cons]
    refine Ev.ite (fun he => Ev.ret ?_) (fun he => ?_)
    · have : s = motL[j] := ba_ext (by rw [toList_ls, toList_ls] at he; exact he.symm)
      rw [decide_eq_true this]; rfl
    · have : s ≠ motL[j] := fun e => he (by rw [← e])
      rw [w64 (by omega) (by omega), decide_eq_false this, Bool.false_or]
      exact ih (j + 1) (by omega) (by omega)
theorem rhas_ev (s : ByteArray) : Ev (fun K => calamusref14_Has.f K s) (motJ s).isSome := by
  rw [motJ_mem]
  exact rhas_l0 s 10 0 (by omega) (by omega)
theorem least_val (a b : Int) : calamusref14_least.f a b = some (min a b) := by
  unfold calamusref14_least.f
  split <;> congr 1 <;> omega
theorem key_iff (s : ByteArray) (l : List UInt8) : s.toList = l ↔ s = ⟨l.toArray⟩ := by
  constructor
  · intro h; apply ba_ext; rw [← toList_ls, h]
  · rintro rfl; rw [toList_ls]
theorem tl_eq (a : ByteArray) (l : List UInt8) (h : ls a = l) : a.toList = l := by rw [toList_ls]; exact h
theorem tl_ne (a : ByteArray) (l : List UInt8) (h : ls a ≠ l) : ¬ a.toList = l := by rw [toList_ls]; exact h
section
variable (t : ByteArray) (p : Nat) (n want m : Int) (ht : t.size ≤ 1000000) (hp : placeB (ls t) p = true) (hn : -9223372036854775808 ≤ n ∧ n ≤ 9223372036854775807) (hw : -9223372036854775808 ≤ want ∧ want ≤ 9223372036854775807) (hm : m = max n 1)
include ht hp hn hw hm
theorem rj1_ev (j : Nat) (hj : j < 10) : Ev (fun K => calamusref14_Go.j1 K t p (motL.getD j ByteArray.empty) n want (ofI (ls t) p) (startI (ls t) (ofI (ls t) p)) (endI (ls t) (ofI (ls t) p)) (lcountI (ls t) - 1) m) (motI (ls t) p n want j) := by
  obtain ⟨e', h1, h2, h3, h4, h5, h6, h7, h8⟩ := line_pair hp
  have hc := col_le hp
  have hL : 0 ≤ ofI (ls t) p ∧ ofI (ls t) p ≤ lcountI (ls t) - 1 ∧ lcountI (ls t) - 1 ≤ t.size ∧ 0 ≤ lcountI (ls t) - 1 := by
    obtain ⟨_, hle, hv⟩ := valid_at hp
    obtain ⟨g1, _⟩ := start_of hle hv
    have := fds_mono (ls t) p
    have := tens_le (ls t)
    rw [ls_len] at this
    rw [g1]; unfold lcountI; rw [if_pos hv]; omega
  rw [ls_len] at h6
  refine Ev.step (fun _ => (by rw [calamusref14_Go.j1])) ?_
  match j, hj with
  | 0, _ =>
    refine Ev.pos (tl_eq _ _ rfl) ?_
    generalize hR : motI (ls t) p n want 0 = R
    rw [motI] at hR
    by_cases hq : (p : Int) = startI (ls t) (ofI (ls t) p)
    · rw [if_pos hq] at hR; subst hR; exact Ev.pos hq (Ev.ret rfl)
    · rw [if_neg hq] at hR; subst hR
      refine Ev.neg hq (Ev.call (calamusref04_Column.eq t p (by omega)) (Ev.call (calamusref04_Column.eq t p (by omega)) (Ev.call (least_val _ _) ?_)))
      rw [w64 (by omega) (by omega), hm]
      exact Ev.call (calamusref04_At.eq t _ _ ⟨by omega, by omega, by omega⟩) (Ev.ret rfl)
  | 1, _ =>
    refine Ev.neg (tl_ne _ _ (by decide)) (Ev.pos (tl_eq _ _ rfl) ?_)
    generalize hR : motI (ls t) p n want 1 = R
    rw [motI] at hR
    by_cases hq : (p : Int) = endI (ls t) (ofI (ls t) p)
    · rw [if_pos hq] at hR; subst hR; exact Ev.pos hq (Ev.ret rfl)
    · rw [if_neg hq] at hR; subst hR
      refine Ev.neg hq (Ev.call (calamusref04_Column.eq t p (by omega)) (Ev.call (least_val _ _) ?_))
      rw [w64 (by omega) (by omega), hm, ls_len]
      exact Ev.call (calamusref04_At.eq t _ _ ⟨by omega, by omega, by omega⟩) (Ev.ret rfl)
  | 2, _ => exact Ev.neg (tl_ne _ _ (by decide)) (Ev.neg (tl_ne _ _ (by decide)) (Ev.pos (tl_eq _ _ rfl) (Ev.ret rfl)))
  | 3, _ =>
    refine Ev.neg (tl_ne _ _ (by decide)) (Ev.neg (tl_ne _ _ (by decide)) (Ev.neg (tl_ne _ _ (by decide)) (Ev.pos (tl_eq _ _ rfl) ?_)))
    exact Ev.bind (rfirst_ev t _ ht) (Ev.ret rfl)
  | 4, _ =>
    refine Ev.neg (tl_ne _ _ (by decide)) (Ev.neg (tl_ne _ _ (by decide)) (Ev.neg (tl_ne _ _ (by decide)) (Ev.neg (tl_ne _ _ (by decide)) (Ev.pos (tl_eq _ _ rfl) ?_))))
    generalize hR : motI (ls t) p n want 4 = R
    rw [motI] at hR
    rw [w64 (n := m - 1) (by omega) (by omega), w64 (n := lcountI (ls t) - 1 - ofI (ls t) p) (by omega) (by omega)]
    by_cases hq : m - 1 > lcountI (ls t) - 1 - ofI (ls t) p
    · rw [if_pos (by omega)] at hR; subst hR; exact Ev.pos hq (Ev.ret rfl)
    · rw [if_neg (by omega)] at hR; subst hR
      refine Ev.neg hq ?_
      rw [w64 (n := ofI (ls t) p + m) (by omega) (by omega), w64 (by omega) (by omega), hm]
      exact Ev.call (calamusref04_End.eq t _ (by omega)) (Ev.ret rfl)
  | 5, _ =>
    refine Ev.neg (tl_ne _ _ (by decide)) (Ev.neg (tl_ne _ _ (by decide)) (Ev.neg (tl_ne _ _ (by decide)) (Ev.neg (tl_ne _ _ (by decide)) (Ev.neg (tl_ne _ _ (by decide)) (Ev.pos (tl_eq _ _ rfl) ?_)))))
    rw [w64 (by omega) (by omega), hm]
    exact Ev.call (calamusref04_At.eq t _ _ ⟨by omega, by omega, by omega⟩) (Ev.ret rfl)
  | 6, _ =>
    refine Ev.neg (tl_ne _ _ (by decide)) (Ev.neg (tl_ne _ _ (by decide)) (Ev.neg (tl_ne _ _ (by decide)) (Ev.neg (tl_ne _ _ (by decide)) (Ev.neg (tl_ne _ _ (by decide)) (Ev.neg (tl_ne _ _ (by decide)) (Ev.pos (tl_eq _ _ rfl) ?_))))))
    generalize hR : motI (ls t) p n want 6 = R
    rw [motI] at hR
    by_cases hq : ofI (ls t) p = lcountI (ls t) - 1
    · rw [if_pos hq] at hR; subst hR; exact Ev.pos hq (Ev.ret rfl)
    · rw [if_neg hq] at hR; subst hR
      refine Ev.neg hq (Ev.call (least_val _ _) ?_)
      rw [w64 (n := lcountI (ls t) - 1 - ofI (ls t) p) (by omega) (by omega), w64 (by omega) (by omega), hm]
      exact Ev.call (calamusref04_At.eq t _ _ ⟨by omega, by omega, by omega⟩) (Ev.ret rfl)
  | 7, _ =>
    refine Ev.neg (tl_ne _ _ (by decide)) (Ev.neg (tl_ne _ _ (by decide)) (Ev.neg (tl_ne _ _ (by decide)) (Ev.neg (tl_ne _ _ (by decide)) (Ev.neg (tl_ne _ _ (by decide)) (Ev.neg (tl_ne _ _ (by decide)) (Ev.neg (tl_ne _ _ (by decide)) (Ev.pos (tl_eq _ _ rfl) ?_)))))))
    generalize hR : motI (ls t) p n want 7 = R
    rw [motI] at hR
    by_cases hq : ofI (ls t) p = 0
    · rw [if_pos hq] at hR; subst hR; exact Ev.pos hq (Ev.ret rfl)
    · rw [if_neg hq] at hR; subst hR
      refine Ev.neg hq (Ev.call (least_val _ _) ?_)
      rw [w64 (by omega) (by omega), hm]
      exact Ev.call (calamusref04_At.eq t _ _ ⟨by omega, by omega, by omega⟩) (Ev.ret rfl)
  | 8, _ =>
    refine Ev.neg (tl_ne _ _ (by decide)) (Ev.neg (tl_ne _ _ (by decide)) (Ev.neg (tl_ne _ _ (by decide)) (Ev.neg (tl_ne _ _ (by decide)) (Ev.neg (tl_ne _ _ (by decide)) (Ev.neg (tl_ne _ _ (by decide)) (Ev.neg (tl_ne _ _ (by decide)) (Ev.neg (tl_ne _ _ (by decide)) (Ev.neg (tl_ne _ _ (by decide)) ?_))))))))
    refine Ev.call (least_val _ _) ?_
    rw [w64 (by omega) (by omega), hm]
    exact Ev.bind (rfirst_ev t _ ht) (Ev.ret rfl)
  | 9, _ =>
    refine Ev.neg (tl_ne _ _ (by decide)) (Ev.neg (tl_ne _ _ (by decide)) (Ev.neg (tl_ne _ _ (by decide)) (Ev.neg (tl_ne _ _ (by decide)) (Ev.neg (tl_ne _ _ (by decide)) (Ev.neg (tl_ne _ _ (by decide)) (Ev.neg (tl_ne _ _ (by decide)) (Ev.neg (tl_ne _ _ (by decide)) (Ev.pos (tl_eq _ _ rfl) ?_))))))))
    show Ev _ ((firstI (ls t) (min (if n < 1 then lcountI (ls t) - 1 else n - 1) (lcountI (ls t) - 1)), true) : Int × Bool)
    generalize hR : ((firstI (ls t) (min (if n < 1 then lcountI (ls t) - 1 else n - 1) (lcountI (ls t) - 1)), true) : Int × Bool) = R
    by_cases hq : n < 1
    · rw [if_pos hq] at hR; subst hR
      refine Ev.pos hq (Ev.call (least_val _ _) ?_)
      rw [w64 (n := lcountI (ls t) - 1 + 1) (by omega) (by omega), w64 (by omega) (by omega), show lcountI (ls t) - 1 + 1 - 1 = lcountI (ls t) - 1 by omega]
      exact Ev.bind (rfirst_ev t _ ht) (Ev.ret rfl)
    · rw [if_neg hq] at hR; subst hR
      refine Ev.neg hq (Ev.call (least_val _ _) ?_)
      rw [w64 (by omega) (by omega), show m = n by omega]
      exact Ev.bind (rfirst_ev t _ ht) (Ev.ret rfl)
end
theorem motJ_some {s : ByteArray} {j : Nat} (h : motJ s = some j) : j < 10 ∧ s = motL.getD j ByteArray.empty := by
  unfold motJ at h
  repeat' (split at h)
  all_goals (cases h <;> exact ⟨by omega, by assumption⟩)
theorem rgo_ev (t : ByteArray) (p : Int) (key : ByteArray) (n want : Int) (ht : t.size ≤ 1000000) (hn : -9223372036854775808 ≤ n ∧ n ≤ 9223372036854775807) (hw : -9223372036854775808 ≤ want ∧ want ≤ 9223372036854775807) : Ev (fun K => calamusref14_Go.f K t p key n want) (goM (ls t) p key n want) := by
  unfold calamusref14_Go.f
  refine Ev.call (calamusref03_Place.eq t p (by omega)) ?_
  rcases place_cases t p with hp | ⟨q, rfl, hle, hp, hv⟩
  · have : goM (ls t) p key n want = (0, false) := by unfold goM; cases motJ key <;> simp [hp]
    rw [this, hp]
    refine Ev.neg (by simp) ?_
    refine Ev.step (fun _ => (by rw [calamusref14_Go.j0])) ?_
    exact Ev.pos rfl (Ev.ret rfl)
  · refine Ev.pos hp (Ev.bind (rhas_ev key) ?_)
    refine Ev.step (fun _ => (by rw [calamusref14_Go.j0])) ?_
    cases hJ : motJ key with
    | none =>
      have : goM (ls t) q key n want = (0, false) := by unfold goM; rw [hJ]
      rw [this]; exact Ev.pos rfl (Ev.ret rfl)
    | some j =>
      have hg : goM (ls t) q key n want = motI (ls t) q n want j := by unfold goM; rw [hJ]; simp [hp]
      obtain ⟨hj, hk⟩ := motJ_some hJ
      have hc : 0 ≤ lcountI (ls t) ∧ lcountI (ls t) ≤ t.size + 1 := by
        have := tens_le (ls t); rw [ls_len] at this; unfold lcountI; split <;> omega
      rw [hg]
      refine Ev.neg (by simp) (Ev.call (calamusref04_Of.eq t _ (by omega)) (Ev.call (calamusref04_Start.eq t _ (by omega)) (Ev.call (calamusref04_End.eq t _ (by omega)) (Ev.call (calamusref04_Count.eq t (by omega)) ?_))))
      rw [w64 (by omega) (by omega), hk]
      exact Ev.ite (fun h => rj1_ev t q n want 1 ht hp hn hw (by omega) j hj) (fun h => rj1_ev t q n want n ht hp hn hw (by omega) j hj)
end Go.Proofs.YtbilknmcikmcoaaDoor
/- Where a simple motion's target lies: plain facts. -/
namespace Go.Proofs.YtbilknmcikmcoaaDoor
open Go.RowKit
set_option linter.unusedVariables false
set_option linter.unusedSimpArgs false
theorem line_exists {l : List UInt8} {k : Int} (hv : validL l = true) (h0 : 0 ≤ k) (h1 : k ≤ lcountI l - 1) : ∃ c : Nat, placeB l c = true ∧ ofI l c = k ∧ lst l c = c := by
  unfold lcountI at h1; rw [if_pos hv] at h1
  obtain ⟨f, e, g1, g2, g3, g4, g5, _⟩ := whole_at (j := k.toNat) hv (by omega)
  obtain ⟨_, s2, _⟩ := start_of (p := f) (by omega) hv
  have hf : f = lst l f := by
    rw [g5, g1] at s2; omega
  refine ⟨f, ?_, by rw [g5]; omega, hf.symm⟩
  rw [hf]; exact lst_place hv f (by omega)
theorem vAt_in {l : List UInt8} {b : Nat} (hpb : placeB l b = true) : ∀ (d p : Nat) (c : Int), b - p ≤ d → p ≤ b → placeB l p = true → ∃ q : Nat, vAt l b p c = q ∧ p ≤ q ∧ q ≤ b ∧ placeB l q = true := by
  intro d
  induction d with
  | zero => intro p c h1 h2 hp; obtain rfl : p = b := by omega
            exact ⟨p, vAt_end l p c, Nat.le_refl _, Nat.le_refl _, hp⟩
  | succ d ih =>
    intro p c h1 h2 hp
    by_cases he : p = b
    · subst he; exact ⟨p, vAt_end l p c, Nat.le_refl _, Nat.le_refl _, hp⟩
    · by_cases hc : 0 < c
      · obtain ⟨n, g1, g2, g3, g4, g5⟩ := vAt_step (c := c) hc (show p < b by omega) hp hpb
        rw [g5]
        obtain ⟨q, k1, k2, k3, k4⟩ := ih n (c - 1) (by omega) g3 g4
        exact ⟨q, k1, by omega, k3, k4⟩
      · rw [vAt_neg l b p c (by omega), vAt_zero hpb hp h2]
        exact ⟨p, rfl, Nat.le_refl _, h2, hp⟩
theorem at_in {l : List UInt8} {k : Int} (hv : validL l = true) (h0 : 0 ≤ k) (h1 : k ≤ lcountI l - 1) (c : Int) : ∃ q : Nat, atI l k c = q ∧ placeB l q = true ∧ ofI l q = k := by
  obtain ⟨f, hf, ho, _⟩ := line_exists hv h0 h1
  obtain ⟨e, g1, g2, g3, g4, g5, g6, g7, g8⟩ := line_pair hf
  rw [← ho, at_pair g1 g7 g8 (by omega)]
  obtain ⟨q, k1, k2, k3, k4⟩ := vAt_in g8 _ (lst l f) c (Nat.le_refl _) (by omega) g7
  exact ⟨q, k1, k4, in_line' hf g3 k2 k3⟩
theorem first_in {l : List UInt8} {k : Int} (hv : validL l = true) (h0 : 0 ≤ k) (h1 : k ≤ lcountI l - 1) : ∃ q : Nat, firstI l k = q ∧ placeB l q = true ∧ ofI l q = k := by
  obtain ⟨f, hf, ho, _⟩ := line_exists hv h0 h1
  obtain ⟨q, g1, g2, g3⟩ := first_facts hf
  refine ⟨q, by rw [← ho]; exact g1, ?_, by rw [← ho]; exact g2⟩
  unfold normalB at g3; rw [Bool.and_eq_true] at g3; exact g3.1
theorem ends_in {l : List UInt8} {k : Int} (hv : validL l = true) (h0 : 0 ≤ k) (h1 : k ≤ lcountI l - 1) : ∃ q : Nat, endI l k = q ∧ placeB l q = true ∧ ofI l q = k := by
  obtain ⟨f, hf, ho, _⟩ := line_exists hv h0 h1
  obtain ⟨e, g1, g2, g3, g4, g5, g6, g7, g8⟩ := line_pair hf
  exact ⟨e, by rw [← ho]; exact g3, g8, by rw [← ho]; exact in_line' hf g3 (by omega) (Nat.le_refl _)⟩
theorem vAt_lt {l : List UInt8} {b c : Nat} (hpb : placeB l b = true) (hpc : placeB l c = true) (hcb : c ≤ b) : ∀ (d p : Nat) (m : Int), c - p ≤ d → p ≤ c → placeB l p = true → 0 ≤ m → m < (cntL (rowL l (p, c)) : Nat) → vAt l b p m < c := by
  have hcl := (valid_at hpc).2.1
  intro d
  have none : ∀ p, cntL (rowL l (p, p)) = 0 := fun p => by rw [row_nil]; rfl
  induction d with
  | zero =>
    intro p m h1 h2 hp h0 hm
    obtain rfl : p = c := by omega
    rw [none] at hm; omega
  | succ d ih =>
    intro p m h1 h2 hp h0 hm
    by_cases he : p = c
    · subst he; rw [none] at hm; omega
    · by_cases hz : m = 0
      · rw [hz, vAt_zero hpb hp (by omega)]; omega
      · obtain ⟨n, g1, g2, g3, g4, g5⟩ := next_gap hp (show p < l.length by omega)
        have hnc : n ≤ c := by
          rcases Nat.lt_or_ge c n with h | h
          · rw [g5 c (by omega) h] at hpc; cases hpc
          · exact h
        have h1c := cnt_one_rune hp (n - (p + 1)) n (by omega) g3 (fun i a b => g5 i a b)
        have hc2 : cntL (rowL l (p, c)) = 1 + cntL (rowL l (n, c)) := by rw [row_app (n := n) (by omega) hnc hcl, cnt_app, h1c]
        obtain ⟨q, k1, k2, k3, k4, k5⟩ := vAt_step (b := b) (p := p) (c := m) (by omega) (by omega) hp hpb
        obtain rfl : q = n := by rw [g1] at k1; omega
        rw [k5]
        exact ih q (m - 1) (by omega) hnc g4 (by omega) (by omega)
theorem mot_place {l : List UInt8} {p : Nat} (hp : placeB l p = true) (n want : Int) (j : Nat) (hj : j < 10) : ((motI l p n want j).2 = false → (motI l p n want j).1 = 0) ∧ ((motI l p n want j).2 = true → ∃ q : Nat, (motI l p n want j).1 = q ∧ placeB l q = true ∧
    (j = 0 → ofI l q = ofI l p ∧ q < p) ∧ (j = 1 → ofI l q = ofI l p ∧ p < q) ∧ (j = 2 ∨ j = 3 ∨ j = 5 → ofI l q = ofI l p) ∧ (j = 6 → ofI l p < ofI l q) ∧ (j = 7 → ofI l q < ofI l p)) := by
  obtain ⟨_, hle, hv⟩ := valid_at hp
  obtain ⟨e, g1, g2, g3, g4, g5, g6, g7, g8⟩ := line_pair hp
  have hc := col_le hp
  have hL : 0 ≤ ofI l p ∧ ofI l p ≤ lcountI l - 1 ∧ 0 ≤ lcountI l - 1 := by
    obtain ⟨k1, _⟩ := start_of hle hv
    have := fds_mono l p
    rw [k1]; unfold lcountI; rw [if_pos hv]; omega
  match j, hj with
  | 0, _ =>
    simp only [motI]
    split
    · exact ⟨fun _ => rfl, fun h => by cases h⟩
    · rename_i hq
      refine ⟨fun h => (by cases h), fun _ => ?_⟩
      obtain ⟨q, k1, k2, k3⟩ := at_in hv hL.1 hL.2.1 (colI l p - min (max n 1) (colI l p))
      refine ⟨q, k1, k2, fun _ => ⟨k3, ?_⟩, by omega, by omega, by omega, by omega⟩
      rw [at_pair g1 g7 g8 (by omega)] at k1
      have hcc := col_cnt hp
      obtain ⟨n', a1, a2, a3, a4, a5, a6, a7⟩ := col_prev hp (by rw [g2] at hq; omega)
      have hc2 := col_le a4
      have := vAt_lt g8 hp g5 _ (lst l p) (colI l p - min (max n 1) (colI l p)) (Nat.le_refl _) g4 g7 (by omega) (by rw [← hcc]; omega)
      omega
  | 1, _ =>
    simp only [motI]
    split
    · exact ⟨fun _ => rfl, fun h => by cases h⟩
    · rename_i hq
      refine ⟨fun h => (by cases h), fun _ => ?_⟩
      rw [at_plus hp g3 _ (by omega)]
      obtain ⟨x, a1, a2, a3, a4, a5⟩ := vAt_step (b := e) (p := p) (c := min (max n 1) l.length) (by rw [g3] at hq; omega) (by rw [g3] at hq; omega) hp g8
      rw [a5]
      obtain ⟨q, k1, k2, k3, k4⟩ := vAt_in g8 _ x (min (max n 1) l.length - 1) (Nat.le_refl _) a3 a4
      exact ⟨q, k1, k4, by omega, fun _ => ⟨in_line' hp g3 (by omega) k3, by omega⟩, by omega, by omega, by omega⟩
  | 2, _ =>
    refine ⟨fun h => (by cases h), fun _ => ?_⟩
    simp only [motI]
    exact ⟨lst l p, g2, g7, by omega, by omega, fun _ => in_line' hp g3 (Nat.le_refl _) (by omega), by omega, by omega⟩
  | 3, _ =>
    refine ⟨fun h => (by cases h), fun _ => ?_⟩
    simp only [motI]
    obtain ⟨q, k1, k2, k3⟩ := first_in hv hL.1 hL.2.1
    exact ⟨q, k1, k2, by omega, by omega, fun _ => k3, by omega, by omega⟩
  | 4, _ =>
    simp only [motI]
    split
    · exact ⟨fun _ => rfl, fun h => by cases h⟩
    · refine ⟨fun h => (by cases h), fun _ => ?_⟩
      obtain ⟨q, k1, k2, k3⟩ := ends_in (k := ofI l p + max n 1 - 1) hv (by omega) (by omega)
      exact ⟨q, k1, k2, by omega, by omega, by omega, by omega, by omega⟩
  | 5, _ =>
    refine ⟨fun h => (by cases h), fun _ => ?_⟩
    simp only [motI]
    obtain ⟨q, k1, k2, k3⟩ := at_in hv hL.1 hL.2.1 (max n 1 - 1)
    exact ⟨q, k1, k2, by omega, by omega, fun _ => k3, by omega, by omega⟩
  | 6, _ =>
    simp only [motI]
    split
    · exact ⟨fun _ => rfl, fun h => by cases h⟩
    · refine ⟨fun h => (by cases h), fun _ => ?_⟩
      obtain ⟨q, k1, k2, k3⟩ := at_in (k := ofI l p + min (max n 1) (lcountI l - 1 - ofI l p)) hv (by omega) (by omega) want
      exact ⟨q, k1, k2, by omega, by omega, by omega, fun _ => by omega, by omega⟩
  | 7, _ =>
    simp only [motI]
    split
    · exact ⟨fun _ => rfl, fun h => by cases h⟩
    · refine ⟨fun h => (by cases h), fun _ => ?_⟩
      obtain ⟨q, k1, k2, k3⟩ := at_in (k := ofI l p - min (max n 1) (ofI l p)) hv (by omega) (by omega) want
      exact ⟨q, k1, k2, by omega, by omega, by omega, by omega, fun _ => by omega⟩
  | 8, _ =>
    refine ⟨fun h => (by cases h), fun _ => ?_⟩
    simp only [motI]
    obtain ⟨q, k1, k2, k3⟩ := first_in (k := min (max n 1 - 1) (lcountI l - 1)) hv (by omega) (by omega)
    exact ⟨q, k1, k2, by omega, by omega, by omega, by omega, by omega⟩
  | 9, _ =>
    refine ⟨fun h => (by cases h), fun _ => ?_⟩
    show ∃ q : Nat, firstI l (min (if n < 1 then lcountI l - 1 else n - 1) (lcountI l - 1)) = q ∧ _
    obtain ⟨q, k1, k2, k3⟩ := first_in (k := min (if n < 1 then lcountI l - 1 else n - 1) (lcountI l - 1)) hv (by split <;> omega) (by omega)
    exact ⟨q, k1, k2, by omega, by omega, by omega, by omega, by omega⟩
end Go.Proofs.YtbilknmcikmcoaaDoor
-- Printed by this work's xp.py out of the translation. Lean checks it.
namespace Go.Proofs.YtbilknmcikmcoaaDoor.QO
open Go.RowKit Go.Proofs.YtbilknmcikmcoaaDoorW.PrintWords Go.Proofs.YtbilknmcikmcoaaDoorW.PrintLast Go.Proofs.YtbilknmcikmcoaaDoorW.PrintMore
attribute [local go_sem] max2_int min2_int max_two min_two max_three min_three max_four min_four   -- for this text's walks alone
set_option linter.unusedVariables false
set_option linter.unusedSimpArgs false


/-! ### calamuslaw14_MovePlaces -/
mutual
def calamuslaw14_MovePlaces.j0 : Nat → ByteArray → Int → ByteArray → Int → Bool → Option (Bool)
  | 0, _, _, _, _, _ => none
  | k + 1, x0, x1, x2, x11, x44 => if x44 = true then (some false) else ((line_Of.f x0 x1).bind fun t176 => ((line_Of.f x0 x11).bind fun t177 => (if x2.toList = ([104] : List UInt8) then (calamuslaw14_MovePlaces.j1 k x1 x2 x11 t176 t177 x2 (x2.toList == ([104] : List UInt8))) else (if x2.toList = ([108] : List UInt8) then (calamuslaw14_MovePlaces.j1 k x1 x2 x11 t176 t177 x2 (x2.toList == ([108] : List UInt8))) else (if x2.toList = ([48] : List UInt8) then (calamuslaw14_MovePlaces.j1 k x1 x2 x11 t176 t177 x2 (x2.toList == ([48] : List UInt8))) else (if x2.toList = ([94] : List UInt8) then (calamuslaw14_MovePlaces.j1 k x1 x2 x11 t176 t177 x2 (x2.toList == ([94] : List UInt8))) else (calamuslaw14_MovePlaces.j1 k x1 x2 x11 t176 t177 x2 (x2.toList == ([124] : List UInt8)))))))))
def calamuslaw14_MovePlaces.j1 : Nat → Int → ByteArray → Int → Int → Int → ByteArray → Bool → Option (Bool)
  | 0, _, _, _, _, _, _, _ => none
  | k + 1, x1, x2, x11, x13, x14, x51, x52 => if x52 = true then (if x13 = x14 then (if x2.toList = ([104] : List UInt8) then (if x11 < x1 then (if x2.toList = ([108] : List UInt8) then (if x11 > x1 then ((calamuslaw14_lives.f).bind fun t178 => (some t178)) else (some false)) else ((calamuslaw14_lives.f).bind fun t179 => (some t179))) else (some false)) else (if x2.toList = ([108] : List UInt8) then (if x11 > x1 then ((calamuslaw14_lives.f).bind fun t180 => (some t180)) else (some false)) else ((calamuslaw14_lives.f).bind fun t181 => (some t181)))) else (some false)) else (if x51.toList = ([106] : List UInt8) then (if x14 > x13 then ((calamuslaw14_lives.f).bind fun t182 => (some t182)) else (some false)) else (if x51.toList = ([107] : List UInt8) then (if x14 < x13 then ((calamuslaw14_lives.f).bind fun t183 => (some t183)) else (some false)) else ((calamuslaw14_lives.f).bind fun t184 => (some t184))))
end
def calamuslaw14_MovePlaces.f (k : Nat) (a0 : ByteArray) (a1 : Int) (a2 : ByteArray) (a3 : Int) (a4 : Int) : Option (Bool) := if (a0.size : Int) > 300 then ((calamuslaw14_lives.f).bind fun t170 => (some t170)) else ((move_Go.f a0 a1 a2 a3 a4).bind fun bt171 => (if bt171.2 = true then ((utf_Place.f a0 bt171.1).bind fun t174 => (if t174 = true then ((utf_Place.f a0 a1).bind fun t175 => (calamuslaw14_MovePlaces.j0 k a0 a1 a2 bt171.1 (!t175))) else (calamuslaw14_MovePlaces.j0 k a0 a1 a2 bt171.1 true))) else (if bt171.1 = 0 then ((calamuslaw14_lives.f).bind fun t173 => (some t173)) else (some false))))
theorem calamuslaw14_MovePlaces.mono_l : ∀ k, (∀ y0 y1 y2 y3 y4, LeO (calamuslaw14_MovePlaces.j0 k y0 y1 y2 y3 y4) (calamuslaw14_MovePlaces.j0 (k + 1) y0 y1 y2 y3 y4)) ∧ (∀ y0 y1 y2 y3 y4 y5 y6, LeO (calamuslaw14_MovePlaces.j1 k y0 y1 y2 y3 y4 y5 y6) (calamuslaw14_MovePlaces.j1 (k + 1) y0 y1 y2 y3 y4 y5 y6))
  | 0 => ⟨fun _ _ _ _ _ r h => by simp [calamuslaw14_MovePlaces.j0] at h, fun _ _ _ _ _ _ _ r h => by simp [calamuslaw14_MovePlaces.j1] at h⟩
  | k + 1 => by
    obtain ⟨ih0, ih1⟩ := calamuslaw14_MovePlaces.mono_l k
    refine ⟨?_, ?_⟩
    · intro y0 y1 y2 y3 y4
      unfold calamuslaw14_MovePlaces.j0
      repeat' first
      | (with_reducible exact ih0 _ _ _ _ _)
      | (with_reducible exact ih1 _ _ _ _ _ _ _)
      | (with_reducible exact LeO.refl _)
      | (with_reducible exact LeO.none _)
      | (with_reducible refine LeO.ite ?_ ?_)
      | (with_reducible refine LeO.bind ?_ (fun _ => ?_))
      | exact ih0 _ _ _ _ _
      | exact ih1 _ _ _ _ _ _ _
      | exact LeO.none _
      | refine LeO.ite ?_ ?_
      | refine LeO.bind ?_ (fun _ => ?_)
    · intro y0 y1 y2 y3 y4 y5 y6
      unfold calamuslaw14_MovePlaces.j1
      repeat' first
      | (with_reducible exact ih0 _ _ _ _ _)
      | (with_reducible exact ih1 _ _ _ _ _ _ _)
      | (with_reducible exact LeO.refl _)
      | (with_reducible exact LeO.none _)
      | (with_reducible refine LeO.ite ?_ ?_)
      | (with_reducible refine LeO.bind ?_ (fun _ => ?_))
      | exact ih0 _ _ _ _ _
      | exact ih1 _ _ _ _ _ _ _
      | exact LeO.none _
      | refine LeO.ite ?_ ?_
      | refine LeO.bind ?_ (fun _ => ?_)
theorem calamuslaw14_MovePlaces.mono : ∀ a0 a1 a2 a3 a4 k, LeO (calamuslaw14_MovePlaces.f k a0 a1 a2 a3 a4) (calamuslaw14_MovePlaces.f (k + 1) a0 a1 a2 a3 a4) := by
  intro a0 a1 a2 a3 a4 k
  obtain ⟨ih0, ih1⟩ := calamuslaw14_MovePlaces.mono_l k
  unfold calamuslaw14_MovePlaces.f
  repeat' first
      | (with_reducible exact ih0 _ _ _ _ _)
      | (with_reducible exact ih1 _ _ _ _ _ _ _)
      | (with_reducible exact LeO.refl _)
      | (with_reducible exact LeO.none _)
      | (with_reducible refine LeO.ite ?_ ?_)
      | (with_reducible refine LeO.bind ?_ (fun _ => ?_))
      | exact ih0 _ _ _ _ _
      | exact ih1 _ _ _ _ _ _ _
      | exact LeO.none _
      | refine LeO.ite ?_ ?_
      | refine LeO.bind ?_ (fun _ => ?_)
set_option maxHeartbeats 8000000 in
set_option maxRecDepth 100000 in
theorem calamuslaw14_MovePlaces.calls (k : Nat) (a0 : ByteArray) (a1 : Int) (a2 : ByteArray) (a3 : Int) (a4 : Int) (r : Bool) (w : World) (h : calamuslaw14_MovePlaces.f k a0 a1 a2 a3 a4 = some r) :
    Calls Tryd.prog 9 #[.string a0, .int .i64 a1, .string a2, .int .i64 a3, .int .i64 a4] w fun e w' => e = .returned (.bool r) ∧ Below w.heap.size w w' := by
  have HB := Aside0.mk (Below.refl w.heap.size w)
  have H : (if (a0.size : Int) > 300 then ((calamuslaw14_lives.f).bind fun t170 => (some t170)) else ((move_Go.f a0 a1 a2 a3 a4).bind fun bt171 => (if bt171.2 = true then ((utf_Place.f a0 bt171.1).bind fun t174 => (if t174 = true then ((utf_Place.f a0 a1).bind fun t175 => (calamuslaw14_MovePlaces.j0 k a0 a1 a2 bt171.1 (!t175))) else (calamuslaw14_MovePlaces.j0 k a0 a1 a2 bt171.1 true))) else (if bt171.1 = 0 then ((calamuslaw14_lives.f).bind fun t173 => (some t173)) else (some false))))) = some r := h
  clear h
  by_cases c6 : (a0.size : Int) > 300
  · rw [if_pos c6] at H
    have c6b0 : decide (300 < (a0.size : Int)) = true := decide_eq_true c6
    have c6b1 : decide (300 < a0.size) = true := decide_eq_true (by omega)
    clear c6
    replace H := Option.bind_eq_some_iff.mp H
    obtain ⟨t170, A70, H⟩ := H
    replace H : (some t170) = some r := H
    have A7 := Aside0.mk A70
    clear A70
    obtain rfl := Option.some.inj H
    go_enter Tryd.func9, Tryd.ntmps9
    go_wp2_with (first | ((with_reducible refine gate_callee (f := 21) rfl ?_); refine goesL_ (some 18) rfl rfl Tryd.func21 (by kernel_rfl) rfl #[] rfl (by (try simp only [List.map_toArray, List.map_cons, List.map_nil]); first | done | rfl | (simp only [List.length_drop, List.length_take]; rfl)) ?_; (with_reducible refine (calamuslaw14_lives.calls  t170 _ A7.out).mono ?_); rintro e w8 ⟨rfl, hb⟩; refine ⟨_, rfl, ?_⟩; have n0_ := Aside0.mk (below_step (by repeat (first | (with_reducible first | exact HB.out | apply below_alloc | apply pw_below_drewN | apply below_drew1) | exact HB.out)) hb); clear HB; have HB := n0_; clear n0_; (try clear hb); (try clear hb2); (try clear hk); (try clear hi)))
    go_ret
    exact ⟨by first | rfl | (simp [errW_none, errW_some] <;> rfl) | (simp [*, errW_none, errW_some] <;> rfl), by repeat (first | (with_reducible first | exact HB.out | apply below_alloc | apply pw_below_drewN | apply below_drew1) | exact HB.out)⟩
  · rw [if_neg c6] at H
    have c6b0 : decide (300 < (a0.size : Int)) = false := decide_eq_false c6
    have c6b1 : decide (300 < a0.size) = false := decide_eq_false (by omega)
    clear c6
    replace H := Option.bind_eq_some_iff.mp H
    obtain ⟨⟨t171, t172⟩, A90, H⟩ := H
    replace H : (if t172 = true then ((utf_Place.f a0 t171).bind fun t174 => (if t174 = true then ((utf_Place.f a0 a1).bind fun t175 => (calamuslaw14_MovePlaces.j0 k a0 a1 a2 t171 (!t175))) else (calamuslaw14_MovePlaces.j0 k a0 a1 a2 t171 true))) else (if t171 = 0 then ((calamuslaw14_lives.f).bind fun t173 => (some t173)) else (some false))) = some r := H
    have A9 := Aside0.mk A90
    clear A90
    by_cases c10 : t172 = true
    · subst c10
      have H1 : ((utf_Place.f a0 t171).bind fun t174 => (if t174 = true then ((utf_Place.f a0 a1).bind fun t175 => (calamuslaw14_MovePlaces.j0 k a0 a1 a2 t171 (!t175))) else (calamuslaw14_MovePlaces.j0 k a0 a1 a2 t171 true))) = some r := by rw [if_pos rfl] at H; exact H
      clear H
      have H := H1
      clear H1
      have HC11 := Aside0.mk H
      clear H
      go_enter Tryd.func9, Tryd.ntmps9
      go_upto_region 6 with (first | ((with_reducible refine gate_callee (f := 22) rfl ?_); refine goesL_ (some 25) rfl rfl Tryd.func22 (by kernel_rfl) rfl #[.string a0, .int .i64 a1, .string a2, .int .i64 a3, .int .i64 a4] rfl (by (try simp only [List.map_toArray, List.map_cons, List.map_nil]); first | done | rfl | (simp only [List.length_drop, List.length_take]; rfl)) ?_; (with_reducible refine (move_Go.calls a0 a1 a2 a3 a4 t171 true _ A9.out).mono ?_); rintro e w12 ⟨rfl, hb⟩; refine ⟨_, rfl, ?_⟩; have n0_ := Aside0.mk (below_step (by repeat (first | (with_reducible first | exact HB.out | apply below_alloc | apply pw_below_drewN | apply below_drew1) | exact HB.out)) hb); clear HB; have HB := n0_; clear n0_; (try clear hb); (try clear hb2); (try clear hk); (try clear hi)))
      (try simp only [Act.put, List.setIfInBounds_toArray, List.set_cons_zero, List.set_cons_succ])
      go_cut [44] (fun v44 wc => ∃ (kq : Nat) (x44_10 : Bool), v44 = .bool x44_10 ∧ Aside0 (calamuslaw14_MovePlaces.j0 kq a0 a1 a2 t171 x44_10 = some r) ∧ Aside0 (kq ≤ k) ∧ Aside0 (Below w.heap.size w wc))
      case first =>
        have H := HC11.out
        clear HC11
        replace H := Option.bind_eq_some_iff.mp H
        obtain ⟨t174, A130, H⟩ := H
        replace H : (if t174 = true then ((utf_Place.f a0 a1).bind fun t175 => (calamuslaw14_MovePlaces.j0 k a0 a1 a2 t171 (!t175))) else (calamuslaw14_MovePlaces.j0 k a0 a1 a2 t171 true)) = some r := H
        have A13 := Aside0.mk A130
        clear A130
        by_cases c14 : t174 = true
        · subst c14
          have H1 : ((utf_Place.f a0 a1).bind fun t175 => (calamuslaw14_MovePlaces.j0 k a0 a1 a2 t171 (!t175))) = some r := by rw [if_pos rfl] at H; exact H
          clear H
          have H := H1
          clear H1
          replace H := Option.bind_eq_some_iff.mp H
          obtain ⟨t175, A150, H⟩ := H
          replace H : (calamuslaw14_MovePlaces.j0 k a0 a1 a2 t171 (!t175)) = some r := H
          have A15 := Aside0.mk A150
          clear A150
          have H' := Aside0.mk H
          clear H
          go_wp2_with (first | ((with_reducible refine gate_callee (f := 16) rfl ?_); refine goesL_ (some 37) rfl rfl Tryd.func16 (by kernel_rfl) rfl #[.string a0, .int .i64 t171] rfl (by (try simp only [List.map_toArray, List.map_cons, List.map_nil]); first | done | rfl | (simp only [List.length_drop, List.length_take]; rfl)) ?_; (with_reducible refine (utf_Place.calls a0 t171 true _ A13.out).mono ?_); rintro e w16 ⟨rfl, hb⟩; refine ⟨_, rfl, ?_⟩; have n0_ := Aside0.mk (below_step (by repeat (first | (with_reducible first | exact HB.out | apply below_alloc | apply pw_below_drewN | apply below_drew1) | exact HB.out)) hb); clear HB; have HB := n0_; clear n0_; (try clear hb); (try clear hb2); (try clear hk); (try clear hi)) | (go_at_call 16; (with_reducible refine (utf_Place.calls a0 a1 t175 _ A15.out).mono ?_); rintro e w17 ⟨rfl, hb⟩; have n0_ := Aside0.mk (below_step (by repeat (first | (with_reducible first | exact HB.out | apply below_alloc | apply pw_below_drewN | apply below_drew1) | exact HB.out)) hb); clear HB; have HB := n0_; clear n0_; (try clear hb); (try clear hb2); (try clear hk); (try clear hi)))
          go_meet
          case rel => exact ⟨_, (!t175), (by first | rfl | (simp; done) | (simp [*]; done)), H', ⟨by first | omega | exact Nat.le_refl _⟩, ⟨by repeat (first | (with_reducible first | exact HB.out | apply below_alloc | apply pw_below_drewN | apply below_drew1) | exact HB.out)⟩⟩
        · replace c14 := Bool.eq_false_iff.mpr c14
          subst c14
          have H1 : (calamuslaw14_MovePlaces.j0 k a0 a1 a2 t171 true) = some r := by rw [if_neg (show ¬ (false = true) by decide)] at H; exact H
          clear H
          have H := H1
          clear H1
          have H' := Aside0.mk H
          clear H
          go_wp2_with (first | ((with_reducible refine gate_callee (f := 16) rfl ?_); refine goesL_ (some 37) rfl rfl Tryd.func16 (by kernel_rfl) rfl #[.string a0, .int .i64 t171] rfl (by (try simp only [List.map_toArray, List.map_cons, List.map_nil]); first | done | rfl | (simp only [List.length_drop, List.length_take]; rfl)) ?_; (with_reducible refine (utf_Place.calls a0 t171 false _ A13.out).mono ?_); rintro e w18 ⟨rfl, hb⟩; refine ⟨_, rfl, ?_⟩; have n0_ := Aside0.mk (below_step (by repeat (first | (with_reducible first | exact HB.out | apply below_alloc | apply pw_below_drewN | apply below_drew1) | exact HB.out)) hb); clear HB; have HB := n0_; clear n0_; (try clear hb); (try clear hb2); (try clear hk); (try clear hi)))
          go_meet
          case rel => exact ⟨_, (true), (by first | rfl | (simp; done) | (simp [*]; done)), H', ⟨by first | omega | exact Nat.le_refl _⟩, ⟨by repeat (first | (with_reducible first | exact HB.out | apply below_alloc | apply pw_below_drewN | apply below_drew1) | exact HB.out)⟩⟩
      case rest =>
        clear HC11
        try clear c1
        try clear c2
        try clear p2
        try clear c6
        try clear c6b0
        try clear c6b1
        try clear c9
        try clear c10
        try clear c14
        try clear c16
        obtain ⟨kq, x44_10, rfl, HA, HJ10, HB⟩ := hcut
        cases kq with
        | zero => exact absurd HA.out (by simp [calamuslaw14_MovePlaces.j0])
        | succ kj10 =>
          have H := HA.out
          clear HA
          simp only [calamuslaw14_MovePlaces.j0] at H
          by_cases c19 : x44_10 = true
          · subst c19
            have H1 : (some false) = some r := by rw [if_pos rfl] at H; exact H
            clear H
            have H := H1
            clear H1
            obtain rfl := Option.some.inj H
            go_wp2
            go_ret
            exact ⟨by first | rfl | (simp [errW_none, errW_some] <;> rfl) | (simp [*, errW_none, errW_some] <;> rfl), by repeat (first | (with_reducible first | exact HB.out | apply below_alloc | apply pw_below_drewN | apply below_drew1) | exact HB.out)⟩
          · replace c19 := Bool.eq_false_iff.mpr c19
            subst c19
            have H1 : ((line_Of.f a0 a1).bind fun t176 => ((line_Of.f a0 t171).bind fun t177 => (if a2.toList = ([104] : List UInt8) then (calamuslaw14_MovePlaces.j1 kj10 a1 a2 t171 t176 t177 a2 (a2.toList == ([104] : List UInt8))) else (if a2.toList = ([108] : List UInt8) then (calamuslaw14_MovePlaces.j1 kj10 a1 a2 t171 t176 t177 a2 (a2.toList == ([108] : List UInt8))) else (if a2.toList = ([48] : List UInt8) then (calamuslaw14_MovePlaces.j1 kj10 a1 a2 t171 t176 t177 a2 (a2.toList == ([48] : List UInt8))) else (if a2.toList = ([94] : List UInt8) then (calamuslaw14_MovePlaces.j1 kj10 a1 a2 t171 t176 t177 a2 (a2.toList == ([94] : List UInt8))) else (calamuslaw14_MovePlaces.j1 kj10 a1 a2 t171 t176 t177 a2 (a2.toList == ([124] : List UInt8))))))))) = some r := by rw [if_neg (show ¬ (false = true) by decide)] at H; exact H
            clear H
            have H := H1
            clear H1
            replace H := Option.bind_eq_some_iff.mp H
            obtain ⟨t176, A200, H⟩ := H
            replace H : ((line_Of.f a0 t171).bind fun t177 => (if a2.toList = ([104] : List UInt8) then (calamuslaw14_MovePlaces.j1 kj10 a1 a2 t171 t176 t177 a2 (a2.toList == ([104] : List UInt8))) else (if a2.toList = ([108] : List UInt8) then (calamuslaw14_MovePlaces.j1 kj10 a1 a2 t171 t176 t177 a2 (a2.toList == ([108] : List UInt8))) else (if a2.toList = ([48] : List UInt8) then (calamuslaw14_MovePlaces.j1 kj10 a1 a2 t171 t176 t177 a2 (a2.toList == ([48] : List UInt8))) else (if a2.toList = ([94] : List UInt8) then (calamuslaw14_MovePlaces.j1 kj10 a1 a2 t171 t176 t177 a2 (a2.toList == ([94] : List UInt8))) else (calamuslaw14_MovePlaces.j1 kj10 a1 a2 t171 t176 t177 a2 (a2.toList == ([124] : List UInt8)))))))) = some r := H
            have A20 := Aside0.mk A200
            clear A200
            replace H := Option.bind_eq_some_iff.mp H
            obtain ⟨t177, A210, H⟩ := H
            replace H : (if a2.toList = ([104] : List UInt8) then (calamuslaw14_MovePlaces.j1 kj10 a1 a2 t171 t176 t177 a2 (a2.toList == ([104] : List UInt8))) else (if a2.toList = ([108] : List UInt8) then (calamuslaw14_MovePlaces.j1 kj10 a1 a2 t171 t176 t177 a2 (a2.toList == ([108] : List UInt8))) else (if a2.toList = ([48] : List UInt8) then (calamuslaw14_MovePlaces.j1 kj10 a1 a2 t171 t176 t177 a2 (a2.toList == ([48] : List UInt8))) else (if a2.toList = ([94] : List UInt8) then (calamuslaw14_MovePlaces.j1 kj10 a1 a2 t171 t176 t177 a2 (a2.toList == ([94] : List UInt8))) else (calamuslaw14_MovePlaces.j1 kj10 a1 a2 t171 t176 t177 a2 (a2.toList == ([124] : List UInt8))))))) = some r := H
            have A21 := Aside0.mk A210
            clear A210
            have HC22 := Aside0.mk H
            clear H
            go_upto_if 52 with (first | ((with_reducible refine gate_callee (f := 26) rfl ?_); refine goesL_ (some 47) rfl rfl Tryd.func26 (by kernel_rfl) rfl #[.string a0, .int .i64 a1] rfl (by (try simp only [List.map_toArray, List.map_cons, List.map_nil]); first | done | rfl | (simp only [List.length_drop, List.length_take]; rfl)) ?_; (with_reducible refine (line_Of.calls a0 a1 t176 _ A20.out).mono ?_); rintro e w23 ⟨rfl, hb⟩; refine ⟨_, rfl, ?_⟩; have n0_ := Aside0.mk (below_step (by repeat (first | (with_reducible first | exact HB.out | apply below_alloc | apply pw_below_drewN | apply below_drew1) | exact HB.out)) hb); clear HB; have HB := n0_; clear n0_; (try clear hb); (try clear hb2); (try clear hk); (try clear hi)) | ((with_reducible refine gate_callee (f := 26) rfl ?_); refine goesL_ (some 50) rfl rfl Tryd.func26 (by kernel_rfl) rfl #[.string a0, .int .i64 t171] rfl (by (try simp only [List.map_toArray, List.map_cons, List.map_nil]); first | done | rfl | (simp only [List.length_drop, List.length_take]; rfl)) ?_; (with_reducible refine (line_Of.calls a0 t171 t177 _ A21.out).mono ?_); rintro e w24 ⟨rfl, hb⟩; refine ⟨_, rfl, ?_⟩; have n0_ := Aside0.mk (below_step (by repeat (first | (with_reducible first | exact HB.out | apply below_alloc | apply pw_below_drewN | apply below_drew1) | exact HB.out)) hb); clear HB; have HB := n0_; clear n0_; (try clear hb); (try clear hb2); (try clear hk); (try clear hi)))
            (try simp only [Act.put, List.setIfInBounds_toArray, List.set_cons_zero, List.set_cons_succ])
            go_cut [52] (fun v52 wc => ∃ (kq : Nat) (x52_21 : Bool), v52 = .bool x52_21 ∧ Aside0 (calamuslaw14_MovePlaces.j1 kq a1 a2 t171 t176 t177 a2 x52_21 = some r) ∧ Aside0 (kq ≤ kj10) ∧ Aside0 (Below w.heap.size w wc))
            case first =>
              have H := HC22.out
              clear HC22
              by_cases c25 : a2.toList = ([104] : List UInt8)
              · rw [if_pos c25] at H
                have c25b0 : (a2.toList == ([104] : List UInt8)) = true := beq_iff_eq.mpr c25
                have c25b1 : (a2.toList != ([104] : List UInt8)) = false := bne_eq_false_iff_eq.mpr c25
                clear c25
                (first | rw [c25b0] | (simp only [i64_w, i32_w]; rw [c25b0]) | skip)
                have H' := Aside0.mk H
                clear H
                go_wp2
                go_meet
                case rel => exact ⟨_, ((a2.toList == ([104] : List UInt8))), (by first | rfl | (simp; done) | (simp [*]; done)), H', ⟨by have := HJ10.out; first | omega | exact Nat.le_refl _⟩, ⟨by repeat (first | (with_reducible first | exact HB.out | apply below_alloc | apply pw_below_drewN | apply below_drew1) | exact HB.out)⟩⟩
              · rw [if_neg c25] at H
                have c25b0 : (a2.toList == ([104] : List UInt8)) = false := beq_eq_false_iff_ne.mpr c25
                have c25b1 : (a2.toList != ([104] : List UInt8)) = true := bne_iff_ne.mpr c25
                (first | rw [c25b0] | (simp only [i64_w, i32_w]; rw [c25b0]) | skip)
                by_cases c26 : a2.toList = ([108] : List UInt8)
                · rw [if_pos c26] at H
                  have c26b0 : (a2.toList == ([108] : List UInt8)) = true := beq_iff_eq.mpr c26
                  have c26b1 : (a2.toList != ([108] : List UInt8)) = false := bne_eq_false_iff_eq.mpr c26
                  clear c26
                  have H' := Aside0.mk H
                  clear H
                  go_wp2
                  go_meet
                  case rel => exact ⟨_, ((a2.toList == ([108] : List UInt8))), (by first | rfl | (simp; done) | (simp [*]; done)), H', ⟨by have := HJ10.out; first | omega | exact Nat.le_refl _⟩, ⟨by repeat (first | (with_reducible first | exact HB.out | apply below_alloc | apply pw_below_drewN | apply below_drew1) | exact HB.out)⟩⟩
                · rw [if_neg c26] at H
                  have c26b0 : (a2.toList == ([108] : List UInt8)) = false := beq_eq_false_iff_ne.mpr c26
                  have c26b1 : (a2.toList != ([108] : List UInt8)) = true := bne_iff_ne.mpr c26
                  by_cases c27 : a2.toList = ([48] : List UInt8)
                  · rw [if_pos c27] at H
                    have c27b0 : (a2.toList == ([48] : List UInt8)) = true := beq_iff_eq.mpr c27
                    have c27b1 : (a2.toList != ([48] : List UInt8)) = false := bne_eq_false_iff_eq.mpr c27
                    clear c27
                    have H' := Aside0.mk H
                    clear H
                    go_wp2
                    go_meet
                    case rel => exact ⟨_, ((a2.toList == ([48] : List UInt8))), (by first | rfl | (simp; done) | (simp [*]; done)), H', ⟨by have := HJ10.out; first | omega | exact Nat.le_refl _⟩, ⟨by repeat (first | (with_reducible first | exact HB.out | apply below_alloc | apply pw_below_drewN | apply below_drew1) | exact HB.out)⟩⟩
                  · rw [if_neg c27] at H
                    have c27b0 : (a2.toList == ([48] : List UInt8)) = false := beq_eq_false_iff_ne.mpr c27
                    have c27b1 : (a2.toList != ([48] : List UInt8)) = true := bne_iff_ne.mpr c27
                    by_cases c28 : a2.toList = ([94] : List UInt8)
                    · rw [if_pos c28] at H
                      have c28b0 : (a2.toList == ([94] : List UInt8)) = true := beq_iff_eq.mpr c28
                      have c28b1 : (a2.toList != ([94] : List UInt8)) = false := bne_eq_false_iff_eq.mpr c28
                      clear c28
                      have H' := Aside0.mk H
                      clear H
                      go_wp2
                      go_meet
                      case rel => exact ⟨_, ((a2.toList == ([94] : List UInt8))), (by first | rfl | (simp; done) | (simp [*]; done)), H', ⟨by have := HJ10.out; first | omega | exact Nat.le_refl _⟩, ⟨by repeat (first | (with_reducible first | exact HB.out | apply below_alloc | apply pw_below_drewN | apply below_drew1) | exact HB.out)⟩⟩
                    · rw [if_neg c28] at H
                      have c28b0 : (a2.toList == ([94] : List UInt8)) = false := beq_eq_false_iff_ne.mpr c28
                      have c28b1 : (a2.toList != ([94] : List UInt8)) = true := bne_iff_ne.mpr c28
                      have H' := Aside0.mk H
                      clear H
                      go_wp2
                      go_meet
                      case rel => exact ⟨_, ((a2.toList == ([124] : List UInt8))), (by first | rfl | (simp; done) | (simp [*]; done)), H', ⟨by have := HJ10.out; first | omega | exact Nat.le_refl _⟩, ⟨by repeat (first | (with_reducible first | exact HB.out | apply below_alloc | apply pw_below_drewN | apply below_drew1) | exact HB.out)⟩⟩
            case rest =>
              clear HC22
              try clear c1
              try clear c2
              try clear p2
              try clear c6
              try clear c6b0
              try clear c6b1
              try clear c9
              try clear c10
              try clear c14
              try clear c16
              try clear c19
              try clear c21
              try clear c22
              try clear c25
              try clear c25b0
              try clear c25b1
              try clear c26
              try clear c26b0
              try clear c26b1
              try clear c27
              try clear c27b0
              try clear c27b1
              try clear c28
              try clear c28b0
              try clear c28b1
              try clear p2
              obtain ⟨kq, x52_21, rfl, HA, HJ21, HB⟩ := hcut
              cases kq with
              | zero => exact absurd HA.out (by simp [calamuslaw14_MovePlaces.j1])
              | succ kj21 =>
                have H := HA.out
                clear HA
                simp only [calamuslaw14_MovePlaces.j1] at H
                by_cases c29 : x52_21 = true
                · subst c29
                  have H1 : (if t176 = t177 then (if a2.toList = ([104] : List UInt8) then (if t171 < a1 then (if a2.toList = ([108] : List UInt8) then (if t171 > a1 then ((calamuslaw14_lives.f).bind fun t178 => (some t178)) else (some false)) else ((calamuslaw14_lives.f).bind fun t179 => (some t179))) else (some false)) else (if a2.toList = ([108] : List UInt8) then (if t171 > a1 then ((calamuslaw14_lives.f).bind fun t180 => (some t180)) else (some false)) else ((calamuslaw14_lives.f).bind fun t181 => (some t181)))) else (some false)) = some r := by rw [if_pos rfl] at H; exact H
                  clear H
                  have H := H1
                  clear H1
                  by_cases c30 : t176 = t177
                  · rw [if_pos c30] at H
                    have c30b0 : (t176 == t177) = true := beq_iff_eq.mpr c30
                    have c30b1 : (t176 != t177) = false := bne_eq_false_iff_eq.mpr c30
                    clear c30
                    by_cases c31 : a2.toList = ([104] : List UInt8)
                    · rw [if_pos c31] at H
                      have c31b0 : (a2.toList == ([104] : List UInt8)) = true := beq_iff_eq.mpr c31
                      have c31b1 : (a2.toList != ([104] : List UInt8)) = false := bne_eq_false_iff_eq.mpr c31
                      clear c31
                      by_cases c32 : t171 < a1
                      · rw [if_pos c32] at H
                        have c32b0 : decide (t171 < a1) = true := decide_eq_true c32
                        clear c32
                        by_cases c33 : a2.toList = ([108] : List UInt8)
                        · rw [if_pos c33] at H
                          have c33b0 : (a2.toList == ([108] : List UInt8)) = true := beq_iff_eq.mpr c33
                          have c33b1 : (a2.toList != ([108] : List UInt8)) = false := bne_eq_false_iff_eq.mpr c33
                          clear c33
                          by_cases c34 : t171 > a1
                          · rw [if_pos c34] at H
                            have c34b0 : decide (a1 < t171) = true := decide_eq_true c34
                            clear c34
                            replace H := Option.bind_eq_some_iff.mp H
                            obtain ⟨t178, A350, H⟩ := H
                            replace H : (some t178) = some r := H
                            have A35 := Aside0.mk A350
                            clear A350
                            obtain rfl := Option.some.inj H
                            go_wp2_with (first | (go_at_call 21; (with_reducible refine (calamuslaw14_lives.calls  t178 _ A35.out).mono ?_); rintro e w36 ⟨rfl, hb⟩; have n0_ := Aside0.mk (below_step (by repeat (first | (with_reducible first | exact HB.out | apply below_alloc | apply pw_below_drewN | apply below_drew1) | exact HB.out)) hb); clear HB; have HB := n0_; clear n0_; (try clear hb); (try clear hb2); (try clear hk); (try clear hi)))
                            go_ret
                            exact ⟨by first | rfl | (simp [errW_none, errW_some] <;> rfl) | (simp [*, errW_none, errW_some] <;> rfl), by repeat (first | (with_reducible first | exact HB.out | apply below_alloc | apply pw_below_drewN | apply below_drew1) | exact HB.out)⟩
                          · rw [if_neg c34] at H
                            have c34b0 : decide (a1 < t171) = false := decide_eq_false c34
                            clear c34
                            obtain rfl := Option.some.inj H
                            go_wp2
                            go_ret
                            exact ⟨by first | rfl | (simp [errW_none, errW_some] <;> rfl) | (simp [*, errW_none, errW_some] <;> rfl), by repeat (first | (with_reducible first | exact HB.out | apply below_alloc | apply pw_below_drewN | apply below_drew1) | exact HB.out)⟩
                        · rw [if_neg c33] at H
                          have c33b0 : (a2.toList == ([108] : List UInt8)) = false := beq_eq_false_iff_ne.mpr c33
                          have c33b1 : (a2.toList != ([108] : List UInt8)) = true := bne_iff_ne.mpr c33
                          replace H := Option.bind_eq_some_iff.mp H
                          obtain ⟨t179, A370, H⟩ := H
                          replace H : (some t179) = some r := H
                          have A37 := Aside0.mk A370
                          clear A370
                          obtain rfl := Option.some.inj H
                          go_wp2_with (first | (go_at_call 21; (with_reducible refine (calamuslaw14_lives.calls  t179 _ A37.out).mono ?_); rintro e w38 ⟨rfl, hb⟩; have n0_ := Aside0.mk (below_step (by repeat (first | (with_reducible first | exact HB.out | apply below_alloc | apply pw_below_drewN | apply below_drew1) | exact HB.out)) hb); clear HB; have HB := n0_; clear n0_; (try clear hb); (try clear hb2); (try clear hk); (try clear hi)))
                          go_ret
                          exact ⟨by first | rfl | (simp [errW_none, errW_some] <;> rfl) | (simp [*, errW_none, errW_some] <;> rfl), by repeat (first | (with_reducible first | exact HB.out | apply below_alloc | apply pw_below_drewN | apply below_drew1) | exact HB.out)⟩
                      · rw [if_neg c32] at H
                        have c32b0 : decide (t171 < a1) = false := decide_eq_false c32
                        clear c32
                        obtain rfl := Option.some.inj H
                        go_wp2
                        go_ret
                        exact ⟨by first | rfl | (simp [errW_none, errW_some] <;> rfl) | (simp [*, errW_none, errW_some] <;> rfl), by repeat (first | (with_reducible first | exact HB.out | apply below_alloc | apply pw_below_drewN | apply below_drew1) | exact HB.out)⟩
                    · rw [if_neg c31] at H
                      have c31b0 : (a2.toList == ([104] : List UInt8)) = false := beq_eq_false_iff_ne.mpr c31
                      have c31b1 : (a2.toList != ([104] : List UInt8)) = true := bne_iff_ne.mpr c31
                      by_cases c39 : a2.toList = ([108] : List UInt8)
                      · rw [if_pos c39] at H
                        have c39b0 : (a2.toList == ([108] : List UInt8)) = true := beq_iff_eq.mpr c39
                        have c39b1 : (a2.toList != ([108] : List UInt8)) = false := bne_eq_false_iff_eq.mpr c39
                        clear c39
                        by_cases c40 : t171 > a1
                        · rw [if_pos c40] at H
                          have c40b0 : decide (a1 < t171) = true := decide_eq_true c40
                          clear c40
                          replace H := Option.bind_eq_some_iff.mp H
                          obtain ⟨t180, A410, H⟩ := H
                          replace H : (some t180) = some r := H
                          have A41 := Aside0.mk A410
                          clear A410
                          obtain rfl := Option.some.inj H
                          go_wp2_with (first | (go_at_call 21; (with_reducible refine (calamuslaw14_lives.calls  t180 _ A41.out).mono ?_); rintro e w42 ⟨rfl, hb⟩; have n0_ := Aside0.mk (below_step (by repeat (first | (with_reducible first | exact HB.out | apply below_alloc | apply pw_below_drewN | apply below_drew1) | exact HB.out)) hb); clear HB; have HB := n0_; clear n0_; (try clear hb); (try clear hb2); (try clear hk); (try clear hi)))
                          go_ret
                          exact ⟨by first | rfl | (simp [errW_none, errW_some] <;> rfl) | (simp [*, errW_none, errW_some] <;> rfl), by repeat (first | (with_reducible first | exact HB.out | apply below_alloc | apply pw_below_drewN | apply below_drew1) | exact HB.out)⟩
                        · rw [if_neg c40] at H
                          have c40b0 : decide (a1 < t171) = false := decide_eq_false c40
                          clear c40
                          obtain rfl := Option.some.inj H
                          go_wp2
                          go_ret
                          exact ⟨by first | rfl | (simp [errW_none, errW_some] <;> rfl) | (simp [*, errW_none, errW_some] <;> rfl), by repeat (first | (with_reducible first | exact HB.out | apply below_alloc | apply pw_below_drewN | apply below_drew1) | exact HB.out)⟩
                      · rw [if_neg c39] at H
                        have c39b0 : (a2.toList == ([108] : List UInt8)) = false := beq_eq_false_iff_ne.mpr c39
                        have c39b1 : (a2.toList != ([108] : List UInt8)) = true := bne_iff_ne.mpr c39
                        replace H := Option.bind_eq_some_iff.mp H
                        obtain ⟨t181, A430, H⟩ := H
                        replace H : (some t181) = some r := H
                        have A43 := Aside0.mk A430
                        clear A430
                        obtain rfl := Option.some.inj H
                        go_wp2_with (first | (go_at_call 21; (with_reducible refine (calamuslaw14_lives.calls  t181 _ A43.out).mono ?_); rintro e w44 ⟨rfl, hb⟩; have n0_ := Aside0.mk (below_step (by repeat (first | (with_reducible first | exact HB.out | apply below_alloc | apply pw_below_drewN | apply below_drew1) | exact HB.out)) hb); clear HB; have HB := n0_; clear n0_; (try clear hb); (try clear hb2); (try clear hk); (try clear hi)))
                        go_ret
                        exact ⟨by first | rfl | (simp [errW_none, errW_some] <;> rfl) | (simp [*, errW_none, errW_some] <;> rfl), by repeat (first | (with_reducible first | exact HB.out | apply below_alloc | apply pw_below_drewN | apply below_drew1) | exact HB.out)⟩
                  · rw [if_neg c30] at H
                    have c30b0 : (t176 == t177) = false := beq_eq_false_iff_ne.mpr c30
                    have c30b1 : (t176 != t177) = true := bne_iff_ne.mpr c30
                    obtain rfl := Option.some.inj H
                    go_wp2
                    go_ret
                    exact ⟨by first | rfl | (simp [errW_none, errW_some] <;> rfl) | (simp [*, errW_none, errW_some] <;> rfl), by repeat (first | (with_reducible first | exact HB.out | apply below_alloc | apply pw_below_drewN | apply below_drew1) | exact HB.out)⟩
                · replace c29 := Bool.eq_false_iff.mpr c29
                  subst c29
                  have H1 : (if a2.toList = ([106] : List UInt8) then (if t177 > t176 then ((calamuslaw14_lives.f).bind fun t182 => (some t182)) else (some false)) else (if a2.toList = ([107] : List UInt8) then (if t177 < t176 then ((calamuslaw14_lives.f).bind fun t183 => (some t183)) else (some false)) else ((calamuslaw14_lives.f).bind fun t184 => (some t184)))) = some r := by rw [if_neg (show ¬ (false = true) by decide)] at H; exact H
                  clear H
                  have H := H1
                  clear H1
                  by_cases c45 : a2.toList = ([106] : List UInt8)
                  · rw [if_pos c45] at H
                    have c45b0 : (a2.toList == ([106] : List UInt8)) = true := beq_iff_eq.mpr c45
                    have c45b1 : (a2.toList != ([106] : List UInt8)) = false := bne_eq_false_iff_eq.mpr c45
                    clear c45
                    by_cases c46 : t177 > t176
                    · rw [if_pos c46] at H
                      have c46b0 : decide (t176 < t177) = true := decide_eq_true c46
                      clear c46
                      replace H := Option.bind_eq_some_iff.mp H
                      obtain ⟨t182, A470, H⟩ := H
                      replace H : (some t182) = some r := H
                      have A47 := Aside0.mk A470
                      clear A470
                      obtain rfl := Option.some.inj H
                      go_wp2_with (first | (go_at_call 21; (with_reducible refine (calamuslaw14_lives.calls  t182 _ A47.out).mono ?_); rintro e w48 ⟨rfl, hb⟩; have n0_ := Aside0.mk (below_step (by repeat (first | (with_reducible first | exact HB.out | apply below_alloc | apply pw_below_drewN | apply below_drew1) | exact HB.out)) hb); clear HB; have HB := n0_; clear n0_; (try clear hb); (try clear hb2); (try clear hk); (try clear hi)))
                      go_ret
                      exact ⟨by first | rfl | (simp [errW_none, errW_some] <;> rfl) | (simp [*, errW_none, errW_some] <;> rfl), by repeat (first | (with_reducible first | exact HB.out | apply below_alloc | apply pw_below_drewN | apply below_drew1) | exact HB.out)⟩
                    · rw [if_neg c46] at H
                      have c46b0 : decide (t176 < t177) = false := decide_eq_false c46
                      clear c46
                      obtain rfl := Option.some.inj H
                      go_wp2
                      go_ret
                      exact ⟨by first | rfl | (simp [errW_none, errW_some] <;> rfl) | (simp [*, errW_none, errW_some] <;> rfl), by repeat (first | (with_reducible first | exact HB.out | apply below_alloc | apply pw_below_drewN | apply below_drew1) | exact HB.out)⟩
                  · rw [if_neg c45] at H
                    have c45b0 : (a2.toList == ([106] : List UInt8)) = false := beq_eq_false_iff_ne.mpr c45
                    have c45b1 : (a2.toList != ([106] : List UInt8)) = true := bne_iff_ne.mpr c45
                    by_cases c49 : a2.toList = ([107] : List UInt8)
                    · rw [if_pos c49] at H
                      have c49b0 : (a2.toList == ([107] : List UInt8)) = true := beq_iff_eq.mpr c49
                      have c49b1 : (a2.toList != ([107] : List UInt8)) = false := bne_eq_false_iff_eq.mpr c49
                      clear c49
                      by_cases c50 : t177 < t176
                      · rw [if_pos c50] at H
                        have c50b0 : decide (t177 < t176) = true := decide_eq_true c50
                        clear c50
                        replace H := Option.bind_eq_some_iff.mp H
                        obtain ⟨t183, A510, H⟩ := H
                        replace H : (some t183) = some r := H
                        have A51 := Aside0.mk A510
                        clear A510
                        obtain rfl := Option.some.inj H
                        go_wp2_with (first | (go_at_call 21; (with_reducible refine (calamuslaw14_lives.calls  t183 _ A51.out).mono ?_); rintro e w52 ⟨rfl, hb⟩; have n0_ := Aside0.mk (below_step (by repeat (first | (with_reducible first | exact HB.out | apply below_alloc | apply pw_below_drewN | apply below_drew1) | exact HB.out)) hb); clear HB; have HB := n0_; clear n0_; (try clear hb); (try clear hb2); (try clear hk); (try clear hi)))
                        go_ret
                        exact ⟨by first | rfl | (simp [errW_none, errW_some] <;> rfl) | (simp [*, errW_none, errW_some] <;> rfl), by repeat (first | (with_reducible first | exact HB.out | apply below_alloc | apply pw_below_drewN | apply below_drew1) | exact HB.out)⟩
                      · rw [if_neg c50] at H
                        have c50b0 : decide (t177 < t176) = false := decide_eq_false c50
                        clear c50
                        obtain rfl := Option.some.inj H
                        go_wp2
                        go_ret
                        exact ⟨by first | rfl | (simp [errW_none, errW_some] <;> rfl) | (simp [*, errW_none, errW_some] <;> rfl), by repeat (first | (with_reducible first | exact HB.out | apply below_alloc | apply pw_below_drewN | apply below_drew1) | exact HB.out)⟩
                    · rw [if_neg c49] at H
                      have c49b0 : (a2.toList == ([107] : List UInt8)) = false := beq_eq_false_iff_ne.mpr c49
                      have c49b1 : (a2.toList != ([107] : List UInt8)) = true := bne_iff_ne.mpr c49
                      replace H := Option.bind_eq_some_iff.mp H
                      obtain ⟨t184, A530, H⟩ := H
                      replace H : (some t184) = some r := H
                      have A53 := Aside0.mk A530
                      clear A530
                      obtain rfl := Option.some.inj H
                      go_wp2_with (first | ((with_reducible refine gate_callee (f := 21) rfl ?_); refine goesL_ (some 98) rfl rfl Tryd.func21 (by kernel_rfl) rfl #[] rfl (by (try simp only [List.map_toArray, List.map_cons, List.map_nil]); first | done | rfl | (simp only [List.length_drop, List.length_take]; rfl)) ?_; (with_reducible refine (calamuslaw14_lives.calls  t184 _ A53.out).mono ?_); rintro e w54 ⟨rfl, hb⟩; refine ⟨_, rfl, ?_⟩; have n0_ := Aside0.mk (below_step (by repeat (first | (with_reducible first | exact HB.out | apply below_alloc | apply pw_below_drewN | apply below_drew1) | exact HB.out)) hb); clear HB; have HB := n0_; clear n0_; (try clear hb); (try clear hb2); (try clear hk); (try clear hi)))
                      go_ret
                      exact ⟨by first | rfl | (simp [errW_none, errW_some] <;> rfl) | (simp [*, errW_none, errW_some] <;> rfl), by repeat (first | (with_reducible first | exact HB.out | apply below_alloc | apply pw_below_drewN | apply below_drew1) | exact HB.out)⟩
    · replace c10 := Bool.eq_false_iff.mpr c10
      subst c10
      have H1 : (if t171 = 0 then ((calamuslaw14_lives.f).bind fun t173 => (some t173)) else (some false)) = some r := by rw [if_neg (show ¬ (false = true) by decide)] at H; exact H
      clear H
      have H := H1
      clear H1
      by_cases c55 : t171 = 0
      · rw [if_pos c55] at H
        have c55b0 : (t171 == 0) = true := beq_iff_eq.mpr c55
        have c55b1 : (t171 != 0) = false := bne_eq_false_iff_eq.mpr c55
        clear c55
        replace H := Option.bind_eq_some_iff.mp H
        obtain ⟨t173, A560, H⟩ := H
        replace H : (some t173) = some r := H
        have A56 := Aside0.mk A560
        clear A560
        obtain rfl := Option.some.inj H
        go_enter Tryd.func9, Tryd.ntmps9
        go_wp2_with (first | ((with_reducible refine gate_callee (f := 22) rfl ?_); refine goesL_ (some 25) rfl rfl Tryd.func22 (by kernel_rfl) rfl #[.string a0, .int .i64 a1, .string a2, .int .i64 a3, .int .i64 a4] rfl (by (try simp only [List.map_toArray, List.map_cons, List.map_nil]); first | done | rfl | (simp only [List.length_drop, List.length_take]; rfl)) ?_; (with_reducible refine (move_Go.calls a0 a1 a2 a3 a4 t171 false _ A9.out).mono ?_); rintro e w57 ⟨rfl, hb⟩; refine ⟨_, rfl, ?_⟩; have n0_ := Aside0.mk (below_step (by repeat (first | (with_reducible first | exact HB.out | apply below_alloc | apply pw_below_drewN | apply below_drew1) | exact HB.out)) hb); clear HB; have HB := n0_; clear n0_; (try clear hb); (try clear hb2); (try clear hk); (try clear hi)) | (go_at_call 21; (with_reducible refine (calamuslaw14_lives.calls  t173 _ A56.out).mono ?_); rintro e w58 ⟨rfl, hb⟩; have n0_ := Aside0.mk (below_step (by repeat (first | (with_reducible first | exact HB.out | apply below_alloc | apply pw_below_drewN | apply below_drew1) | exact HB.out)) hb); clear HB; have HB := n0_; clear n0_; (try clear hb); (try clear hb2); (try clear hk); (try clear hi)))
        go_ret
        exact ⟨by first | rfl | (simp [errW_none, errW_some] <;> rfl) | (simp [*, errW_none, errW_some] <;> rfl), by repeat (first | (with_reducible first | exact HB.out | apply below_alloc | apply pw_below_drewN | apply below_drew1) | exact HB.out)⟩
      · rw [if_neg c55] at H
        have c55b0 : (t171 == 0) = false := beq_eq_false_iff_ne.mpr c55
        have c55b1 : (t171 != 0) = true := bne_iff_ne.mpr c55
        obtain rfl := Option.some.inj H
        go_enter Tryd.func9, Tryd.ntmps9
        go_wp2_with (first | ((with_reducible refine gate_callee (f := 22) rfl ?_); refine goesL_ (some 25) rfl rfl Tryd.func22 (by kernel_rfl) rfl #[.string a0, .int .i64 a1, .string a2, .int .i64 a3, .int .i64 a4] rfl (by (try simp only [List.map_toArray, List.map_cons, List.map_nil]); first | done | rfl | (simp only [List.length_drop, List.length_take]; rfl)) ?_; (with_reducible refine (move_Go.calls a0 a1 a2 a3 a4 t171 false _ A9.out).mono ?_); rintro e w59 ⟨rfl, hb⟩; refine ⟨_, rfl, ?_⟩; have n0_ := Aside0.mk (below_step (by repeat (first | (with_reducible first | exact HB.out | apply below_alloc | apply pw_below_drewN | apply below_drew1) | exact HB.out)) hb); clear HB; have HB := n0_; clear n0_; (try clear hb); (try clear hb2); (try clear hk); (try clear hi)))
        go_ret
        exact ⟨by first | rfl | (simp [errW_none, errW_some] <;> rfl) | (simp [*, errW_none, errW_some] <;> rfl), by repeat (first | (with_reducible first | exact HB.out | apply below_alloc | apply pw_below_drewN | apply below_drew1) | exact HB.out)⟩

def calamuslaw14_MovePlaces.Pure : Prop := ∀ (a0 : ByteArray) (a1 : Int) (a2 : ByteArray) (a3 : Int) (a4 : Int), a0.size ≤ 140737488351232 → (Lit.int .i64 a1).wf = true → a2.size ≤ 140737488351232 → (Lit.int .i64 a3).wf = true → (Lit.int .i64 a4).wf = true → ∃ k, calamuslaw14_MovePlaces.f k a0 a1 a2 a3 a4 = some true
theorem calamuslaw14_MovePlaces.walk (P : calamuslaw14_MovePlaces.Pure) (a0 : ByteArray) (a1 : Int) (a2 : ByteArray) (a3 : Int) (a4 : Int) (w : World) (w0 : a0.size ≤ 140737488351232) (w1 : (Lit.int .i64 a1).wf = true) (w2 : a2.size ≤ 140737488351232) (w3 : (Lit.int .i64 a3).wf = true) (w4 : (Lit.int .i64 a4).wf = true) :
    Calls Tryd.prog 9 #[.string a0, .int .i64 a1, .string a2, .int .i64 a3, .int .i64 a4] w fun e w' => e = .returned (.bool true) ∧ Below w.heap.size w w' := by
  obtain ⟨k, h⟩ := P a0 a1 a2 a3 a4 w0 w1 w2 w3 w4
  refine (calamuslaw14_MovePlaces.calls k a0 a1 a2 a3 a4 true w h).mono ?_
  rintro e w' ⟨rfl, hd⟩
  exact ⟨rfl, hd⟩


end Go.Proofs.YtbilknmcikmcoaaDoor.QO
-- Printed by this work's xp.py out of the translation. Lean checks it.
namespace Go.Proofs.YtbilknmcikmcoaaDoor.QO
open Go.RowKit Go.Proofs.YtbilknmcikmcoaaDoorW.PrintWords Go.Proofs.YtbilknmcikmcoaaDoorW.PrintLast Go.Proofs.YtbilknmcikmcoaaDoorW.PrintMore
attribute [local go_sem] max2_int min2_int max_two min_two max_three min_three max_four min_four   -- for this text's walks alone
set_option linter.unusedVariables false
set_option linter.unusedSimpArgs false


/-! ### calamuslaw14_MoveBack -/
mutual
def calamuslaw14_MoveBack.j0 : Nat → ByteArray → Int → Int → Bool → Option (Bool)
  | 0, _, _, _, _ => none
  | k + 1, x0, x1, x2, x29 => if x29 = true then ((calamuslaw14_lives.f).bind fun t186 => (some t186)) else ((line_Of.f x0 x1).bind fun t187 => ((line_Column.f x0 x1).bind fun t188 => ((move_Go.f x0 x1 (⟨#[108]⟩ : ByteArray) x2 0).bind fun bt189 => (if bt189.2 = true then ((line_Column.f x0 bt189.1).bind fun t191 => (calamuslaw14_MoveBack.j1 k x0 x1 x2 t187 t188 bt189.1 (t191 == (wrap64 (t188 + x2))))) else (calamuslaw14_MoveBack.j1 k x0 x1 x2 t187 t188 bt189.1 false)))))
def calamuslaw14_MoveBack.j1 : Nat → ByteArray → Int → Int → Int → Int → Int → Bool → Option (Bool)
  | 0, _, _, _, _, _, _, _ => none
  | k + 1, x0, x1, x2, x7, x8, x9, x53 => if x53 = true then ((move_Go.f x0 x9 (⟨#[104]⟩ : ByteArray) x2 0).bind fun bt192 => (if bt192.1 = x1 then (if bt192.2 = true then (calamuslaw14_MoveBack.j2 k x0 x1 x2 x7 x8) else (some false)) else (some false))) else (calamuslaw14_MoveBack.j2 k x0 x1 x2 x7 x8)
def calamuslaw14_MoveBack.j2 : Nat → ByteArray → Int → Int → Int → Int → Option (Bool)
  | 0, _, _, _, _, _ => none
  | k + 1, x0, x1, x2, x7, x8 => (move_Go.f x0 x1 (⟨#[106]⟩ : ByteArray) x2 x8).bind fun bt194 => (if bt194.2 = true then ((line_Of.f x0 bt194.1).bind fun t196 => (calamuslaw14_MoveBack.j3 k x0 x1 x2 x8 bt194.1 (t196 == (wrap64 (x7 + x2))))) else (calamuslaw14_MoveBack.j3 k x0 x1 x2 x8 bt194.1 false))
def calamuslaw14_MoveBack.j3 : Nat → ByteArray → Int → Int → Int → Int → Bool → Option (Bool)
  | 0, _, _, _, _, _, _ => none
  | k + 1, x0, x1, x2, x8, x13, x85 => if x85 = true then ((move_Go.f x0 x13 (⟨#[107]⟩ : ByteArray) x2 x8).bind fun bt197 => (if bt197.1 = x1 then (if bt197.2 = true then ((calamuslaw14_lives.f).bind fun t199 => (some t199)) else (some false)) else (some false))) else ((calamuslaw14_lives.f).bind fun t200 => (some t200))
end
def calamuslaw14_MoveBack.f (k : Nat) (a0 : ByteArray) (a1 : Int) (a2 : Int) : Option (Bool) := if (a0.size : Int) > 300 then (calamuslaw14_MoveBack.j0 k a0 a1 a2 true) else ((utf_Place.f a0 a1).bind fun t185 => (if t185 = true then (calamuslaw14_MoveBack.j0 k a0 a1 a2 (decide (a2 < 1))) else (calamuslaw14_MoveBack.j0 k a0 a1 a2 true)))
theorem calamuslaw14_MoveBack.mono_l : ∀ k, (∀ y0 y1 y2 y3, LeO (calamuslaw14_MoveBack.j0 k y0 y1 y2 y3) (calamuslaw14_MoveBack.j0 (k + 1) y0 y1 y2 y3)) ∧ (∀ y0 y1 y2 y3 y4 y5 y6, LeO (calamuslaw14_MoveBack.j1 k y0 y1 y2 y3 y4 y5 y6) (calamuslaw14_MoveBack.j1 (k + 1) y0 y1 y2 y3 y4 y5 y6)) ∧ (∀ y0 y1 y2 y3 y4, LeO (calamuslaw14_MoveBack.j2 k y0 y1 y2 y3 y4) (calamuslaw14_MoveBack.j2 (k + 1) y0 y1 y2 y3 y4)) ∧ (∀ y0 y1 y2 y3 y4 y5, LeO (calamuslaw14_MoveBack.j3 k y0 y1 y2 y3 y4 y5) (calamuslaw14_MoveBack.j3 (k + 1) y0 y1 y2 y3 y4 y5))
  | 0 => ⟨fun _ _ _ _ r h => by simp [calamuslaw14_MoveBack.j0] at h, fun _ _ _ _ _ _ _ r h => by simp [calamuslaw14_MoveBack.j1] at h, fun _ _ _ _ _ r h => by simp [calamuslaw14_MoveBack.j2] at h, fun _ _ _ _ _ _ r h => by simp [calamuslaw14_MoveBack.j3] at h⟩
  | k + 1 => by
    obtain ⟨ih0, ih1, ih2, ih3⟩ := calamuslaw14_MoveBack.mono_l k
    refine ⟨?_, ?_, ?_, ?_⟩
    · intro y0 y1 y2 y3
      unfold calamuslaw14_MoveBack.j0
      repeat' first
      | (with_reducible exact ih0 _ _ _ _)
      | (with_reducible exact ih1 _ _ _ _ _ _ _)
      | (with_reducible exact ih2 _ _ _ _ _)
      | (with_reducible exact ih3 _ _ _ _ _ _)
      | (with_reducible exact LeO.refl _)
      | (with_reducible exact LeO.none _)
      | (with_reducible refine LeO.ite ?_ ?_)
      | (with_reducible refine LeO.bind ?_ (fun _ => ?_))
      | exact ih0 _ _ _ _
      | exact ih1 _ _ _ _ _ _ _
      | exact ih2 _ _ _ _ _
      | exact ih3 _ _ _ _ _ _
      | exact LeO.none _
      | refine LeO.ite ?_ ?_
      | refine LeO.bind ?_ (fun _ => ?_)
    · intro y0 y1 y2 y3 y4 y5 y6
      unfold calamuslaw14_MoveBack.j1
      repeat' first
      | (with_reducible exact ih0 _ _ _ _)
      | (with_reducible exact ih1 _ _ _ _ _ _ _)
      | (with_reducible exact ih2 _ _ _ _ _)
      | (with_reducible exact ih3 _ _ _ _ _ _)
      | (with_reducible exact LeO.refl _)
      | (with_reducible exact LeO.none _)
      | (with_reducible refine LeO.ite ?_ ?_)
      | (with_reducible refine LeO.bind ?_ (fun _ => ?_))
      | exact ih0 _ _ _ _
      | exact ih1 _ _ _ _ _ _ _
      | exact ih2 _ _ _ _ _
      | exact ih3 _ _ _ _ _ _
      | exact LeO.none _
      | refine LeO.ite ?_ ?_
      | refine LeO.bind ?_ (fun _ => ?_)
    · intro y0 y1 y2 y3 y4
      unfold calamuslaw14_MoveBack.j2
      repeat' first
      | (with_reducible exact ih0 _ _ _ _)
      | (with_reducible exact ih1 _ _ _ _ _ _ _)
      | (with_reducible exact ih2 _ _ _ _ _)
      | (with_reducible exact ih3 _ _ _ _ _ _)
      | (with_reducible exact LeO.refl _)
      | (with_reducible exact LeO.none _)
      | (with_reducible refine LeO.ite ?_ ?_)
      | (with_reducible refine LeO.bind ?_ (fun _ => ?_))
      | exact ih0 _ _ _ _
      | exact ih1 _ _ _ _ _ _ _
      | exact ih2 _ _ _ _ _
      | exact ih3 _ _ _ _ _ _
      | exact LeO.none _
      | refine LeO.ite ?_ ?_
      | refine LeO.bind ?_ (fun _ => ?_)
    · intro y0 y1 y2 y3 y4 y5
      unfold calamuslaw14_MoveBack.j3
      repeat' first
      | (with_reducible exact ih0 _ _ _ _)
      | (with_reducible exact ih1 _ _ _ _ _ _ _)
      | (with_reducible exact ih2 _ _ _ _ _)
      | (with_reducible exact ih3 _ _ _ _ _ _)
      | (with_reducible exact LeO.refl _)
      | (with_reducible exact LeO.none _)
      | (with_reducible refine LeO.ite ?_ ?_)
      | (with_reducible refine LeO.bind ?_ (fun _ => ?_))
      | exact ih0 _ _ _ _
      | exact ih1 _ _ _ _ _ _ _
      | exact ih2 _ _ _ _ _
      | exact ih3 _ _ _ _ _ _
      | exact LeO.none _
      | refine LeO.ite ?_ ?_
      | refine LeO.bind ?_ (fun _ => ?_)
theorem calamuslaw14_MoveBack.mono : ∀ a0 a1 a2 k, LeO (calamuslaw14_MoveBack.f k a0 a1 a2) (calamuslaw14_MoveBack.f (k + 1) a0 a1 a2) := by
  intro a0 a1 a2 k
  obtain ⟨ih0, ih1, ih2, ih3⟩ := calamuslaw14_MoveBack.mono_l k
  unfold calamuslaw14_MoveBack.f
  repeat' first
      | (with_reducible exact ih0 _ _ _ _)
      | (with_reducible exact ih1 _ _ _ _ _ _ _)
      | (with_reducible exact ih2 _ _ _ _ _)
      | (with_reducible exact ih3 _ _ _ _ _ _)
      | (with_reducible exact LeO.refl _)
      | (with_reducible exact LeO.none _)
      | (with_reducible refine LeO.ite ?_ ?_)
      | (with_reducible refine LeO.bind ?_ (fun _ => ?_))
      | exact ih0 _ _ _ _
      | exact ih1 _ _ _ _ _ _ _
      | exact ih2 _ _ _ _ _
      | exact ih3 _ _ _ _ _ _
      | exact LeO.none _
      | refine LeO.ite ?_ ?_
      | refine LeO.bind ?_ (fun _ => ?_)
set_option maxHeartbeats 8000000 in
set_option maxRecDepth 100000 in
theorem calamuslaw14_MoveBack.calls (k : Nat) (a0 : ByteArray) (a1 : Int) (a2 : Int) (r : Bool) (w : World) (h : calamuslaw14_MoveBack.f k a0 a1 a2 = some r) :
    Calls Tryd.prog 10 #[.string a0, .int .i64 a1, .int .i64 a2] w fun e w' => e = .returned (.bool r) ∧ Below w.heap.size w w' := by
  have HB := Aside0.mk (Below.refl w.heap.size w)
  have H : (if (a0.size : Int) > 300 then (calamuslaw14_MoveBack.j0 k a0 a1 a2 true) else ((utf_Place.f a0 a1).bind fun t185 => (if t185 = true then (calamuslaw14_MoveBack.j0 k a0 a1 a2 (decide (a2 < 1))) else (calamuslaw14_MoveBack.j0 k a0 a1 a2 true)))) = some r := h
  clear h
  have HC4 := Aside0.mk H
  clear H
  go_enter Tryd.func10, Tryd.ntmps10
  go_upto_region 1 with (fail)
  go_cut [29] (fun v29 wc => ∃ (kq : Nat) (x29_3 : Bool), v29 = .bool x29_3 ∧ Aside0 (calamuslaw14_MoveBack.j0 kq a0 a1 a2 x29_3 = some r) ∧ Aside0 (kq ≤ k) ∧ Aside0 (Below w.heap.size w wc))
  case first =>
    have H := HC4.out
    clear HC4
    by_cases c5 : (a0.size : Int) > 300
    · rw [if_pos c5] at H
      have c5b0 : decide (300 < (a0.size : Int)) = true := decide_eq_true c5
      have c5b1 : decide (300 < a0.size) = true := decide_eq_true (by omega)
      clear c5
      (first | rw [c5b0] | (simp only [i64_w, i32_w]; rw [c5b0]) | skip)
      have H' := Aside0.mk H
      clear H
      go_wp2
      go_meet
      case rel => exact ⟨_, (true), (by first | rfl | (simp; done) | (simp [*]; done)), H', ⟨by first | omega | exact Nat.le_refl _⟩, ⟨by repeat (first | (with_reducible first | exact HB.out | apply below_alloc | apply pw_below_drewN | apply below_drew1) | exact HB.out)⟩⟩
    · rw [if_neg c5] at H
      have c5b0 : decide (300 < (a0.size : Int)) = false := decide_eq_false c5
      have c5b1 : decide (300 < a0.size) = false := decide_eq_false (by omega)
      clear c5
      (first | rw [c5b0] | (simp only [i64_w, i32_w]; rw [c5b0]) | skip)
      replace H := Option.bind_eq_some_iff.mp H
      obtain ⟨t185, A60, H⟩ := H
      replace H : (if t185 = true then (calamuslaw14_MoveBack.j0 k a0 a1 a2 (decide (a2 < 1))) else (calamuslaw14_MoveBack.j0 k a0 a1 a2 true)) = some r := H
      have A6 := Aside0.mk A60
      clear A60
      by_cases c7 : t185 = true
      · subst c7
        have H1 : (calamuslaw14_MoveBack.j0 k a0 a1 a2 (decide (a2 < 1))) = some r := by rw [if_pos rfl] at H; exact H
        clear H
        have H := H1
        clear H1
        have H' := Aside0.mk H
        clear H
        go_wp2_with (first | (go_at_call 16; (with_reducible refine (utf_Place.calls a0 a1 true _ A6.out).mono ?_); rintro e w8 ⟨rfl, hb⟩; have n0_ := Aside0.mk (below_step (by repeat (first | (with_reducible first | exact HB.out | apply below_alloc | apply pw_below_drewN | apply below_drew1) | exact HB.out)) hb); clear HB; have HB := n0_; clear n0_; (try clear hb); (try clear hb2); (try clear hk); (try clear hi)))
        go_meet
        case rel => exact ⟨_, (decide (a2 < 1)), (by first | rfl | (simp; done) | (simp [*]; done)), H', ⟨by first | omega | exact Nat.le_refl _⟩, ⟨by repeat (first | (with_reducible first | exact HB.out | apply below_alloc | apply pw_below_drewN | apply below_drew1) | exact HB.out)⟩⟩
      · replace c7 := Bool.eq_false_iff.mpr c7
        subst c7
        have H1 : (calamuslaw14_MoveBack.j0 k a0 a1 a2 true) = some r := by rw [if_neg (show ¬ (false = true) by decide)] at H; exact H
        clear H
        have H := H1
        clear H1
        have H' := Aside0.mk H
        clear H
        go_wp2_with (first | (go_at_call 16; (with_reducible refine (utf_Place.calls a0 a1 false _ A6.out).mono ?_); rintro e w9 ⟨rfl, hb⟩; have n0_ := Aside0.mk (below_step (by repeat (first | (with_reducible first | exact HB.out | apply below_alloc | apply pw_below_drewN | apply below_drew1) | exact HB.out)) hb); clear HB; have HB := n0_; clear n0_; (try clear hb); (try clear hb2); (try clear hk); (try clear hi)))
        go_meet
        case rel => exact ⟨_, (true), (by first | rfl | (simp; done) | (simp [*]; done)), H', ⟨by first | omega | exact Nat.le_refl _⟩, ⟨by repeat (first | (with_reducible first | exact HB.out | apply below_alloc | apply pw_below_drewN | apply below_drew1) | exact HB.out)⟩⟩
  case rest =>
    clear HC4
    try clear c1
    try clear p2
    try clear c5
    try clear c5b0
    try clear c5b1
    try clear c7
    obtain ⟨kq, x29_3, rfl, HA, HJ3, HB⟩ := hcut
    cases kq with
    | zero => exact absurd HA.out (by simp [calamuslaw14_MoveBack.j0])
    | succ kj3 =>
      have H := HA.out
      clear HA
      simp only [calamuslaw14_MoveBack.j0] at H
      by_cases c10 : x29_3 = true
      · subst c10
        have H1 : ((calamuslaw14_lives.f).bind fun t186 => (some t186)) = some r := by rw [if_pos rfl] at H; exact H
        clear H
        have H := H1
        clear H1
        replace H := Option.bind_eq_some_iff.mp H
        obtain ⟨t186, A110, H⟩ := H
        replace H : (some t186) = some r := H
        have A11 := Aside0.mk A110
        clear A110
        obtain rfl := Option.some.inj H
        go_wp2_with (first | ((with_reducible refine gate_callee (f := 21) rfl ?_); refine goesL_ (some 30) rfl rfl Tryd.func21 (by kernel_rfl) rfl #[] rfl (by (try simp only [List.map_toArray, List.map_cons, List.map_nil]); first | done | rfl | (simp only [List.length_drop, List.length_take]; rfl)) ?_; (with_reducible refine (calamuslaw14_lives.calls  t186 _ A11.out).mono ?_); rintro e w12 ⟨rfl, hb⟩; refine ⟨_, rfl, ?_⟩; have n0_ := Aside0.mk (below_step (by repeat (first | (with_reducible first | exact HB.out | apply below_alloc | apply pw_below_drewN | apply below_drew1) | exact HB.out)) hb); clear HB; have HB := n0_; clear n0_; (try clear hb); (try clear hb2); (try clear hk); (try clear hi)))
        go_ret
        exact ⟨by first | rfl | (simp [errW_none, errW_some] <;> rfl) | (simp [*, errW_none, errW_some] <;> rfl), by repeat (first | (with_reducible first | exact HB.out | apply below_alloc | apply pw_below_drewN | apply below_drew1) | exact HB.out)⟩
      · replace c10 := Bool.eq_false_iff.mpr c10
        subst c10
        have H1 : ((line_Of.f a0 a1).bind fun t187 => ((line_Column.f a0 a1).bind fun t188 => ((move_Go.f a0 a1 (⟨#[108]⟩ : ByteArray) a2 0).bind fun bt189 => (if bt189.2 = true then ((line_Column.f a0 bt189.1).bind fun t191 => (calamuslaw14_MoveBack.j1 kj3 a0 a1 a2 t187 t188 bt189.1 (t191 == (wrap64 (t188 + a2))))) else (calamuslaw14_MoveBack.j1 kj3 a0 a1 a2 t187 t188 bt189.1 false))))) = some r := by rw [if_neg (show ¬ (false = true) by decide)] at H; exact H
        clear H
        have H := H1
        clear H1
        replace H := Option.bind_eq_some_iff.mp H
        obtain ⟨t187, A130, H⟩ := H
        replace H : ((line_Column.f a0 a1).bind fun t188 => ((move_Go.f a0 a1 (⟨#[108]⟩ : ByteArray) a2 0).bind fun bt189 => (if bt189.2 = true then ((line_Column.f a0 bt189.1).bind fun t191 => (calamuslaw14_MoveBack.j1 kj3 a0 a1 a2 t187 t188 bt189.1 (t191 == (wrap64 (t188 + a2))))) else (calamuslaw14_MoveBack.j1 kj3 a0 a1 a2 t187 t188 bt189.1 false)))) = some r := H
        have A13 := Aside0.mk A130
        clear A130
        replace H := Option.bind_eq_some_iff.mp H
        obtain ⟨t188, A140, H⟩ := H
        replace H : ((move_Go.f a0 a1 (⟨#[108]⟩ : ByteArray) a2 0).bind fun bt189 => (if bt189.2 = true then ((line_Column.f a0 bt189.1).bind fun t191 => (calamuslaw14_MoveBack.j1 kj3 a0 a1 a2 t187 t188 bt189.1 (t191 == (wrap64 (t188 + a2))))) else (calamuslaw14_MoveBack.j1 kj3 a0 a1 a2 t187 t188 bt189.1 false))) = some r := H
        have A14 := Aside0.mk A140
        clear A140
        replace H := Option.bind_eq_some_iff.mp H
        obtain ⟨⟨t189, t190⟩, A150, H⟩ := H
        replace H : (if t190 = true then ((line_Column.f a0 t189).bind fun t191 => (calamuslaw14_MoveBack.j1 kj3 a0 a1 a2 t187 t188 t189 (t191 == (wrap64 (t188 + a2))))) else (calamuslaw14_MoveBack.j1 kj3 a0 a1 a2 t187 t188 t189 false)) = some r := H
        have A15 := Aside0.mk A150
        clear A150
        have HC16 := Aside0.mk H
        clear H
        go_upto_region 5 with (first | ((with_reducible refine gate_callee (f := 26) rfl ?_); refine goesL_ (some 33) rfl rfl Tryd.func26 (by kernel_rfl) rfl #[.string a0, .int .i64 a1] rfl (by (try simp only [List.map_toArray, List.map_cons, List.map_nil]); first | done | rfl | (simp only [List.length_drop, List.length_take]; rfl)) ?_; (with_reducible refine (line_Of.calls a0 a1 t187 _ A13.out).mono ?_); rintro e w17 ⟨rfl, hb⟩; refine ⟨_, rfl, ?_⟩; have n0_ := Aside0.mk (below_step (by repeat (first | (with_reducible first | exact HB.out | apply below_alloc | apply pw_below_drewN | apply below_drew1) | exact HB.out)) hb); clear HB; have HB := n0_; clear n0_; (try clear hb); (try clear hb2); (try clear hk); (try clear hi)) | ((with_reducible refine gate_callee (f := 27) rfl ?_); refine goesL_ (some 36) rfl rfl Tryd.func27 (by kernel_rfl) rfl #[.string a0, .int .i64 a1] rfl (by (try simp only [List.map_toArray, List.map_cons, List.map_nil]); first | done | rfl | (simp only [List.length_drop, List.length_take]; rfl)) ?_; (with_reducible refine (line_Column.calls a0 a1 t188 _ A14.out).mono ?_); rintro e w18 ⟨rfl, hb⟩; refine ⟨_, rfl, ?_⟩; have n0_ := Aside0.mk (below_step (by repeat (first | (with_reducible first | exact HB.out | apply below_alloc | apply pw_below_drewN | apply below_drew1) | exact HB.out)) hb); clear HB; have HB := n0_; clear n0_; (try clear hb); (try clear hb2); (try clear hk); (try clear hi)) | ((with_reducible refine gate_callee (f := 22) rfl ?_); refine goesL_ (some 41) rfl rfl Tryd.func22 (by kernel_rfl) rfl #[.string a0, .int .i64 a1, .string (⟨#[108]⟩ : ByteArray), .int .i64 a2, .int .i64 0] rfl (by (try simp only [List.map_toArray, List.map_cons, List.map_nil]); first | done | rfl | (simp only [List.length_drop, List.length_take]; rfl)) ?_; (with_reducible refine (move_Go.calls a0 a1 (⟨#[108]⟩ : ByteArray) a2 0 t189 t190 _ A15.out).mono ?_); rintro e w19 ⟨rfl, hb⟩; refine ⟨_, rfl, ?_⟩; have n0_ := Aside0.mk (below_step (by repeat (first | (with_reducible first | exact HB.out | apply below_alloc | apply pw_below_drewN | apply below_drew1) | exact HB.out)) hb); clear HB; have HB := n0_; clear n0_; (try clear hb); (try clear hb2); (try clear hk); (try clear hi)))
        (try simp only [Act.put, List.setIfInBounds_toArray, List.set_cons_zero, List.set_cons_succ])
        go_cut [53] (fun v53 wc => ∃ (kq : Nat) (x53_15 : Bool), v53 = .bool x53_15 ∧ Aside0 (calamuslaw14_MoveBack.j1 kq a0 a1 a2 t187 t188 t189 x53_15 = some r) ∧ Aside0 (kq ≤ kj3) ∧ Aside0 (Below w.heap.size w wc))
        case first =>
          have H := HC16.out
          clear HC16
          by_cases c20 : t190 = true
          · subst c20
            have H1 : ((line_Column.f a0 t189).bind fun t191 => (calamuslaw14_MoveBack.j1 kj3 a0 a1 a2 t187 t188 t189 (t191 == (wrap64 (t188 + a2))))) = some r := by rw [if_pos rfl] at H; exact H
            clear H
            have H := H1
            clear H1
            replace H := Option.bind_eq_some_iff.mp H
            obtain ⟨t191, A210, H⟩ := H
            replace H : (calamuslaw14_MoveBack.j1 kj3 a0 a1 a2 t187 t188 t189 (t191 == (wrap64 (t188 + a2)))) = some r := H
            have A21 := Aside0.mk A210
            clear A210
            have H' := Aside0.mk H
            clear H
            go_wp2_with (first | (go_at_call 27; (with_reducible refine (line_Column.calls a0 t189 t191 _ A21.out).mono ?_); rintro e w22 ⟨rfl, hb⟩; have n0_ := Aside0.mk (below_step (by repeat (first | (with_reducible first | exact HB.out | apply below_alloc | apply pw_below_drewN | apply below_drew1) | exact HB.out)) hb); clear HB; have HB := n0_; clear n0_; (try clear hb); (try clear hb2); (try clear hk); (try clear hi)))
            go_meet
            case rel => exact ⟨_, ((t191 == (wrap64 (t188 + a2)))), (by first | rfl | (simp; done) | (simp [*]; done)), H', ⟨by have := HJ3.out; first | omega | exact Nat.le_refl _⟩, ⟨by repeat (first | (with_reducible first | exact HB.out | apply below_alloc | apply pw_below_drewN | apply below_drew1) | exact HB.out)⟩⟩
          · replace c20 := Bool.eq_false_iff.mpr c20
            subst c20
            have H1 : (calamuslaw14_MoveBack.j1 kj3 a0 a1 a2 t187 t188 t189 false) = some r := by rw [if_neg (show ¬ (false = true) by decide)] at H; exact H
            clear H
            have H := H1
            clear H1
            have H' := Aside0.mk H
            clear H
            go_wp2
            go_meet
            case rel => exact ⟨_, (false), (by first | rfl | (simp; done) | (simp [*]; done)), H', ⟨by have := HJ3.out; first | omega | exact Nat.le_refl _⟩, ⟨by repeat (first | (with_reducible first | exact HB.out | apply below_alloc | apply pw_below_drewN | apply below_drew1) | exact HB.out)⟩⟩
        case rest =>
          clear HC16
          try clear c1
          try clear c2
          try clear p2
          try clear c5
          try clear c5b0
          try clear c5b1
          try clear p6
          try clear c7
          try clear c10
          try clear c20
          try clear c21
          try clear c22
          try clear p2
          obtain ⟨kq, x53_15, rfl, HA, HJ15, HB⟩ := hcut
          cases kq with
          | zero => exact absurd HA.out (by simp [calamuslaw14_MoveBack.j1])
          | succ kj15 =>
            have H := HA.out
            clear HA
            simp only [calamuslaw14_MoveBack.j1] at H
            have HC23 := Aside0.mk H
            clear H
            go_upto_if 53 with (fail)
            go_cut [] (fun wc => ∃ (kq : Nat), Aside0 (calamuslaw14_MoveBack.j2 kq a0 a1 a2 t187 t188 = some r) ∧ Aside0 (kq ≤ kj15) ∧ Aside0 (Below w.heap.size w wc))
            case first =>
              have H := HC23.out
              clear HC23
              by_cases c24 : x53_15 = true
              · subst c24
                have H1 : ((move_Go.f a0 t189 (⟨#[104]⟩ : ByteArray) a2 0).bind fun bt192 => (if bt192.1 = a1 then (if bt192.2 = true then (calamuslaw14_MoveBack.j2 kj15 a0 a1 a2 t187 t188) else (some false)) else (some false))) = some r := by rw [if_pos rfl] at H; exact H
                clear H
                have H := H1
                clear H1
                replace H := Option.bind_eq_some_iff.mp H
                obtain ⟨⟨t192, t193⟩, A250, H⟩ := H
                replace H : (if t192 = a1 then (if t193 = true then (calamuslaw14_MoveBack.j2 kj15 a0 a1 a2 t187 t188) else (some false)) else (some false)) = some r := H
                have A25 := Aside0.mk A250
                clear A250
                by_cases c26 : t192 = a1
                · rw [if_pos c26] at H
                  have c26b0 : (t192 == a1) = true := beq_iff_eq.mpr c26
                  have c26b1 : (t192 != a1) = false := bne_eq_false_iff_eq.mpr c26
                  clear c26
                  (first | rw [c26b0] | (simp only [i64_w, i32_w]; rw [c26b0]) | skip)
                  by_cases c27 : t193 = true
                  · subst c27
                    have H1 : (calamuslaw14_MoveBack.j2 kj15 a0 a1 a2 t187 t188) = some r := by rw [if_pos rfl] at H; exact H
                    clear H
                    have H := H1
                    clear H1
                    have H' := Aside0.mk H
                    clear H
                    go_wp2_with (first | ((with_reducible refine gate_callee (f := 22) rfl ?_); refine goesL_ (some 58) rfl rfl Tryd.func22 (by kernel_rfl) rfl #[.string a0, .int .i64 t189, .string (⟨#[104]⟩ : ByteArray), .int .i64 a2, .int .i64 0] rfl (by (try simp only [List.map_toArray, List.map_cons, List.map_nil]); first | done | rfl | (simp only [List.length_drop, List.length_take]; rfl)) ?_; (with_reducible refine (move_Go.calls a0 t189 (⟨#[104]⟩ : ByteArray) a2 0 t192 true _ A25.out).mono ?_); rintro e w28 ⟨rfl, hb⟩; refine ⟨_, rfl, ?_⟩; have n0_ := Aside0.mk (below_step (by repeat (first | (with_reducible first | exact HB.out | apply below_alloc | apply pw_below_drewN | apply below_drew1) | exact HB.out)) hb); clear HB; have HB := n0_; clear n0_; (try clear hb); (try clear hb2); (try clear hk); (try clear hi)))
                    go_meet
                    case rel => exact ⟨_, H', ⟨by have := HJ3.out; have := HJ15.out; first | omega | exact Nat.le_refl _⟩, ⟨by repeat (first | (with_reducible first | exact HB.out | apply below_alloc | apply pw_below_drewN | apply below_drew1) | exact HB.out)⟩⟩
                  · replace c27 := Bool.eq_false_iff.mpr c27
                    subst c27
                    have H1 : (some false) = some r := by rw [if_neg (show ¬ (false = true) by decide)] at H; exact H
                    clear H
                    have H := H1
                    clear H1
                    obtain rfl := Option.some.inj H
                    go_wp2_with (first | ((with_reducible refine gate_callee (f := 22) rfl ?_); refine goesL_ (some 58) rfl rfl Tryd.func22 (by kernel_rfl) rfl #[.string a0, .int .i64 t189, .string (⟨#[104]⟩ : ByteArray), .int .i64 a2, .int .i64 0] rfl (by (try simp only [List.map_toArray, List.map_cons, List.map_nil]); first | done | rfl | (simp only [List.length_drop, List.length_take]; rfl)) ?_; (with_reducible refine (move_Go.calls a0 t189 (⟨#[104]⟩ : ByteArray) a2 0 t192 false _ A25.out).mono ?_); rintro e w29 ⟨rfl, hb⟩; refine ⟨_, rfl, ?_⟩; have n0_ := Aside0.mk (below_step (by repeat (first | (with_reducible first | exact HB.out | apply below_alloc | apply pw_below_drewN | apply below_drew1) | exact HB.out)) hb); clear HB; have HB := n0_; clear n0_; (try clear hb); (try clear hb2); (try clear hk); (try clear hi)))
                    go_ret
                    exact ⟨by first | rfl | (simp [errW_none, errW_some] <;> rfl) | (simp [*, errW_none, errW_some] <;> rfl), by repeat (first | (with_reducible first | exact HB.out | apply below_alloc | apply pw_below_drewN | apply below_drew1) | exact HB.out)⟩
                · rw [if_neg c26] at H
                  have c26b0 : (t192 == a1) = false := beq_eq_false_iff_ne.mpr c26
                  have c26b1 : (t192 != a1) = true := bne_iff_ne.mpr c26
                  (first | rw [c26b0] | (simp only [i64_w, i32_w]; rw [c26b0]) | skip)
                  obtain rfl := Option.some.inj H
                  go_wp2_with (first | ((with_reducible refine gate_callee (f := 22) rfl ?_); refine goesL_ (some 58) rfl rfl Tryd.func22 (by kernel_rfl) rfl #[.string a0, .int .i64 t189, .string (⟨#[104]⟩ : ByteArray), .int .i64 a2, .int .i64 0] rfl (by (try simp only [List.map_toArray, List.map_cons, List.map_nil]); first | done | rfl | (simp only [List.length_drop, List.length_take]; rfl)) ?_; (with_reducible refine (move_Go.calls a0 t189 (⟨#[104]⟩ : ByteArray) a2 0 t192 t193 _ A25.out).mono ?_); rintro e w30 ⟨rfl, hb⟩; refine ⟨_, rfl, ?_⟩; have n0_ := Aside0.mk (below_step (by repeat (first | (with_reducible first | exact HB.out | apply below_alloc | apply pw_below_drewN | apply below_drew1) | exact HB.out)) hb); clear HB; have HB := n0_; clear n0_; (try clear hb); (try clear hb2); (try clear hk); (try clear hi)))
                  go_ret
                  exact ⟨by first | rfl | (simp [errW_none, errW_some] <;> rfl) | (simp [*, errW_none, errW_some] <;> rfl), by repeat (first | (with_reducible first | exact HB.out | apply below_alloc | apply pw_below_drewN | apply below_drew1) | exact HB.out)⟩
              · replace c24 := Bool.eq_false_iff.mpr c24
                subst c24
                have H1 : (calamuslaw14_MoveBack.j2 kj15 a0 a1 a2 t187 t188) = some r := by rw [if_neg (show ¬ (false = true) by decide)] at H; exact H
                clear H
                have H := H1
                clear H1
                have H' := Aside0.mk H
                clear H
                go_wp2
                go_meet
                case rel => exact ⟨_, H', ⟨by have := HJ3.out; have := HJ15.out; first | omega | exact Nat.le_refl _⟩, ⟨by repeat (first | (with_reducible first | exact HB.out | apply below_alloc | apply pw_below_drewN | apply below_drew1) | exact HB.out)⟩⟩
            case rest =>
              clear HC23
              try clear c1
              try clear c2
              try clear p2
              try clear c5
              try clear c5b0
              try clear c5b1
              try clear p6
              try clear c7
              try clear c10
              try clear c20
              try clear c21
              try clear c22
              try clear c24
              try clear c26
              try clear c26b0
              try clear c26b1
              try clear c27
              try clear p2
              try clear p6
              obtain ⟨kq, HA, HJ22, HB⟩ := hcut
              cases kq with
              | zero => exact absurd HA.out (by simp [calamuslaw14_MoveBack.j2])
              | succ kj22 =>
                have H := HA.out
                clear HA
                simp only [calamuslaw14_MoveBack.j2] at H
                replace H := Option.bind_eq_some_iff.mp H
                obtain ⟨⟨t194, t195⟩, A310, H⟩ := H
                replace H : (if t195 = true then ((line_Of.f a0 t194).bind fun t196 => (calamuslaw14_MoveBack.j3 kj22 a0 a1 a2 t188 t194 (t196 == (wrap64 (t187 + a2))))) else (calamuslaw14_MoveBack.j3 kj22 a0 a1 a2 t188 t194 false)) = some r := H
                have A31 := Aside0.mk A310
                clear A310
                have HC32 := Aside0.mk H
                clear H
                go_upto_region 10 with (first | ((with_reducible refine gate_callee (f := 22) rfl ?_); refine goesL_ (some 73) rfl rfl Tryd.func22 (by kernel_rfl) rfl #[.string a0, .int .i64 a1, .string (⟨#[106]⟩ : ByteArray), .int .i64 a2, .int .i64 t188] rfl (by (try simp only [List.map_toArray, List.map_cons, List.map_nil]); first | done | rfl | (simp only [List.length_drop, List.length_take]; rfl)) ?_; (with_reducible refine (move_Go.calls a0 a1 (⟨#[106]⟩ : ByteArray) a2 t188 t194 t195 _ A31.out).mono ?_); rintro e w33 ⟨rfl, hb⟩; refine ⟨_, rfl, ?_⟩; have n0_ := Aside0.mk (below_step (by repeat (first | (with_reducible first | exact HB.out | apply below_alloc | apply pw_below_drewN | apply below_drew1) | exact HB.out)) hb); clear HB; have HB := n0_; clear n0_; (try clear hb); (try clear hb2); (try clear hk); (try clear hi)))
                (try simp only [Act.put, List.setIfInBounds_toArray, List.set_cons_zero, List.set_cons_succ])
                go_cut [85] (fun v85 wc => ∃ (kq : Nat) (x85_31 : Bool), v85 = .bool x85_31 ∧ Aside0 (calamuslaw14_MoveBack.j3 kq a0 a1 a2 t188 t194 x85_31 = some r) ∧ Aside0 (kq ≤ kj22) ∧ Aside0 (Below w.heap.size w wc))
                case first =>
                  have H := HC32.out
                  clear HC32
                  by_cases c34 : t195 = true
                  · subst c34
                    have H1 : ((line_Of.f a0 t194).bind fun t196 => (calamuslaw14_MoveBack.j3 kj22 a0 a1 a2 t188 t194 (t196 == (wrap64 (t187 + a2))))) = some r := by rw [if_pos rfl] at H; exact H
                    clear H
                    have H := H1
                    clear H1
                    replace H := Option.bind_eq_some_iff.mp H
                    obtain ⟨t196, A350, H⟩ := H
                    replace H : (calamuslaw14_MoveBack.j3 kj22 a0 a1 a2 t188 t194 (t196 == (wrap64 (t187 + a2)))) = some r := H
                    have A35 := Aside0.mk A350
                    clear A350
                    have H' := Aside0.mk H
                    clear H
                    go_wp2_with (first | (go_at_call 26; (with_reducible refine (line_Of.calls a0 t194 t196 _ A35.out).mono ?_); rintro e w36 ⟨rfl, hb⟩; have n0_ := Aside0.mk (below_step (by repeat (first | (with_reducible first | exact HB.out | apply below_alloc | apply pw_below_drewN | apply below_drew1) | exact HB.out)) hb); clear HB; have HB := n0_; clear n0_; (try clear hb); (try clear hb2); (try clear hk); (try clear hi)))
                    go_meet
                    case rel => exact ⟨_, ((t196 == (wrap64 (t187 + a2)))), (by first | rfl | (simp; done) | (simp [*]; done)), H', ⟨by have := HJ3.out; have := HJ15.out; have := HJ22.out; first | omega | exact Nat.le_refl _⟩, ⟨by repeat (first | (with_reducible first | exact HB.out | apply below_alloc | apply pw_below_drewN | apply below_drew1) | exact HB.out)⟩⟩
                  · replace c34 := Bool.eq_false_iff.mpr c34
                    subst c34
                    have H1 : (calamuslaw14_MoveBack.j3 kj22 a0 a1 a2 t188 t194 false) = some r := by rw [if_neg (show ¬ (false = true) by decide)] at H; exact H
                    clear H
                    have H := H1
                    clear H1
                    have H' := Aside0.mk H
                    clear H
                    go_wp2
                    go_meet
                    case rel => exact ⟨_, (false), (by first | rfl | (simp; done) | (simp [*]; done)), H', ⟨by have := HJ3.out; have := HJ15.out; have := HJ22.out; first | omega | exact Nat.le_refl _⟩, ⟨by repeat (first | (with_reducible first | exact HB.out | apply below_alloc | apply pw_below_drewN | apply below_drew1) | exact HB.out)⟩⟩
                case rest =>
                  clear HC32
                  try clear c1
                  try clear c2
                  try clear p2
                  try clear c3
                  try clear c5
                  try clear c5b0
                  try clear c5b1
                  try clear p6
                  try clear c7
                  try clear c10
                  try clear c20
                  try clear c21
                  try clear c22
                  try clear c24
                  try clear c26
                  try clear c26b0
                  try clear c26b1
                  try clear c27
                  try clear c34
                  try clear p2
                  try clear p6
                  obtain ⟨kq, x85_31, rfl, HA, HJ31, HB⟩ := hcut
                  cases kq with
                  | zero => exact absurd HA.out (by simp [calamuslaw14_MoveBack.j3])
                  | succ kj31 =>
                    have H := HA.out
                    clear HA
                    simp only [calamuslaw14_MoveBack.j3] at H
                    by_cases c37 : x85_31 = true
                    · subst c37
                      have H1 : ((move_Go.f a0 t194 (⟨#[107]⟩ : ByteArray) a2 t188).bind fun bt197 => (if bt197.1 = a1 then (if bt197.2 = true then ((calamuslaw14_lives.f).bind fun t199 => (some t199)) else (some false)) else (some false))) = some r := by rw [if_pos rfl] at H; exact H
                      clear H
                      have H := H1
                      clear H1
                      replace H := Option.bind_eq_some_iff.mp H
                      obtain ⟨⟨t197, t198⟩, A380, H⟩ := H
                      replace H : (if t197 = a1 then (if t198 = true then ((calamuslaw14_lives.f).bind fun t199 => (some t199)) else (some false)) else (some false)) = some r := H
                      have A38 := Aside0.mk A380
                      clear A380
                      by_cases c39 : t197 = a1
                      · rw [if_pos c39] at H
                        have c39b0 : (t197 == a1) = true := beq_iff_eq.mpr c39
                        have c39b1 : (t197 != a1) = false := bne_eq_false_iff_eq.mpr c39
                        clear c39
                        by_cases c40 : t198 = true
                        · subst c40
                          have H1 : ((calamuslaw14_lives.f).bind fun t199 => (some t199)) = some r := by rw [if_pos rfl] at H; exact H
                          clear H
                          have H := H1
                          clear H1
                          replace H := Option.bind_eq_some_iff.mp H
                          obtain ⟨t199, A410, H⟩ := H
                          replace H : (some t199) = some r := H
                          have A41 := Aside0.mk A410
                          clear A410
                          obtain rfl := Option.some.inj H
                          go_wp2_with (first | ((with_reducible refine gate_callee (f := 22) rfl ?_); refine goesL_ (some 91) rfl rfl Tryd.func22 (by kernel_rfl) rfl #[.string a0, .int .i64 t194, .string (⟨#[107]⟩ : ByteArray), .int .i64 a2, .int .i64 t188] rfl (by (try simp only [List.map_toArray, List.map_cons, List.map_nil]); first | done | rfl | (simp only [List.length_drop, List.length_take]; rfl)) ?_; (with_reducible refine (move_Go.calls a0 t194 (⟨#[107]⟩ : ByteArray) a2 t188 t197 true _ A38.out).mono ?_); rintro e w42 ⟨rfl, hb⟩; refine ⟨_, rfl, ?_⟩; have n0_ := Aside0.mk (below_step (by repeat (first | (with_reducible first | exact HB.out | apply below_alloc | apply pw_below_drewN | apply below_drew1) | exact HB.out)) hb); clear HB; have HB := n0_; clear n0_; (try clear hb); (try clear hb2); (try clear hk); (try clear hi)) | ((with_reducible refine gate_callee (f := 21) rfl ?_); refine goesL_ (some 101) rfl rfl Tryd.func21 (by kernel_rfl) rfl #[] rfl (by (try simp only [List.map_toArray, List.map_cons, List.map_nil]); first | done | rfl | (simp only [List.length_drop, List.length_take]; rfl)) ?_; (with_reducible refine (calamuslaw14_lives.calls  t199 _ A41.out).mono ?_); rintro e w43 ⟨rfl, hb⟩; refine ⟨_, rfl, ?_⟩; have n0_ := Aside0.mk (below_step (by repeat (first | (with_reducible first | exact HB.out | apply below_alloc | apply pw_below_drewN | apply below_drew1) | exact HB.out)) hb); clear HB; have HB := n0_; clear n0_; (try clear hb); (try clear hb2); (try clear hk); (try clear hi)))
                          go_ret
                          exact ⟨by first | rfl | (simp [errW_none, errW_some] <;> rfl) | (simp [*, errW_none, errW_some] <;> rfl), by repeat (first | (with_reducible first | exact HB.out | apply below_alloc | apply pw_below_drewN | apply below_drew1) | exact HB.out)⟩
                        · replace c40 := Bool.eq_false_iff.mpr c40
                          subst c40
                          have H1 : (some false) = some r := by rw [if_neg (show ¬ (false = true) by decide)] at H; exact H
                          clear H
                          have H := H1
                          clear H1
                          obtain rfl := Option.some.inj H
                          go_wp2_with (first | ((with_reducible refine gate_callee (f := 22) rfl ?_); refine goesL_ (some 91) rfl rfl Tryd.func22 (by kernel_rfl) rfl #[.string a0, .int .i64 t194, .string (⟨#[107]⟩ : ByteArray), .int .i64 a2, .int .i64 t188] rfl (by (try simp only [List.map_toArray, List.map_cons, List.map_nil]); first | done | rfl | (simp only [List.length_drop, List.length_take]; rfl)) ?_; (with_reducible refine (move_Go.calls a0 t194 (⟨#[107]⟩ : ByteArray) a2 t188 t197 false _ A38.out).mono ?_); rintro e w44 ⟨rfl, hb⟩; refine ⟨_, rfl, ?_⟩; have n0_ := Aside0.mk (below_step (by repeat (first | (with_reducible first | exact HB.out | apply below_alloc | apply pw_below_drewN | apply below_drew1) | exact HB.out)) hb); clear HB; have HB := n0_; clear n0_; (try clear hb); (try clear hb2); (try clear hk); (try clear hi)))
                          go_ret
                          exact ⟨by first | rfl | (simp [errW_none, errW_some] <;> rfl) | (simp [*, errW_none, errW_some] <;> rfl), by repeat (first | (with_reducible first | exact HB.out | apply below_alloc | apply pw_below_drewN | apply below_drew1) | exact HB.out)⟩
                      · rw [if_neg c39] at H
                        have c39b0 : (t197 == a1) = false := beq_eq_false_iff_ne.mpr c39
                        have c39b1 : (t197 != a1) = true := bne_iff_ne.mpr c39
                        obtain rfl := Option.some.inj H
                        go_wp2_with (first | ((with_reducible refine gate_callee (f := 22) rfl ?_); refine goesL_ (some 91) rfl rfl Tryd.func22 (by kernel_rfl) rfl #[.string a0, .int .i64 t194, .string (⟨#[107]⟩ : ByteArray), .int .i64 a2, .int .i64 t188] rfl (by (try simp only [List.map_toArray, List.map_cons, List.map_nil]); first | done | rfl | (simp only [List.length_drop, List.length_take]; rfl)) ?_; (with_reducible refine (move_Go.calls a0 t194 (⟨#[107]⟩ : ByteArray) a2 t188 t197 t198 _ A38.out).mono ?_); rintro e w45 ⟨rfl, hb⟩; refine ⟨_, rfl, ?_⟩; have n0_ := Aside0.mk (below_step (by repeat (first | (with_reducible first | exact HB.out | apply below_alloc | apply pw_below_drewN | apply below_drew1) | exact HB.out)) hb); clear HB; have HB := n0_; clear n0_; (try clear hb); (try clear hb2); (try clear hk); (try clear hi)))
                        go_ret
                        exact ⟨by first | rfl | (simp [errW_none, errW_some] <;> rfl) | (simp [*, errW_none, errW_some] <;> rfl), by repeat (first | (with_reducible first | exact HB.out | apply below_alloc | apply pw_below_drewN | apply below_drew1) | exact HB.out)⟩
                    · replace c37 := Bool.eq_false_iff.mpr c37
                      subst c37
                      have H1 : ((calamuslaw14_lives.f).bind fun t200 => (some t200)) = some r := by rw [if_neg (show ¬ (false = true) by decide)] at H; exact H
                      clear H
                      have H := H1
                      clear H1
                      replace H := Option.bind_eq_some_iff.mp H
                      obtain ⟨t200, A460, H⟩ := H
                      replace H : (some t200) = some r := H
                      have A46 := Aside0.mk A460
                      clear A460
                      obtain rfl := Option.some.inj H
                      go_wp2_with (first | ((with_reducible refine gate_callee (f := 21) rfl ?_); refine goesL_ (some 101) rfl rfl Tryd.func21 (by kernel_rfl) rfl #[] rfl (by (try simp only [List.map_toArray, List.map_cons, List.map_nil]); first | done | rfl | (simp only [List.length_drop, List.length_take]; rfl)) ?_; (with_reducible refine (calamuslaw14_lives.calls  t200 _ A46.out).mono ?_); rintro e w47 ⟨rfl, hb⟩; refine ⟨_, rfl, ?_⟩; have n0_ := Aside0.mk (below_step (by repeat (first | (with_reducible first | exact HB.out | apply below_alloc | apply pw_below_drewN | apply below_drew1) | exact HB.out)) hb); clear HB; have HB := n0_; clear n0_; (try clear hb); (try clear hb2); (try clear hk); (try clear hi)))
                      go_ret
                      exact ⟨by first | rfl | (simp [errW_none, errW_some] <;> rfl) | (simp [*, errW_none, errW_some] <;> rfl), by repeat (first | (with_reducible first | exact HB.out | apply below_alloc | apply pw_below_drewN | apply below_drew1) | exact HB.out)⟩

def calamuslaw14_MoveBack.Pure : Prop := ∀ (a0 : ByteArray) (a1 : Int) (a2 : Int), a0.size ≤ 140737488351232 → (Lit.int .i64 a1).wf = true → (Lit.int .i64 a2).wf = true → ∃ k, calamuslaw14_MoveBack.f k a0 a1 a2 = some true
theorem calamuslaw14_MoveBack.walk (P : calamuslaw14_MoveBack.Pure) (a0 : ByteArray) (a1 : Int) (a2 : Int) (w : World) (w0 : a0.size ≤ 140737488351232) (w1 : (Lit.int .i64 a1).wf = true) (w2 : (Lit.int .i64 a2).wf = true) :
    Calls Tryd.prog 10 #[.string a0, .int .i64 a1, .int .i64 a2] w fun e w' => e = .returned (.bool true) ∧ Below w.heap.size w w' := by
  obtain ⟨k, h⟩ := P a0 a1 a2 w0 w1 w2
  refine (calamuslaw14_MoveBack.calls k a0 a1 a2 true w h).mono ?_
  rintro e w' ⟨rfl, hd⟩
  exact ⟨rfl, hd⟩

end Go.Proofs.YtbilknmcikmcoaaDoor.QO
/- The statements MoveGoes, MoveAll, MovePlaces, MoveBack in plain words (MOD QO). -/
namespace Go.Proofs.YtbilknmcikmcoaaDoor
open Go.RowKit
set_option linter.unusedVariables false
set_option linter.unusedSimpArgs false
open Go.RowKit Go.Proofs.YtbilknmcikmcoaaDoor.QO Go.Proofs.YtbilknmcikmcoaaDoorW.PrintWords Go.Proofs.YtbilknmcikmcoaaDoorW.PrintMore
theorem go_val (t : ByteArray) (p : Int) (key : ByteArray) (n want : Int) (ht : t.size ≤ 1000000) (hw : want ≤ 9223372036854775807) : move_Go.f t p key n want = some (goM (ls t) p key n want) := move_Go.eq t p key n want ⟨ht, hw⟩
theorem lives14_a : goM (ls ⟨#[97, 98, 10, 99, 100]⟩) 0 ⟨#[106]⟩ 0 1 = (4, true) := by decide +kernel
theorem lives14_b : goM (ls ⟨#[97, 98, 10, 99, 100]⟩) 0 ⟨#[108]⟩ 9 0 = (2, true) := by decide +kernel
theorem lives14 : calamuslaw14_lives.f = some true := by
  unfold calamuslaw14_lives.f
  rw [go_val _ _ _ _ _ (by decide) (by omega), go_val _ _ _ _ _ (by decide) (by omega), lives14_a, lives14_b]
  rfl
theorem lives14' : Ev (fun _ => calamuslaw14_lives.f.bind fun t => some t) true := ⟨0, fun _ _ => by rw [lives14]; rfl⟩
theorem MoveGoes_p (t : ByteArray) (p : Int) (key : ByteArray) (n want : Int) (ht : t.size ≤ 140737488351232) (hp : -9223372036854775808 ≤ p ∧ p ≤ 9223372036854775807) (hk : key.size ≤ 140737488351232) (hn : -9223372036854775808 ≤ n ∧ n ≤ 9223372036854775807) (hw : -9223372036854775808 ≤ want ∧ want ≤ 9223372036854775807) : ∃ k, calamuslaw14_MoveGoes.f k t p key n want = some true := by
  suffices h : Ev (fun k => calamuslaw14_MoveGoes.f k t p key n want) true by obtain ⟨K, h⟩ := h; exact ⟨K, h K (Nat.le_refl _)⟩
  unfold calamuslaw14_MoveGoes.f
  refine Ev.ite (fun _ => lives14') (fun hs => ?_)
  refine Ev.call (go_val t p key n want (by omega) hw.2) (Ev.bind (rgo_ev t p key n want (by omega) hn hw) ?_)
  refine Ev.pos rfl (Ev.pos (by simp) ?_)
  exact Ev.call (move_Has.eq key) (Ev.bind (rhas_ev key) (Ev.pos (by simp) lives14'))
theorem moveAll_l0 (t : ByteArray) (p : Int) (n want : Int) (L : List ByteArray) (hL : L.length ≤ 1000) (ht : t.size ≤ 1000000) (hn : -9223372036854775808 ≤ n ∧ n ≤ 9223372036854775807) (hw : -9223372036854775808 ≤ want ∧ want ≤ 9223372036854775807) : ∀ (d j : Nat), L.length - j ≤ d → j ≤ L.length → Ev (fun K => calamuslaw14_MoveAll.l0 K t p n want L L.length j) true := by
  intro d
  induction d with
  | zero =>
    intro j h1 h2
    refine Ev.step (fun _ => (by rw [calamuslaw14_MoveAll.l0])) ?_
    exact Ev.neg (show ¬ ((j : Int) < L.length) by omega) lives14'
  | succ d ih =>
    intro j h1 h2
    refine Ev.step (fun _ => (by rw [calamuslaw14_MoveAll.l0])) ?_
    refine Ev.ite (fun hj => ?_) (fun hj => lives14')
    refine Ev.pos (by omega) (Ev.pos (by omega) ?_)
    generalize rdOf ByteArray.empty L (j : Int) = key
    refine Ev.call (go_val t p key n want (by omega) hw.2) (Ev.bind (rgo_ev t p key n want (by omega) hn hw) ?_)
    refine Ev.pos rfl (Ev.neg (by simp) ?_)
    refine Ev.call (move_Has.eq key) (Ev.bind (rhas_ev key) (Ev.neg (by simp) ?_))
    rw [w64 (by omega) (by omega)]
    exact ih (j + 1) (by omega) (by omega)
theorem MoveAll_p (t : ByteArray) (p : Int) (n want : Int) (ht : t.size ≤ 140737488351232) (hp : -9223372036854775808 ≤ p ∧ p ≤ 9223372036854775807) (hn : -9223372036854775808 ≤ n ∧ n ≤ 9223372036854775807) (hw : -9223372036854775808 ≤ want ∧ want ≤ 9223372036854775807) : ∃ k, calamuslaw14_MoveAll.f k t p n want = some true := by
  suffices h : Ev (fun k => calamuslaw14_MoveAll.f k t p n want) true by obtain ⟨K, h⟩ := h; exact ⟨K, h K (Nat.le_refl _)⟩
  unfold calamuslaw14_MoveAll.f
  refine Ev.ite (fun _ => lives14') (fun hs => ?_)
  refine Ev.call rfl ?_
  exact moveAll_l0 t p n want _ (by decide) (by omega) hn hw _ 0 (Nat.le_refl _) (Nat.zero_le _)
theorem MovePlaces_p (t : ByteArray) (p : Int) (key : ByteArray) (n want : Int) (ht : t.size ≤ 140737488351232) (hp : -9223372036854775808 ≤ p ∧ p ≤ 9223372036854775807) (hk : key.size ≤ 140737488351232) (hn : -9223372036854775808 ≤ n ∧ n ≤ 9223372036854775807) (hw : -9223372036854775808 ≤ want ∧ want ≤ 9223372036854775807) : ∃ k, calamuslaw14_MovePlaces.f k t p key n want = some true := by
  suffices h : Ev (fun k => calamuslaw14_MovePlaces.f k t p key n want) true by obtain ⟨K, h⟩ := h; exact ⟨K, h K (Nat.le_refl _)⟩
  unfold calamuslaw14_MovePlaces.f
  refine Ev.ite (fun _ => lives14') (fun hs => ?_)
  refine Ev.call (go_val t p key n want (by omega) hw.2) ?_
  have none0 (h : goM (ls t) p key n want = (0, false)) : Ev (fun k => if (goM (ls t) p key n want).2 = true then ((utf_Place.f t (goM (ls t) p key n want).1).bind fun t174 => (if t174 = true then ((utf_Place.f t p).bind fun t175 => (calamuslaw14_MovePlaces.j0 k t p key (goM (ls t) p key n want).1 (!t175))) else (calamuslaw14_MovePlaces.j0 k t p key (goM (ls t) p key n want).1 true))) else (if (goM (ls t) p key n want).1 = 0 then ((calamuslaw14_lives.f).bind fun t173 => (some t173)) else (some false))) true := by
    rw [h]; exact Ev.neg (by simp) (Ev.pos rfl lives14')
  cases hJ : motJ key with
  | none => exact none0 (by unfold goM; rw [hJ])
  | some j =>
    rcases place_cases t p with hpf | ⟨q, rfl, hle, hpt, hv⟩
    · exact none0 (by unfold goM; rw [hJ]; simp [hpf])
    · have hg : goM (ls t) q key n want = motI (ls t) q n want j := by unfold goM; rw [hJ]; simp [hpt]
      obtain ⟨hj, hkey⟩ := motJ_some hJ
      obtain ⟨a1, a2⟩ := mot_place hpt n want j hj
      rw [hg]
      cases hb : (motI (ls t) q n want j).2 with
      | false => exact Ev.neg (by simp) (Ev.pos (a1 hb) lives14')
      | true =>
        obtain ⟨tg, b1, b2, b3, b4, b5, b6, b7⟩ := a2 hb
        rw [b1]
        refine Ev.pos rfl (Ev.call (utf_Place.eq t tg (by omega)) (Ev.pos b2 (Ev.call (utf_Place.eq t q (by omega)) ?_)))
        rw [hpt]
        refine Ev.step (fun _ => (by rw [calamuslaw14_MovePlaces.j0])) ?_
        refine Ev.neg (by simp) (Ev.call (line_Of.eq t _ (by omega)) (Ev.call (line_Of.eq t _ (by omega)) ?_))
        rw [hkey]
        match j, hj with
        | 0, _ =>
          obtain ⟨c1, c2⟩ := b3 rfl
          refine Ev.pos (tl_eq _ _ rfl) ?_
          refine Ev.step (fun _ => (by rw [calamuslaw14_MovePlaces.j1])) ?_
          exact Ev.pos (by rw [tl_eq _ [104] rfl]; rfl) (Ev.pos c1.symm (Ev.pos (tl_eq _ _ rfl) (Ev.pos (by omega) (Ev.neg (tl_ne _ _ (by decide)) lives14'))))
        | 1, _ =>
          obtain ⟨c1, c2⟩ := b4 rfl
          refine Ev.neg (tl_ne _ _ (by decide)) (Ev.pos (tl_eq _ _ rfl) ?_)
          refine Ev.step (fun _ => (by rw [calamuslaw14_MovePlaces.j1])) ?_
          exact Ev.pos (by rw [tl_eq _ [108] rfl]; rfl) (Ev.pos c1.symm (Ev.neg (tl_ne _ _ (by decide)) (Ev.pos (tl_eq _ _ rfl) (Ev.pos (by omega) lives14'))))
        | 2, _ =>
          have c1 := b5 (by omega)
          refine Ev.neg (tl_ne _ _ (by decide)) (Ev.neg (tl_ne _ _ (by decide)) (Ev.pos (tl_eq _ _ rfl) ?_))
          refine Ev.step (fun _ => (by rw [calamuslaw14_MovePlaces.j1])) ?_
          exact Ev.pos (by rw [tl_eq _ [48] rfl]; rfl) (Ev.pos c1.symm (Ev.neg (tl_ne _ _ (by decide)) (Ev.neg (tl_ne _ _ (by decide)) lives14')))
        | 3, _ =>
          have c1 := b5 (by omega)
          refine Ev.neg (tl_ne _ _ (by decide)) (Ev.neg (tl_ne _ _ (by decide)) (Ev.neg (tl_ne _ _ (by decide)) (Ev.pos (tl_eq _ _ rfl) ?_)))
          refine Ev.step (fun _ => (by rw [calamuslaw14_MovePlaces.j1])) ?_
          exact Ev.pos (by rw [tl_eq _ [94] rfl]; rfl) (Ev.pos c1.symm (Ev.neg (tl_ne _ _ (by decide)) (Ev.neg (tl_ne _ _ (by decide)) lives14')))
        | 5, _ =>
          have c1 := b5 (by omega)
          refine Ev.neg (tl_ne _ _ (by decide)) (Ev.neg (tl_ne _ _ (by decide)) (Ev.neg (tl_ne _ _ (by decide)) (Ev.neg (tl_ne _ _ (by decide)) ?_)))
          refine Ev.step (fun _ => (by rw [calamuslaw14_MovePlaces.j1])) ?_
          exact Ev.pos (by rw [tl_eq _ [124] rfl]; rfl) (Ev.pos c1.symm (Ev.neg (tl_ne _ _ (by decide)) (Ev.neg (tl_ne _ _ (by decide)) lives14')))
        | 4, _ =>
          refine Ev.neg (tl_ne _ _ (by decide)) (Ev.neg (tl_ne _ _ (by decide)) (Ev.neg (tl_ne _ _ (by decide)) (Ev.neg (tl_ne _ _ (by decide)) ?_)))
          refine Ev.step (fun _ => (by rw [calamuslaw14_MovePlaces.j1])) ?_
          exact Ev.neg (by rw [tl_eq _ [36] rfl]; decide) (Ev.neg (tl_ne _ _ (by decide)) (Ev.neg (tl_ne _ _ (by decide)) lives14'))
        | 6, _ =>
          have c1 := b6 rfl
          refine Ev.neg (tl_ne _ _ (by decide)) (Ev.neg (tl_ne _ _ (by decide)) (Ev.neg (tl_ne _ _ (by decide)) (Ev.neg (tl_ne _ _ (by decide)) ?_)))
          refine Ev.step (fun _ => (by rw [calamuslaw14_MovePlaces.j1])) ?_
          exact Ev.neg (by rw [tl_eq _ [106] rfl]; decide) (Ev.pos (tl_eq _ _ rfl) (Ev.pos (by omega) lives14'))
        | 7, _ =>
          have c1 := b7 rfl
          refine Ev.neg (tl_ne _ _ (by decide)) (Ev.neg (tl_ne _ _ (by decide)) (Ev.neg (tl_ne _ _ (by decide)) (Ev.neg (tl_ne _ _ (by decide)) ?_)))
          refine Ev.step (fun _ => (by rw [calamuslaw14_MovePlaces.j1])) ?_
          exact Ev.neg (by rw [tl_eq _ [107] rfl]; decide) (Ev.neg (tl_ne _ _ (by decide)) (Ev.pos (tl_eq _ _ rfl) (Ev.pos (by omega) lives14')))
        | 8, _ =>
          refine Ev.neg (tl_ne _ _ (by decide)) (Ev.neg (tl_ne _ _ (by decide)) (Ev.neg (tl_ne _ _ (by decide)) (Ev.neg (tl_ne _ _ (by decide)) ?_)))
          refine Ev.step (fun _ => (by rw [calamuslaw14_MovePlaces.j1])) ?_
          exact Ev.neg (by rw [tl_eq _ [103, 103] rfl]; decide) (Ev.neg (tl_ne _ _ (by decide)) (Ev.neg (tl_ne _ _ (by decide)) lives14'))
        | 9, _ =>
          refine Ev.neg (tl_ne _ _ (by decide)) (Ev.neg (tl_ne _ _ (by decide)) (Ev.neg (tl_ne _ _ (by decide)) (Ev.neg (tl_ne _ _ (by decide)) ?_)))
          refine Ev.step (fun _ => (by rw [calamuslaw14_MovePlaces.j1])) ?_
          exact Ev.neg (by rw [tl_eq _ [71] rfl]; decide) (Ev.neg (tl_ne _ _ (by decide)) (Ev.neg (tl_ne _ _ (by decide)) lives14'))
theorem MoveBack_p (t : ByteArray) (p : Int) (n : Int) (ht : t.size ≤ 140737488351232) (hp : -9223372036854775808 ≤ p ∧ p ≤ 9223372036854775807) (hn : -9223372036854775808 ≤ n ∧ n ≤ 9223372036854775807) : ∃ k, calamuslaw14_MoveBack.f k t p n = some true := by
  suffices h : Ev (fun k => calamuslaw14_MoveBack.f k t p n) true by obtain ⟨K, h⟩ := h; exact ⟨K, h K (Nat.le_refl _)⟩
  unfold calamuslaw14_MoveBack.f
  have live0 : Ev (fun k => calamuslaw14_MoveBack.j0 k t p n true) true := by
    refine Ev.step (fun _ => (by rw [calamuslaw14_MoveBack.j0])) ?_
    exact Ev.pos rfl lives14'
  refine Ev.ite (fun _ => live0) (fun hs => ?_)
  refine Ev.call (utf_Place.eq t p (by omega)) ?_
  rcases place_cases t p with hpf | ⟨q, rfl, hle, hpt, hv⟩
  · rw [hpf]; exact Ev.neg (by simp) live0
  refine Ev.pos hpt ?_
  by_cases h1 : n < 1
  · rw [decide_eq_true h1]; exact live0
  rw [decide_eq_false h1]
  refine Ev.step (fun _ => (by rw [calamuslaw14_MoveBack.j0])) ?_
  have hc := col_le hpt
  have hat := (at_col hpt).1
  have ho : 0 ≤ ofI (ls t) q ∧ ofI (ls t) q ≤ t.size := by
    obtain ⟨_, hle', hv⟩ := valid_at hpt
    obtain ⟨k1, _⟩ := start_of hle' hv
    have := fds_le (ls t) q
    rw [k1]; omega
  have gl (j : Nat) (key : ByteArray) (hJ : motJ key = some j) (x : Nat) (hx : placeB (ls t) x = true) (w : Int) : goM (ls t) x key n w = motI (ls t) x n w j := by unfold goM; rw [hJ]; simp [hx]
  refine Ev.neg (by simp) (Ev.call (line_Of.eq t _ (by omega)) (Ev.call (line_Column.eq t _ (by omega)) ?_))
  -- the second half
  have half2 : Ev (fun K => calamuslaw14_MoveBack.j2 K t q n (ofI (ls t) q) (colI (ls t) q)) true := by
    refine Ev.step (fun _ => (by rw [calamuslaw14_MoveBack.j2])) ?_
    refine Ev.call (go_val t q _ n _ (by omega) (by omega)) ?_
    rw [gl 6 _ (by decide +kernel) q hpt]
    obtain ⟨a1, a2⟩ := mot_place hpt n (colI (ls t) q) 6 (by omega)
    have hlast : ∀ x, Ev (fun K => calamuslaw14_MoveBack.j3 K t q n (colI (ls t) q) x false) true := fun x => by
      refine Ev.step (fun _ => (by rw [calamuslaw14_MoveBack.j3])) ?_
      exact Ev.neg (by simp) lives14'
    refine Ev.ite (fun hb => ?_) (fun _ => hlast _)
    obtain ⟨tg, b1, b2, _⟩ := a2 hb
    rw [b1]
    refine Ev.call (line_Of.eq t _ (by omega)) ?_
    by_cases hk : ofI (ls t) tg = ofI (ls t) q + n
    · refine Ev.step (fun _ => (by rw [calamuslaw14_MoveBack.j3])) ?_
      have hto : ofI (ls t) tg ≤ t.size := by
        obtain ⟨_, hle', hv⟩ := valid_at b2
        obtain ⟨k1, _⟩ := start_of hle' hv
        have := fds_le (ls t) tg
        rw [ls_len] at hle'
        rw [k1]; omega
      refine Ev.pos (by rw [w64 (by omega) (by omega), hk]; simp) ?_
      refine Ev.call (go_val t tg _ n _ (by omega) (by omega)) ?_
      rw [gl 7 _ (by decide +kernel) tg b2]
      have : motI (ls t) tg n (colI (ls t) q) 7 = ((q : Int), true) := by
        rw [motI, if_neg (by omega), show ofI (ls t) tg - min (max n 1) (ofI (ls t) tg) = ofI (ls t) q by omega, hat]
      rw [this]
      exact Ev.pos rfl (Ev.pos rfl lives14')
    · have : (ofI (ls t) tg == wrap64 (ofI (ls t) q + n)) = false := by
        rw [beq_eq_false_iff_ne]
        intro h
        by_cases hb : ofI (ls t) q + n ≤ 9223372036854775807
        · rw [w64 (by omega) hb] at h; exact hk h
        · have h2 : wrap64 (ofI (ls t) q + n) < 0 := by
            have : wrap64 (ofI (ls t) q + n) = ofI (ls t) q + n - 18446744073709551616 := by unfold wrap64; omega
            omega
          have : 0 ≤ ofI (ls t) tg := by
            obtain ⟨_, hle', hv⟩ := valid_at b2
            obtain ⟨k1, _⟩ := start_of hle' hv
            rw [k1]; omega
          omega
      rw [this]; exact hlast _
  refine Ev.call (go_val t q _ n _ (by omega) (by omega)) ?_
  rw [gl 1 _ (by decide +kernel) q hpt]
  obtain ⟨a1, a2⟩ := mot_place hpt n 0 1 (by omega)
  have skip : ∀ x, Ev (fun K => calamuslaw14_MoveBack.j1 K t q n (ofI (ls t) q) (colI (ls t) q) x false) true := fun x => by
    refine Ev.step (fun _ => (by rw [calamuslaw14_MoveBack.j1])) ?_
    exact Ev.neg (by simp) half2
  refine Ev.ite (fun hb => ?_) (fun _ => skip _)
  obtain ⟨tg, b1, b2, _, b4, _⟩ := a2 hb
  obtain ⟨c1, c2⟩ := b4 rfl
  rw [b1]
  refine Ev.call (line_Column.eq t _ (by omega)) ?_
  have hct := col_le b2
  have htl := (valid_at b2).2.1
  rw [ls_len] at htl
  by_cases hk : colI (ls t) tg = colI (ls t) q + n
  · refine Ev.step (fun _ => (by rw [calamuslaw14_MoveBack.j1])) ?_
    refine Ev.pos (by rw [w64 (by omega) (by omega), hk]; simp) ?_
    refine Ev.call (go_val t tg _ n _ (by omega) (by omega)) ?_
    rw [gl 0 _ (by decide +kernel) tg b2]
    have : motI (ls t) tg n 0 0 = ((q : Int), true) := by
      obtain ⟨_, hle', hv⟩ := valid_at b2
      obtain ⟨_, k2, _⟩ := start_of hle' hv
      rw [motI, if_neg (by rw [k2]; omega), show colI (ls t) tg - min (max n 1) (colI (ls t) tg) = colI (ls t) q by omega, c1, hat]
    rw [this]
    exact Ev.pos rfl (Ev.pos rfl half2)
  · have : (colI (ls t) tg == wrap64 (colI (ls t) q + n)) = false := by
      rw [beq_eq_false_iff_ne]
      intro h
      by_cases hb : colI (ls t) q + n ≤ 9223372036854775807
      · rw [w64 (by omega) hb] at h; exact hk h
      · have : wrap64 (colI (ls t) q + n) = colI (ls t) q + n - 18446744073709551616 := by unfold wrap64; omega
        omega
    rw [this]; exact skip _
end Go.Proofs.YtbilknmcikmcoaaDoor
