/- Joined by merge.py out of this work's texts: QE4, QE5, PEnC. -/
import Derived.Test.YtnmcdkekflnekaaZEC1
import Derived.Test.YtnmcdkekflnekaaZEC0
-- Printed by this work's xp.py out of the translation. Lean checks it.
namespace Go.Proofs.Ytnmcdkekflnekaa.QE
open Go.RowKit Go.Proofs.YtnmcdkekflnekaaW.PrintWords Go.Proofs.YtnmcdkekflnekaaW.PrintLast Go.Proofs.YtnmcdkekflnekaaW.PrintMore
attribute [local go_sem] max2_int min2_int max_two min_two max_three min_three max_four min_four   -- for this text's walks alone
set_option linter.unusedVariables false
set_option linter.unusedSimpArgs false


/-! ### calamusref25_Wipe -/
def calamusref25_Wipe.f (k : Nat) (a0 : ByteArray) (a1 : Int) (a2 : Int) : Option (ByteArray × Int × Int) := (calamusref25_wrong.f k a0 a1 a2).bind fun t175 => (if t175 = 0 then ((calamusref04_Of.f a0 a1).bind fun t176 => ((calamusref04_Start.f a0 t176).bind fun t177 => (if t177 = a1 then (if (wrap64 (a1 - 1)) < a2 then ((calamusref25_without.f a0 a2 a1).bind fun bt178 => (some (bt178.1, bt178.2.1, bt178.2.2))) else ((calamusref25_without.f a0 (wrap64 (a1 - 1)) a1).bind fun bt181 => (some (bt181.1, bt181.2.1, bt181.2.2)))) else (if t177 < a2 then ((calamusref25_without.f a0 a2 a1).bind fun bt184 => (some (bt184.1, bt184.2.1, bt184.2.2))) else ((calamusref25_without.f a0 t177 a1).bind fun bt187 => (some (bt187.1, bt187.2.1, bt187.2.2))))))) else (some ((⟨#[]⟩ : ByteArray), 0, t175)))
theorem calamusref25_Wipe.mono : ∀ a0 a1 a2 k, LeO (calamusref25_Wipe.f k a0 a1 a2) (calamusref25_Wipe.f (k + 1) a0 a1 a2) := by
  intro a0 a1 a2 k
  unfold calamusref25_Wipe.f
  repeat' first
      | (with_reducible exact calamusref25_wrong.mono _ _ _ _)
      | (with_reducible exact LeO.refl _)
      | (with_reducible exact LeO.none _)
      | (with_reducible refine LeO.ite ?_ ?_)
      | (with_reducible refine LeO.bind ?_ (fun _ => ?_))
      | exact calamusref25_wrong.mono _ _ _ _
      | exact LeO.none _
      | refine LeO.ite ?_ ?_
      | refine LeO.bind ?_ (fun _ => ?_)
set_option maxHeartbeats 8000000 in
set_option maxRecDepth 100000 in
theorem calamusref25_Wipe.calls (k : Nat) (a0 : ByteArray) (a1 : Int) (a2 : Int) (r1 : ByteArray) (r2 : Int) (r3 : Int) (w : World) (h : calamusref25_Wipe.f k a0 a1 a2 = some (r1, r2, r3)) :
    Calls Try.prog 42 #[.string a0, .int .i64 a1, .int .i64 a2] w fun e w' => e = .returned (.tuple #[.string r1, .int .i64 r2, .int .i64 r3]) ∧ Below w.heap.size w w' := by
  have HB := Aside0.mk (Below.refl w.heap.size w)
  have H : ((calamusref25_wrong.f k a0 a1 a2).bind fun t175 => (if t175 = 0 then ((calamusref04_Of.f a0 a1).bind fun t176 => ((calamusref04_Start.f a0 t176).bind fun t177 => (if t177 = a1 then (if (wrap64 (a1 - 1)) < a2 then ((calamusref25_without.f a0 a2 a1).bind fun bt178 => (some (bt178.1, bt178.2.1, bt178.2.2))) else ((calamusref25_without.f a0 (wrap64 (a1 - 1)) a1).bind fun bt181 => (some (bt181.1, bt181.2.1, bt181.2.2)))) else (if t177 < a2 then ((calamusref25_without.f a0 a2 a1).bind fun bt184 => (some (bt184.1, bt184.2.1, bt184.2.2))) else ((calamusref25_without.f a0 t177 a1).bind fun bt187 => (some (bt187.1, bt187.2.1, bt187.2.2))))))) else (some ((⟨#[]⟩ : ByteArray), 0, t175)))) = some (r1, r2, r3) := h
  clear h
  replace H := Option.bind_eq_some_iff.mp H
  obtain ⟨t175, A40, H⟩ := H
  replace H : (if t175 = 0 then ((calamusref04_Of.f a0 a1).bind fun t176 => ((calamusref04_Start.f a0 t176).bind fun t177 => (if t177 = a1 then (if (wrap64 (a1 - 1)) < a2 then ((calamusref25_without.f a0 a2 a1).bind fun bt178 => (some (bt178.1, bt178.2.1, bt178.2.2))) else ((calamusref25_without.f a0 (wrap64 (a1 - 1)) a1).bind fun bt181 => (some (bt181.1, bt181.2.1, bt181.2.2)))) else (if t177 < a2 then ((calamusref25_without.f a0 a2 a1).bind fun bt184 => (some (bt184.1, bt184.2.1, bt184.2.2))) else ((calamusref25_without.f a0 t177 a1).bind fun bt187 => (some (bt187.1, bt187.2.1, bt187.2.2))))))) else (some ((⟨#[]⟩ : ByteArray), 0, t175))) = some (r1, r2, r3) := H
  have A4 := Aside0.mk A40
  clear A40
  by_cases c5 : t175 = 0
  · rw [if_pos c5] at H
    have c5b0 : (t175 == 0) = true := beq_iff_eq.mpr c5
    have c5b1 : (t175 != 0) = false := bne_eq_false_iff_eq.mpr c5
    clear c5
    replace H := Option.bind_eq_some_iff.mp H
    obtain ⟨t176, A60, H⟩ := H
    replace H : ((calamusref04_Start.f a0 t176).bind fun t177 => (if t177 = a1 then (if (wrap64 (a1 - 1)) < a2 then ((calamusref25_without.f a0 a2 a1).bind fun bt178 => (some (bt178.1, bt178.2.1, bt178.2.2))) else ((calamusref25_without.f a0 (wrap64 (a1 - 1)) a1).bind fun bt181 => (some (bt181.1, bt181.2.1, bt181.2.2)))) else (if t177 < a2 then ((calamusref25_without.f a0 a2 a1).bind fun bt184 => (some (bt184.1, bt184.2.1, bt184.2.2))) else ((calamusref25_without.f a0 t177 a1).bind fun bt187 => (some (bt187.1, bt187.2.1, bt187.2.2)))))) = some (r1, r2, r3) := H
    have A6 := Aside0.mk A60
    clear A60
    replace H := Option.bind_eq_some_iff.mp H
    obtain ⟨t177, A70, H⟩ := H
    replace H : (if t177 = a1 then (if (wrap64 (a1 - 1)) < a2 then ((calamusref25_without.f a0 a2 a1).bind fun bt178 => (some (bt178.1, bt178.2.1, bt178.2.2))) else ((calamusref25_without.f a0 (wrap64 (a1 - 1)) a1).bind fun bt181 => (some (bt181.1, bt181.2.1, bt181.2.2)))) else (if t177 < a2 then ((calamusref25_without.f a0 a2 a1).bind fun bt184 => (some (bt184.1, bt184.2.1, bt184.2.2))) else ((calamusref25_without.f a0 t177 a1).bind fun bt187 => (some (bt187.1, bt187.2.1, bt187.2.2))))) = some (r1, r2, r3) := H
    have A7 := Aside0.mk A70
    clear A70
    by_cases c8 : t177 = a1
    · rw [if_pos c8] at H
      have c8b0 : (t177 == a1) = true := beq_iff_eq.mpr c8
      have c8b1 : (t177 != a1) = false := bne_eq_false_iff_eq.mpr c8
      clear c8
      by_cases c9 : (wrap64 (a1 - 1)) < a2
      · rw [if_pos c9] at H
        have c9b0 : decide ((wrap64 (a1 - 1)) < a2) = true := decide_eq_true c9
        clear c9
        replace H := Option.bind_eq_some_iff.mp H
        obtain ⟨⟨t178, t179, t180⟩, A100, H⟩ := H
        replace H : (some (t178, t179, t180)) = some (r1, r2, r3) := H
        have A10 := Aside0.mk A100
        clear A100
        simp only [Option.some.injEq, Prod.mk.injEq] at H
        obtain ⟨rfl, rfl, rfl⟩ := H
        go_enter Try.func42, Try.ntmps42
        go_wp2_with (first | ((with_reducible refine gate_callee (f := 79) rfl ?_); refine goesL_ (some 14) rfl rfl Try.func79 (by kernel_rfl) rfl #[.string a0, .int .i64 a1, .int .i64 a2] rfl (by (try simp only [List.map_toArray, List.map_cons, List.map_nil]); first | done | rfl | (simp only [List.length_drop, List.length_take]; rfl)) ?_; (with_reducible refine (calamusref25_wrong.calls k a0 a1 a2 t175 _ A4.out).mono ?_); rintro e w11 ⟨rfl, hb⟩; refine ⟨_, rfl, ?_⟩; have n0_ := Aside0.mk (below_step (by repeat (first | (with_reducible first | exact HB.out | apply below_alloc | apply pw_below_drewN | apply below_drew1) | exact HB.out)) hb); clear HB; have HB := n0_; clear n0_; (try clear hb); (try clear hb2); (try clear hk); (try clear hi)) | ((with_reducible refine gate_callee (f := 64) rfl ?_); refine goesL_ (some 21) rfl rfl Try.func64 (by kernel_rfl) rfl #[.string a0, .int .i64 a1] rfl (by (try simp only [List.map_toArray, List.map_cons, List.map_nil]); first | done | rfl | (simp only [List.length_drop, List.length_take]; rfl)) ?_; (with_reducible refine (calamusref04_Of.calls a0 a1 t176 _ A6.out).mono ?_); rintro e w12 ⟨rfl, hb⟩; refine ⟨_, rfl, ?_⟩; have n0_ := Aside0.mk (below_step (by repeat (first | (with_reducible first | exact HB.out | apply below_alloc | apply pw_below_drewN | apply below_drew1) | exact HB.out)) hb); clear HB; have HB := n0_; clear n0_; (try clear hb); (try clear hb2); (try clear hk); (try clear hi)) | ((with_reducible refine gate_callee (f := 63) rfl ?_); refine goesL_ (some 22) rfl rfl Try.func63 (by kernel_rfl) rfl #[.string a0, .int .i64 t176] rfl (by (try simp only [List.map_toArray, List.map_cons, List.map_nil]); first | done | rfl | (simp only [List.length_drop, List.length_take]; rfl)) ?_; (with_reducible refine (calamusref04_Start.calls a0 t176 t177 _ A7.out).mono ?_); rintro e w13 ⟨rfl, hb⟩; refine ⟨_, rfl, ?_⟩; have n0_ := Aside0.mk (below_step (by repeat (first | (with_reducible first | exact HB.out | apply below_alloc | apply pw_below_drewN | apply below_drew1) | exact HB.out)) hb); clear HB; have HB := n0_; clear n0_; (try clear hb); (try clear hb2); (try clear hk); (try clear hi)) | ((with_reducible refine gate_callee (f := 80) rfl ?_); refine goesL_ (some 35) rfl rfl Try.func80 (by kernel_rfl) rfl #[.string a0, .int .i64 a2, .int .i64 a1] rfl (by (try simp only [List.map_toArray, List.map_cons, List.map_nil]); first | done | rfl | (simp only [List.length_drop, List.length_take]; rfl)) ?_; (with_reducible refine (calamusref25_without.calls a0 a2 a1 t178 t179 t180 _ A10.out).mono ?_); rintro e w' ⟨rfl, ⟨nd, rfl⟩⟩; refine ⟨_, rfl, ?_⟩))
        go_ret3
        exact ⟨by first | rfl | (simp [errW_none, errW_some] <;> rfl) | (simp [*, errW_none, errW_some] <;> rfl), by repeat (first | (with_reducible first | exact HB.out | apply below_alloc | apply pw_below_drewN | apply below_drew1) | exact HB.out)⟩
      · rw [if_neg c9] at H
        have c9b0 : decide ((wrap64 (a1 - 1)) < a2) = false := decide_eq_false c9
        clear c9
        replace H := Option.bind_eq_some_iff.mp H
        obtain ⟨⟨t181, t182, t183⟩, A140, H⟩ := H
        replace H : (some (t181, t182, t183)) = some (r1, r2, r3) := H
        have A14 := Aside0.mk A140
        clear A140
        simp only [Option.some.injEq, Prod.mk.injEq] at H
        obtain ⟨rfl, rfl, rfl⟩ := H
        go_enter Try.func42, Try.ntmps42
        go_wp2_with (first | ((with_reducible refine gate_callee (f := 79) rfl ?_); refine goesL_ (some 14) rfl rfl Try.func79 (by kernel_rfl) rfl #[.string a0, .int .i64 a1, .int .i64 a2] rfl (by (try simp only [List.map_toArray, List.map_cons, List.map_nil]); first | done | rfl | (simp only [List.length_drop, List.length_take]; rfl)) ?_; (with_reducible refine (calamusref25_wrong.calls k a0 a1 a2 t175 _ A4.out).mono ?_); rintro e w15 ⟨rfl, hb⟩; refine ⟨_, rfl, ?_⟩; have n0_ := Aside0.mk (below_step (by repeat (first | (with_reducible first | exact HB.out | apply below_alloc | apply pw_below_drewN | apply below_drew1) | exact HB.out)) hb); clear HB; have HB := n0_; clear n0_; (try clear hb); (try clear hb2); (try clear hk); (try clear hi)) | ((with_reducible refine gate_callee (f := 64) rfl ?_); refine goesL_ (some 21) rfl rfl Try.func64 (by kernel_rfl) rfl #[.string a0, .int .i64 a1] rfl (by (try simp only [List.map_toArray, List.map_cons, List.map_nil]); first | done | rfl | (simp only [List.length_drop, List.length_take]; rfl)) ?_; (with_reducible refine (calamusref04_Of.calls a0 a1 t176 _ A6.out).mono ?_); rintro e w16 ⟨rfl, hb⟩; refine ⟨_, rfl, ?_⟩; have n0_ := Aside0.mk (below_step (by repeat (first | (with_reducible first | exact HB.out | apply below_alloc | apply pw_below_drewN | apply below_drew1) | exact HB.out)) hb); clear HB; have HB := n0_; clear n0_; (try clear hb); (try clear hb2); (try clear hk); (try clear hi)) | ((with_reducible refine gate_callee (f := 63) rfl ?_); refine goesL_ (some 22) rfl rfl Try.func63 (by kernel_rfl) rfl #[.string a0, .int .i64 t176] rfl (by (try simp only [List.map_toArray, List.map_cons, List.map_nil]); first | done | rfl | (simp only [List.length_drop, List.length_take]; rfl)) ?_; (with_reducible refine (calamusref04_Start.calls a0 t176 t177 _ A7.out).mono ?_); rintro e w17 ⟨rfl, hb⟩; refine ⟨_, rfl, ?_⟩; have n0_ := Aside0.mk (below_step (by repeat (first | (with_reducible first | exact HB.out | apply below_alloc | apply pw_below_drewN | apply below_drew1) | exact HB.out)) hb); clear HB; have HB := n0_; clear n0_; (try clear hb); (try clear hb2); (try clear hk); (try clear hi)) | ((with_reducible refine gate_callee (f := 80) rfl ?_); refine goesL_ (some 35) rfl rfl Try.func80 (by kernel_rfl) rfl #[.string a0, .int .i64 (wrap64 (a1 - 1)), .int .i64 a1] rfl (by (try simp only [List.map_toArray, List.map_cons, List.map_nil]); first | done | rfl | (simp only [List.length_drop, List.length_take]; rfl)) ?_; (with_reducible refine (calamusref25_without.calls a0 (wrap64 (a1 - 1)) a1 t181 t182 t183 _ A14.out).mono ?_); rintro e w' ⟨rfl, ⟨nd, rfl⟩⟩; refine ⟨_, rfl, ?_⟩))
        go_ret3
        exact ⟨by first | rfl | (simp [errW_none, errW_some] <;> rfl) | (simp [*, errW_none, errW_some] <;> rfl), by repeat (first | (with_reducible first | exact HB.out | apply below_alloc | apply pw_below_drewN | apply below_drew1) | exact HB.out)⟩
    · rw [if_neg c8] at H
      have c8b0 : (t177 == a1) = false := beq_eq_false_iff_ne.mpr c8
      have c8b1 : (t177 != a1) = true := bne_iff_ne.mpr c8
      by_cases c18 : t177 < a2
      · rw [if_pos c18] at H
        have c18b0 : decide (t177 < a2) = true := decide_eq_true c18
        clear c18
        replace H := Option.bind_eq_some_iff.mp H
        obtain ⟨⟨t184, t185, t186⟩, A190, H⟩ := H
        replace H : (some (t184, t185, t186)) = some (r1, r2, r3) := H
        have A19 := Aside0.mk A190
        clear A190
        simp only [Option.some.injEq, Prod.mk.injEq] at H
        obtain ⟨rfl, rfl, rfl⟩ := H
        go_enter Try.func42, Try.ntmps42
        go_wp2_with (first | ((with_reducible refine gate_callee (f := 79) rfl ?_); refine goesL_ (some 14) rfl rfl Try.func79 (by kernel_rfl) rfl #[.string a0, .int .i64 a1, .int .i64 a2] rfl (by (try simp only [List.map_toArray, List.map_cons, List.map_nil]); first | done | rfl | (simp only [List.length_drop, List.length_take]; rfl)) ?_; (with_reducible refine (calamusref25_wrong.calls k a0 a1 a2 t175 _ A4.out).mono ?_); rintro e w20 ⟨rfl, hb⟩; refine ⟨_, rfl, ?_⟩; have n0_ := Aside0.mk (below_step (by repeat (first | (with_reducible first | exact HB.out | apply below_alloc | apply pw_below_drewN | apply below_drew1) | exact HB.out)) hb); clear HB; have HB := n0_; clear n0_; (try clear hb); (try clear hb2); (try clear hk); (try clear hi)) | ((with_reducible refine gate_callee (f := 64) rfl ?_); refine goesL_ (some 21) rfl rfl Try.func64 (by kernel_rfl) rfl #[.string a0, .int .i64 a1] rfl (by (try simp only [List.map_toArray, List.map_cons, List.map_nil]); first | done | rfl | (simp only [List.length_drop, List.length_take]; rfl)) ?_; (with_reducible refine (calamusref04_Of.calls a0 a1 t176 _ A6.out).mono ?_); rintro e w21 ⟨rfl, hb⟩; refine ⟨_, rfl, ?_⟩; have n0_ := Aside0.mk (below_step (by repeat (first | (with_reducible first | exact HB.out | apply below_alloc | apply pw_below_drewN | apply below_drew1) | exact HB.out)) hb); clear HB; have HB := n0_; clear n0_; (try clear hb); (try clear hb2); (try clear hk); (try clear hi)) | ((with_reducible refine gate_callee (f := 63) rfl ?_); refine goesL_ (some 22) rfl rfl Try.func63 (by kernel_rfl) rfl #[.string a0, .int .i64 t176] rfl (by (try simp only [List.map_toArray, List.map_cons, List.map_nil]); first | done | rfl | (simp only [List.length_drop, List.length_take]; rfl)) ?_; (with_reducible refine (calamusref04_Start.calls a0 t176 t177 _ A7.out).mono ?_); rintro e w22 ⟨rfl, hb⟩; refine ⟨_, rfl, ?_⟩; have n0_ := Aside0.mk (below_step (by repeat (first | (with_reducible first | exact HB.out | apply below_alloc | apply pw_below_drewN | apply below_drew1) | exact HB.out)) hb); clear HB; have HB := n0_; clear n0_; (try clear hb); (try clear hb2); (try clear hk); (try clear hi)) | ((with_reducible refine gate_callee (f := 80) rfl ?_); refine goesL_ (some 35) rfl rfl Try.func80 (by kernel_rfl) rfl #[.string a0, .int .i64 a2, .int .i64 a1] rfl (by (try simp only [List.map_toArray, List.map_cons, List.map_nil]); first | done | rfl | (simp only [List.length_drop, List.length_take]; rfl)) ?_; (with_reducible refine (calamusref25_without.calls a0 a2 a1 t184 t185 t186 _ A19.out).mono ?_); rintro e w' ⟨rfl, ⟨nd, rfl⟩⟩; refine ⟨_, rfl, ?_⟩))
        go_ret3
        exact ⟨by first | rfl | (simp [errW_none, errW_some] <;> rfl) | (simp [*, errW_none, errW_some] <;> rfl), by repeat (first | (with_reducible first | exact HB.out | apply below_alloc | apply pw_below_drewN | apply below_drew1) | exact HB.out)⟩
      · rw [if_neg c18] at H
        have c18b0 : decide (t177 < a2) = false := decide_eq_false c18
        clear c18
        replace H := Option.bind_eq_some_iff.mp H
        obtain ⟨⟨t187, t188, t189⟩, A230, H⟩ := H
        replace H : (some (t187, t188, t189)) = some (r1, r2, r3) := H
        have A23 := Aside0.mk A230
        clear A230
        simp only [Option.some.injEq, Prod.mk.injEq] at H
        obtain ⟨rfl, rfl, rfl⟩ := H
        go_enter Try.func42, Try.ntmps42
        go_wp2_with (first | ((with_reducible refine gate_callee (f := 79) rfl ?_); refine goesL_ (some 14) rfl rfl Try.func79 (by kernel_rfl) rfl #[.string a0, .int .i64 a1, .int .i64 a2] rfl (by (try simp only [List.map_toArray, List.map_cons, List.map_nil]); first | done | rfl | (simp only [List.length_drop, List.length_take]; rfl)) ?_; (with_reducible refine (calamusref25_wrong.calls k a0 a1 a2 t175 _ A4.out).mono ?_); rintro e w24 ⟨rfl, hb⟩; refine ⟨_, rfl, ?_⟩; have n0_ := Aside0.mk (below_step (by repeat (first | (with_reducible first | exact HB.out | apply below_alloc | apply pw_below_drewN | apply below_drew1) | exact HB.out)) hb); clear HB; have HB := n0_; clear n0_; (try clear hb); (try clear hb2); (try clear hk); (try clear hi)) | ((with_reducible refine gate_callee (f := 64) rfl ?_); refine goesL_ (some 21) rfl rfl Try.func64 (by kernel_rfl) rfl #[.string a0, .int .i64 a1] rfl (by (try simp only [List.map_toArray, List.map_cons, List.map_nil]); first | done | rfl | (simp only [List.length_drop, List.length_take]; rfl)) ?_; (with_reducible refine (calamusref04_Of.calls a0 a1 t176 _ A6.out).mono ?_); rintro e w25 ⟨rfl, hb⟩; refine ⟨_, rfl, ?_⟩; have n0_ := Aside0.mk (below_step (by repeat (first | (with_reducible first | exact HB.out | apply below_alloc | apply pw_below_drewN | apply below_drew1) | exact HB.out)) hb); clear HB; have HB := n0_; clear n0_; (try clear hb); (try clear hb2); (try clear hk); (try clear hi)) | ((with_reducible refine gate_callee (f := 63) rfl ?_); refine goesL_ (some 22) rfl rfl Try.func63 (by kernel_rfl) rfl #[.string a0, .int .i64 t176] rfl (by (try simp only [List.map_toArray, List.map_cons, List.map_nil]); first | done | rfl | (simp only [List.length_drop, List.length_take]; rfl)) ?_; (with_reducible refine (calamusref04_Start.calls a0 t176 t177 _ A7.out).mono ?_); rintro e w26 ⟨rfl, hb⟩; refine ⟨_, rfl, ?_⟩; have n0_ := Aside0.mk (below_step (by repeat (first | (with_reducible first | exact HB.out | apply below_alloc | apply pw_below_drewN | apply below_drew1) | exact HB.out)) hb); clear HB; have HB := n0_; clear n0_; (try clear hb); (try clear hb2); (try clear hk); (try clear hi)) | ((with_reducible refine gate_callee (f := 80) rfl ?_); refine goesL_ (some 35) rfl rfl Try.func80 (by kernel_rfl) rfl #[.string a0, .int .i64 t177, .int .i64 a1] rfl (by (try simp only [List.map_toArray, List.map_cons, List.map_nil]); first | done | rfl | (simp only [List.length_drop, List.length_take]; rfl)) ?_; (with_reducible refine (calamusref25_without.calls a0 t177 a1 t187 t188 t189 _ A23.out).mono ?_); rintro e w' ⟨rfl, ⟨nd, rfl⟩⟩; refine ⟨_, rfl, ?_⟩))
        go_ret3
        exact ⟨by first | rfl | (simp [errW_none, errW_some] <;> rfl) | (simp [*, errW_none, errW_some] <;> rfl), by repeat (first | (with_reducible first | exact HB.out | apply below_alloc | apply pw_below_drewN | apply below_drew1) | exact HB.out)⟩
  · rw [if_neg c5] at H
    have c5b0 : (t175 == 0) = false := beq_eq_false_iff_ne.mpr c5
    have c5b1 : (t175 != 0) = true := bne_iff_ne.mpr c5
    simp only [Option.some.injEq, Prod.mk.injEq] at H
    obtain ⟨rfl, rfl, rfl⟩ := H
    go_enter Try.func42, Try.ntmps42
    go_wp2_with (first | ((with_reducible refine gate_callee (f := 79) rfl ?_); refine goesL_ (some 14) rfl rfl Try.func79 (by kernel_rfl) rfl #[.string a0, .int .i64 a1, .int .i64 a2] rfl (by (try simp only [List.map_toArray, List.map_cons, List.map_nil]); first | done | rfl | (simp only [List.length_drop, List.length_take]; rfl)) ?_; (with_reducible refine (calamusref25_wrong.calls k a0 a1 a2 t175 _ A4.out).mono ?_); rintro e w27 ⟨rfl, hb⟩; refine ⟨_, rfl, ?_⟩; have n0_ := Aside0.mk (below_step (by repeat (first | (with_reducible first | exact HB.out | apply below_alloc | apply pw_below_drewN | apply below_drew1) | exact HB.out)) hb); clear HB; have HB := n0_; clear n0_; (try clear hb); (try clear hb2); (try clear hk); (try clear hi)))
    go_ret3
    exact ⟨by first | rfl | (simp [errW_none, errW_some] <;> rfl) | (simp [*, errW_none, errW_some] <;> rfl), by repeat (first | (with_reducible first | exact HB.out | apply below_alloc | apply pw_below_drewN | apply below_drew1) | exact HB.out)⟩


/-! ### entry_fed -/
def entry_fed.f (a0 : ByteArray) (a1 : Int) : Option (Bool) := if a1 > 0 then (if 0 ≤ (wrap64 (a1 - 1)) then (if (wrap64 (a1 - 1)) < (a0.size : Int) then (some ((bt a0 (wrap64 (a1 - 1))) == 10)) else (none)) else (none)) else (some false)
set_option maxHeartbeats 8000000 in
set_option maxRecDepth 100000 in
theorem entry_fed.calls (a0 : ByteArray) (a1 : Int) (r : Bool) (w : World) (h : entry_fed.f a0 a1 = some r) :
    Calls Try.prog 83 #[.string a0, .int .i64 a1] w fun e w' => e = .returned (.bool r) ∧ Drawn0 w w' := by
  have H : (if a1 > 0 then (if 0 ≤ (wrap64 (a1 - 1)) then (if (wrap64 (a1 - 1)) < (a0.size : Int) then (some ((bt a0 (wrap64 (a1 - 1))) == 10)) else (none)) else (none)) else (some false)) = some r := h
  clear h
  by_cases c3 : a1 > 0
  · rw [if_pos c3] at H
    have c3b0 : decide (0 < a1) = true := decide_eq_true c3
    clear c3
    obtain ⟨ji4, hji4⟩ : ∃ j_ : Int, (wrap64 (a1 - 1)) = j_ := ⟨_, rfl⟩
    replace H : (if 0 ≤ (ji4) then (if (ji4) < (a0.size : Int) then (some ((bt a0 (ji4)) == 10)) else (none)) else (none)) = some r := by first | (rw [hji4] at H; exact H) | (simp only [hji4] at H ⊢; exact H)
    have hji4w : (IntKind.i64.wrap (a1 - 1)) = ji4 := (i64_w _).trans hji4
    by_cases c5 : 0 ≤ (ji4)
    · rw [if_pos c5] at H
      have c5b0 : decide (0 ≤ (ji4)) = true := decide_eq_true c5
      clear c5
      by_cases c6 : (ji4) < (a0.size : Int)
      · rw [if_pos c6] at H
        have c6b0 : decide ((ji4) < (a0.size : Int)) = true := decide_eq_true c6
        clear c6
        obtain rfl := Option.some.inj H
        have p7 : 0 ≤ ((ji4) : Int) := of_decide_eq_true (by first | (with_reducible assumption) | assumption)
        have q7 : (ji4) < (a0.size : Int) := of_decide_eq_true (by first | (with_reducible assumption) | assumption)
        have hx7 := bt_at a0 (ji4)
        replace p7 := eq_true p7
        replace q7 := eq_true q7
        go_enter Try.func83, Try.ntmps83
        go_wp2
        go_ret
        exact ⟨by first | rfl | (simp; done) | (simp only [← hji4] <;> (first | rfl | simp)) | (simp [*]; done), by repeat (first | exact Drawn0.refl _ | apply Drawn0.step)⟩
      · rw [if_neg c6] at H
        exact absurd H (by simp)
    · rw [if_neg c5] at H
      exact absurd H (by simp)
  · rw [if_neg c3] at H
    have c3b0 : decide (0 < a1) = false := decide_eq_false c3
    clear c3
    obtain rfl := Option.some.inj H
    go_enter Try.func83, Try.ntmps83
    go_wp2
    go_ret
    exact ⟨by first | rfl | (simp; done) | (simp [*]; done), by repeat (first | exact Drawn0.refl _ | apply Drawn0.step)⟩


/-! ### entry_Leave -/
def entry_Leave.j0 : Nat → ByteArray → Int → Bool → Option (Int)
  | 0, _, _, _ => none
  | k + 1, x0, x1, x16 => if x16 = true then ((utf_Prev.f x0 x1).bind fun t192 => ((line_Clamp.f x0 t192).bind fun t193 => (some t193))) else ((line_Clamp.f x0 x1).bind fun t194 => (some t194))
def entry_Leave.f (k : Nat) (a0 : ByteArray) (a1 : Int) : Option (Int) := (utf_Place.f a0 a1).bind fun t190 => (if t190 = true then (if a1 > 0 then ((entry_fed.f a0 a1).bind fun t191 => (entry_Leave.j0 k a0 a1 (!t191))) else (entry_Leave.j0 k a0 a1 false)) else (some 0))
theorem entry_Leave.mono_l : ∀ k, (∀ y0 y1 y2, LeO (entry_Leave.j0 k y0 y1 y2) (entry_Leave.j0 (k + 1) y0 y1 y2))
  | 0 => fun _ _ _ r h => by simp [entry_Leave.j0] at h
  | k + 1 => by
    have ih0 := entry_Leave.mono_l k
    · intro y0 y1 y2
      unfold entry_Leave.j0
      repeat' first
      | (with_reducible exact ih0 _ _ _)
      | (with_reducible exact LeO.refl _)
      | (with_reducible exact LeO.none _)
      | (with_reducible refine LeO.ite ?_ ?_)
      | (with_reducible refine LeO.bind ?_ (fun _ => ?_))
      | exact ih0 _ _ _
      | exact LeO.none _
      | refine LeO.ite ?_ ?_
      | refine LeO.bind ?_ (fun _ => ?_)
theorem entry_Leave.mono : ∀ a0 a1 k, LeO (entry_Leave.f k a0 a1) (entry_Leave.f (k + 1) a0 a1) := by
  intro a0 a1 k
  have ih0 := entry_Leave.mono_l k
  unfold entry_Leave.f
  repeat' first
      | (with_reducible exact ih0 _ _ _)
      | (with_reducible exact LeO.refl _)
      | (with_reducible exact LeO.none _)
      | (with_reducible refine LeO.ite ?_ ?_)
      | (with_reducible refine LeO.bind ?_ (fun _ => ?_))
      | exact ih0 _ _ _
      | exact LeO.none _
      | refine LeO.ite ?_ ?_
      | refine LeO.bind ?_ (fun _ => ?_)
set_option maxHeartbeats 8000000 in
set_option maxRecDepth 100000 in
theorem entry_Leave.calls (k : Nat) (a0 : ByteArray) (a1 : Int) (r : Int) (w : World) (h : entry_Leave.f k a0 a1 = some r) :
    Calls Try.prog 43 #[.string a0, .int .i64 a1] w fun e w' => e = .returned (.int .i64 r) ∧ Below w.heap.size w w' := by
  have HB := Aside0.mk (Below.refl w.heap.size w)
  have H : ((utf_Place.f a0 a1).bind fun t190 => (if t190 = true then (if a1 > 0 then ((entry_fed.f a0 a1).bind fun t191 => (entry_Leave.j0 k a0 a1 (!t191))) else (entry_Leave.j0 k a0 a1 false)) else (some 0))) = some r := h
  clear h
  replace H := Option.bind_eq_some_iff.mp H
  obtain ⟨t190, A30, H⟩ := H
  replace H : (if t190 = true then (if a1 > 0 then ((entry_fed.f a0 a1).bind fun t191 => (entry_Leave.j0 k a0 a1 (!t191))) else (entry_Leave.j0 k a0 a1 false)) else (some 0)) = some r := H
  have A3 := Aside0.mk A30
  clear A30
  by_cases c4 : t190 = true
  · subst c4
    have H1 : (if a1 > 0 then ((entry_fed.f a0 a1).bind fun t191 => (entry_Leave.j0 k a0 a1 (!t191))) else (entry_Leave.j0 k a0 a1 false)) = some r := by rw [if_pos rfl] at H; exact H
    clear H
    have H := H1
    clear H1
    have HC5 := Aside0.mk H
    clear H
    go_enter Try.func43, Try.ntmps43
    go_upto_region 3 with (first | ((with_reducible refine gate_callee (f := 45) rfl ?_); refine goesL_ (some 7) rfl rfl Try.func45 (by kernel_rfl) rfl #[.string a0, .int .i64 a1] rfl (by (try simp only [List.map_toArray, List.map_cons, List.map_nil]); first | done | rfl | (simp only [List.length_drop, List.length_take]; rfl)) ?_; (with_reducible refine (utf_Place.calls a0 a1 true _ A3.out).mono ?_); rintro e w6 ⟨rfl, hb⟩; refine ⟨_, rfl, ?_⟩; have n0_ := Aside0.mk (below_step (by repeat (first | (with_reducible first | exact HB.out | apply below_alloc | apply pw_below_drewN | apply below_drew1) | exact HB.out)) hb); clear HB; have HB := n0_; clear n0_; (try clear hb); (try clear hb2); (try clear hk); (try clear hi)))
    (try simp only [Act.put, List.setIfInBounds_toArray, List.set_cons_zero, List.set_cons_succ])
    go_cut [16] (fun v16 wc => ∃ (kq : Nat) (x16_4 : Bool), v16 = .bool x16_4 ∧ Aside0 (entry_Leave.j0 kq a0 a1 x16_4 = some r) ∧ Aside0 (kq ≤ k) ∧ Aside0 (Below w.heap.size w wc))
    case first =>
      have H := HC5.out
      clear HC5
      by_cases c7 : a1 > 0
      · rw [if_pos c7] at H
        have c7b0 : decide (0 < a1) = true := decide_eq_true c7
        clear c7
        (first | rw [c7b0] | (simp only [i64_w, i32_w]; rw [c7b0]) | skip)
        replace H := Option.bind_eq_some_iff.mp H
        obtain ⟨t191, A80, H⟩ := H
        replace H : (entry_Leave.j0 k a0 a1 (!t191)) = some r := H
        have A8 := Aside0.mk A80
        clear A80
        have H' := Aside0.mk H
        clear H
        go_wp2_with (first | (go_at_call 83; (with_reducible refine (entry_fed.calls a0 a1 t191 _ A8.out).mono ?_); rintro e w' ⟨rfl, ⟨nd, rfl⟩⟩))
        go_meet
        case rel => exact ⟨_, (!t191), (by first | rfl | (simp; done) | (simp [*]; done)), H', ⟨by first | omega | exact Nat.le_refl _⟩, ⟨by repeat (first | (with_reducible first | exact HB.out | apply below_alloc | apply pw_below_drewN | apply below_drew1) | exact HB.out)⟩⟩
      · rw [if_neg c7] at H
        have c7b0 : decide (0 < a1) = false := decide_eq_false c7
        clear c7
        (first | rw [c7b0] | (simp only [i64_w, i32_w]; rw [c7b0]) | skip)
        have H' := Aside0.mk H
        clear H
        go_wp2
        go_meet
        case rel => exact ⟨_, (false), (by first | rfl | (simp; done) | (simp [*]; done)), H', ⟨by first | omega | exact Nat.le_refl _⟩, ⟨by repeat (first | (with_reducible first | exact HB.out | apply below_alloc | apply pw_below_drewN | apply below_drew1) | exact HB.out)⟩⟩
    case rest =>
      clear HC5
      try clear p2
      try clear c4
      try clear c7
      try clear c7b0
      obtain ⟨kq, x16_4, rfl, HA, HJ4, HB⟩ := hcut
      cases kq with
      | zero => exact absurd HA.out (by simp [entry_Leave.j0])
      | succ kj4 =>
        have H := HA.out
        clear HA
        simp only [entry_Leave.j0] at H
        by_cases c9 : x16_4 = true
        · subst c9
          have H1 : ((utf_Prev.f a0 a1).bind fun t192 => ((line_Clamp.f a0 t192).bind fun t193 => (some t193))) = some r := by rw [if_pos rfl] at H; exact H
          clear H
          have H := H1
          clear H1
          replace H := Option.bind_eq_some_iff.mp H
          obtain ⟨t192, A100, H⟩ := H
          replace H : ((line_Clamp.f a0 t192).bind fun t193 => (some t193)) = some r := H
          have A10 := Aside0.mk A100
          clear A100
          replace H := Option.bind_eq_some_iff.mp H
          obtain ⟨t193, A110, H⟩ := H
          replace H : (some t193) = some r := H
          have A11 := Aside0.mk A110
          clear A110
          obtain rfl := Option.some.inj H
          go_wp2_with (first | ((with_reducible refine gate_callee (f := 55) rfl ?_); refine goesL_ (some 19) rfl rfl Try.func55 (by kernel_rfl) rfl #[.string a0, .int .i64 a1] rfl (by (try simp only [List.map_toArray, List.map_cons, List.map_nil]); first | done | rfl | (simp only [List.length_drop, List.length_take]; rfl)) ?_; (with_reducible refine (utf_Prev.calls a0 a1 t192 _ A10.out).mono ?_); rintro e w12 ⟨rfl, hb⟩; refine ⟨_, rfl, ?_⟩; have n0_ := Aside0.mk (below_step (by repeat (first | (with_reducible first | exact HB.out | apply below_alloc | apply pw_below_drewN | apply below_drew1) | exact HB.out)) hb); clear HB; have HB := n0_; clear n0_; (try clear hb); (try clear hb2); (try clear hk); (try clear hi)) | ((with_reducible refine gate_callee (f := 90) rfl ?_); refine goesL_ (some 22) rfl rfl Try.func90 (by kernel_rfl) rfl #[.string a0, .int .i64 t192] rfl (by (try simp only [List.map_toArray, List.map_cons, List.map_nil]); first | done | rfl | (simp only [List.length_drop, List.length_take]; rfl)) ?_; (with_reducible refine (line_Clamp.calls a0 t192 t193 _ A11.out).mono ?_); rintro e w13 ⟨rfl, hb⟩; refine ⟨_, rfl, ?_⟩; have n0_ := Aside0.mk (below_step (by repeat (first | (with_reducible first | exact HB.out | apply below_alloc | apply pw_below_drewN | apply below_drew1) | exact HB.out)) hb); clear HB; have HB := n0_; clear n0_; (try clear hb); (try clear hb2); (try clear hk); (try clear hi)))
          go_ret
          exact ⟨by first | rfl | (simp [errW_none, errW_some] <;> rfl) | (simp [*, errW_none, errW_some] <;> rfl), by repeat (first | (with_reducible first | exact HB.out | apply below_alloc | apply pw_below_drewN | apply below_drew1) | exact HB.out)⟩
        · replace c9 := Bool.eq_false_iff.mpr c9
          subst c9
          have H1 : ((line_Clamp.f a0 a1).bind fun t194 => (some t194)) = some r := by rw [if_neg (show ¬ (false = true) by decide)] at H; exact H
          clear H
          have H := H1
          clear H1
          replace H := Option.bind_eq_some_iff.mp H
          obtain ⟨t194, A140, H⟩ := H
          replace H : (some t194) = some r := H
          have A14 := Aside0.mk A140
          clear A140
          obtain rfl := Option.some.inj H
          go_wp2_with (first | ((with_reducible refine gate_callee (f := 90) rfl ?_); refine goesL_ (some 22) rfl rfl Try.func90 (by kernel_rfl) rfl #[.string a0, .int .i64 a1] rfl (by (try simp only [List.map_toArray, List.map_cons, List.map_nil]); first | done | rfl | (simp only [List.length_drop, List.length_take]; rfl)) ?_; (with_reducible refine (line_Clamp.calls a0 a1 t194 _ A14.out).mono ?_); rintro e w15 ⟨rfl, hb⟩; refine ⟨_, rfl, ?_⟩; have n0_ := Aside0.mk (below_step (by repeat (first | (with_reducible first | exact HB.out | apply below_alloc | apply pw_below_drewN | apply below_drew1) | exact HB.out)) hb); clear HB; have HB := n0_; clear n0_; (try clear hb); (try clear hb2); (try clear hk); (try clear hi)))
          go_ret
          exact ⟨by first | rfl | (simp [errW_none, errW_some] <;> rfl) | (simp [*, errW_none, errW_some] <;> rfl), by repeat (first | (with_reducible first | exact HB.out | apply below_alloc | apply pw_below_drewN | apply below_drew1) | exact HB.out)⟩
  · replace c4 := Bool.eq_false_iff.mpr c4
    subst c4
    have H1 : (some 0) = some r := by rw [if_neg (show ¬ (false = true) by decide)] at H; exact H
    clear H
    have H := H1
    clear H1
    obtain rfl := Option.some.inj H
    go_enter Try.func43, Try.ntmps43
    go_wp2_with (first | ((with_reducible refine gate_callee (f := 45) rfl ?_); refine goesL_ (some 7) rfl rfl Try.func45 (by kernel_rfl) rfl #[.string a0, .int .i64 a1] rfl (by (try simp only [List.map_toArray, List.map_cons, List.map_nil]); first | done | rfl | (simp only [List.length_drop, List.length_take]; rfl)) ?_; (with_reducible refine (utf_Place.calls a0 a1 false _ A3.out).mono ?_); rintro e w16 ⟨rfl, hb⟩; refine ⟨_, rfl, ?_⟩; have n0_ := Aside0.mk (below_step (by repeat (first | (with_reducible first | exact HB.out | apply below_alloc | apply pw_below_drewN | apply below_drew1) | exact HB.out)) hb); clear HB; have HB := n0_; clear n0_; (try clear hb); (try clear hb2); (try clear hk); (try clear hi)))
    go_ret
    exact ⟨by first | rfl | (simp [errW_none, errW_some] <;> rfl) | (simp [*, errW_none, errW_some] <;> rfl), by repeat (first | (with_reducible first | exact HB.out | apply below_alloc | apply pw_below_drewN | apply below_drew1) | exact HB.out)⟩



/-! ### calamusref04_Normal -/
def calamusref04_Normal.f (a0 : ByteArray) (a1 : Int) : Option (Bool) := (calamusref03_Place.f a0 a1).bind fun t195 => (if t195 = true then ((calamusref04_Of.f a0 a1).bind fun t196 => ((calamusref04_End.f a0 t196).bind fun t197 => (if a1 < t197 then (some true) else ((calamusref04_Start.f a0 t196).bind fun t198 => (some (t198 == a1)))))) else (some false))
set_option maxHeartbeats 8000000 in
set_option maxRecDepth 100000 in
theorem calamusref04_Normal.calls (a0 : ByteArray) (a1 : Int) (r : Bool) (w : World) (h : calamusref04_Normal.f a0 a1 = some r) :
    Calls Try.prog 120 #[.string a0, .int .i64 a1] w fun e w' => e = .returned (.bool r) ∧ Below w.heap.size w w' := by
  have HB := Aside0.mk (Below.refl w.heap.size w)
  have H : ((calamusref03_Place.f a0 a1).bind fun t195 => (if t195 = true then ((calamusref04_Of.f a0 a1).bind fun t196 => ((calamusref04_End.f a0 t196).bind fun t197 => (if a1 < t197 then (some true) else ((calamusref04_Start.f a0 t196).bind fun t198 => (some (t198 == a1)))))) else (some false))) = some r := h
  clear h
  replace H := Option.bind_eq_some_iff.mp H
  obtain ⟨t195, A30, H⟩ := H
  replace H : (if t195 = true then ((calamusref04_Of.f a0 a1).bind fun t196 => ((calamusref04_End.f a0 t196).bind fun t197 => (if a1 < t197 then (some true) else ((calamusref04_Start.f a0 t196).bind fun t198 => (some (t198 == a1)))))) else (some false)) = some r := H
  have A3 := Aside0.mk A30
  clear A30
  by_cases c4 : t195 = true
  · subst c4
    have H1 : ((calamusref04_Of.f a0 a1).bind fun t196 => ((calamusref04_End.f a0 t196).bind fun t197 => (if a1 < t197 then (some true) else ((calamusref04_Start.f a0 t196).bind fun t198 => (some (t198 == a1)))))) = some r := by rw [if_pos rfl] at H; exact H
    clear H
    have H := H1
    clear H1
    replace H := Option.bind_eq_some_iff.mp H
    obtain ⟨t196, A50, H⟩ := H
    replace H : ((calamusref04_End.f a0 t196).bind fun t197 => (if a1 < t197 then (some true) else ((calamusref04_Start.f a0 t196).bind fun t198 => (some (t198 == a1))))) = some r := H
    have A5 := Aside0.mk A50
    clear A50
    replace H := Option.bind_eq_some_iff.mp H
    obtain ⟨t197, A60, H⟩ := H
    replace H : (if a1 < t197 then (some true) else ((calamusref04_Start.f a0 t196).bind fun t198 => (some (t198 == a1)))) = some r := H
    have A6 := Aside0.mk A60
    clear A60
    by_cases c7 : a1 < t197
    · rw [if_pos c7] at H
      have c7b0 : decide (a1 < t197) = true := decide_eq_true c7
      clear c7
      obtain rfl := Option.some.inj H
      go_enter Try.func120, Try.ntmps120
      go_wp2_with (first | ((with_reducible refine gate_callee (f := 62) rfl ?_); refine goesL_ (some 8) rfl rfl Try.func62 (by kernel_rfl) rfl #[.string a0, .int .i64 a1] rfl (by (try simp only [List.map_toArray, List.map_cons, List.map_nil]); first | done | rfl | (simp only [List.length_drop, List.length_take]; rfl)) ?_; (with_reducible refine (calamusref03_Place.calls a0 a1 true _ A3.out).mono ?_); rintro e w8 ⟨rfl, hb⟩; refine ⟨_, rfl, ?_⟩; have n0_ := Aside0.mk (below_step (by repeat (first | (with_reducible first | exact HB.out | apply below_alloc | apply pw_below_drewN | apply below_drew1) | exact HB.out)) hb); clear HB; have HB := n0_; clear n0_; (try clear hb); (try clear hb2); (try clear hk); (try clear hi)) | ((with_reducible refine gate_callee (f := 64) rfl ?_); refine goesL_ (some 12) rfl rfl Try.func64 (by kernel_rfl) rfl #[.string a0, .int .i64 a1] rfl (by (try simp only [List.map_toArray, List.map_cons, List.map_nil]); first | done | rfl | (simp only [List.length_drop, List.length_take]; rfl)) ?_; (with_reducible refine (calamusref04_Of.calls a0 a1 t196 _ A5.out).mono ?_); rintro e w9 ⟨rfl, hb⟩; refine ⟨_, rfl, ?_⟩; have n0_ := Aside0.mk (below_step (by repeat (first | (with_reducible first | exact HB.out | apply below_alloc | apply pw_below_drewN | apply below_drew1) | exact HB.out)) hb); clear HB; have HB := n0_; clear n0_; (try clear hb); (try clear hb2); (try clear hk); (try clear hi)) | ((with_reducible refine gate_callee (f := 65) rfl ?_); refine goesL_ (some 16) rfl rfl Try.func65 (by kernel_rfl) rfl #[.string a0, .int .i64 t196] rfl (by (try simp only [List.map_toArray, List.map_cons, List.map_nil]); first | done | rfl | (simp only [List.length_drop, List.length_take]; rfl)) ?_; (with_reducible refine (calamusref04_End.calls a0 t196 t197 _ A6.out).mono ?_); rintro e w10 ⟨rfl, hb⟩; refine ⟨_, rfl, ?_⟩; have n0_ := Aside0.mk (below_step (by repeat (first | (with_reducible first | exact HB.out | apply below_alloc | apply pw_below_drewN | apply below_drew1) | exact HB.out)) hb); clear HB; have HB := n0_; clear n0_; (try clear hb); (try clear hb2); (try clear hk); (try clear hi)))
      go_ret
      exact ⟨by first | rfl | (simp [errW_none, errW_some] <;> rfl) | (simp [*, errW_none, errW_some] <;> rfl), by repeat (first | (with_reducible first | exact HB.out | apply below_alloc | apply pw_below_drewN | apply below_drew1) | exact HB.out)⟩
    · rw [if_neg c7] at H
      have c7b0 : decide (a1 < t197) = false := decide_eq_false c7
      clear c7
      replace H := Option.bind_eq_some_iff.mp H
      obtain ⟨t198, A110, H⟩ := H
      replace H : (some (t198 == a1)) = some r := H
      have A11 := Aside0.mk A110
      clear A110
      obtain rfl := Option.some.inj H
      go_enter Try.func120, Try.ntmps120
      go_wp2_with (first | ((with_reducible refine gate_callee (f := 62) rfl ?_); refine goesL_ (some 8) rfl rfl Try.func62 (by kernel_rfl) rfl #[.string a0, .int .i64 a1] rfl (by (try simp only [List.map_toArray, List.map_cons, List.map_nil]); first | done | rfl | (simp only [List.length_drop, List.length_take]; rfl)) ?_; (with_reducible refine (calamusref03_Place.calls a0 a1 true _ A3.out).mono ?_); rintro e w12 ⟨rfl, hb⟩; refine ⟨_, rfl, ?_⟩; have n0_ := Aside0.mk (below_step (by repeat (first | (with_reducible first | exact HB.out | apply below_alloc | apply pw_below_drewN | apply below_drew1) | exact HB.out)) hb); clear HB; have HB := n0_; clear n0_; (try clear hb); (try clear hb2); (try clear hk); (try clear hi)) | ((with_reducible refine gate_callee (f := 64) rfl ?_); refine goesL_ (some 12) rfl rfl Try.func64 (by kernel_rfl) rfl #[.string a0, .int .i64 a1] rfl (by (try simp only [List.map_toArray, List.map_cons, List.map_nil]); first | done | rfl | (simp only [List.length_drop, List.length_take]; rfl)) ?_; (with_reducible refine (calamusref04_Of.calls a0 a1 t196 _ A5.out).mono ?_); rintro e w13 ⟨rfl, hb⟩; refine ⟨_, rfl, ?_⟩; have n0_ := Aside0.mk (below_step (by repeat (first | (with_reducible first | exact HB.out | apply below_alloc | apply pw_below_drewN | apply below_drew1) | exact HB.out)) hb); clear HB; have HB := n0_; clear n0_; (try clear hb); (try clear hb2); (try clear hk); (try clear hi)) | ((with_reducible refine gate_callee (f := 65) rfl ?_); refine goesL_ (some 16) rfl rfl Try.func65 (by kernel_rfl) rfl #[.string a0, .int .i64 t196] rfl (by (try simp only [List.map_toArray, List.map_cons, List.map_nil]); first | done | rfl | (simp only [List.length_drop, List.length_take]; rfl)) ?_; (with_reducible refine (calamusref04_End.calls a0 t196 t197 _ A6.out).mono ?_); rintro e w14 ⟨rfl, hb⟩; refine ⟨_, rfl, ?_⟩; have n0_ := Aside0.mk (below_step (by repeat (first | (with_reducible first | exact HB.out | apply below_alloc | apply pw_below_drewN | apply below_drew1) | exact HB.out)) hb); clear HB; have HB := n0_; clear n0_; (try clear hb); (try clear hb2); (try clear hk); (try clear hi)) | (go_at_call 63; (with_reducible refine (calamusref04_Start.calls a0 t196 t198 _ A11.out).mono ?_); rintro e w15 ⟨rfl, hb⟩; have n0_ := Aside0.mk (below_step (by repeat (first | (with_reducible first | exact HB.out | apply below_alloc | apply pw_below_drewN | apply below_drew1) | exact HB.out)) hb); clear HB; have HB := n0_; clear n0_; (try clear hb); (try clear hb2); (try clear hk); (try clear hi)))
      go_ret
      exact ⟨by first | rfl | (simp [errW_none, errW_some] <;> rfl) | (simp [*, errW_none, errW_some] <;> rfl), by repeat (first | (with_reducible first | exact HB.out | apply below_alloc | apply pw_below_drewN | apply below_drew1) | exact HB.out)⟩
  · replace c4 := Bool.eq_false_iff.mpr c4
    subst c4
    have H1 : (some false) = some r := by rw [if_neg (show ¬ (false = true) by decide)] at H; exact H
    clear H
    have H := H1
    clear H1
    obtain rfl := Option.some.inj H
    go_enter Try.func120, Try.ntmps120
    go_wp2_with (first | ((with_reducible refine gate_callee (f := 62) rfl ?_); refine goesL_ (some 8) rfl rfl Try.func62 (by kernel_rfl) rfl #[.string a0, .int .i64 a1] rfl (by (try simp only [List.map_toArray, List.map_cons, List.map_nil]); first | done | rfl | (simp only [List.length_drop, List.length_take]; rfl)) ?_; (with_reducible refine (calamusref03_Place.calls a0 a1 false _ A3.out).mono ?_); rintro e w16 ⟨rfl, hb⟩; refine ⟨_, rfl, ?_⟩; have n0_ := Aside0.mk (below_step (by repeat (first | (with_reducible first | exact HB.out | apply below_alloc | apply pw_below_drewN | apply below_drew1) | exact HB.out)) hb); clear HB; have HB := n0_; clear n0_; (try clear hb); (try clear hb2); (try clear hk); (try clear hi)))
    go_ret
    exact ⟨by first | rfl | (simp [errW_none, errW_some] <;> rfl) | (simp [*, errW_none, errW_some] <;> rfl), by repeat (first | (with_reducible first | exact HB.out | apply below_alloc | apply pw_below_drewN | apply below_drew1) | exact HB.out)⟩

/-! ### calamusref04_Clamp -/
mutual
def calamusref04_Clamp.j0 : Nat → ByteArray → Int → Option (Int)
  | 0, _, _ => none
  | k + 1, x0, x1 => if x1 > (x0.size : Int) then (calamusref04_Clamp.j1 k x0 (x0.size : Int)) else (calamusref04_Clamp.j1 k x0 x1)
def calamusref04_Clamp.j1 : Nat → ByteArray → Int → Option (Int)
  | 0, _, _ => none
  | k + 1, x0, x1 => calamusref04_Clamp.l0 k x0 x1
def calamusref04_Clamp.l0 : Nat → ByteArray → Int → Option (Int)
  | 0, _, _ => none
  | k + 1, x0, x1 => (calamusref03_Place.f x0 x1).bind fun t200 => (if t200 = true then ((calamusref04_Normal.f x0 x1).bind fun t201 => (if t201 = true then (some x1) else ((calamusref03_Prev.f x0 x1).bind fun t202 => (some t202)))) else (calamusref04_Clamp.l0 k x0 (wrap64 (x1 - 1))))
end
def calamusref04_Clamp.f (k : Nat) (a0 : ByteArray) (a1 : Int) : Option (Int) := (calamusref03_Valid.f a0).bind fun t199 => (if t199 = true then (if a1 < 0 then (calamusref04_Clamp.j0 k a0 0) else (calamusref04_Clamp.j0 k a0 a1)) else (some 0))
theorem calamusref04_Clamp.mono_l : ∀ k, (∀ y0 y1, LeO (calamusref04_Clamp.j0 k y0 y1) (calamusref04_Clamp.j0 (k + 1) y0 y1)) ∧ (∀ y0 y1, LeO (calamusref04_Clamp.j1 k y0 y1) (calamusref04_Clamp.j1 (k + 1) y0 y1)) ∧ (∀ y0 y1, LeO (calamusref04_Clamp.l0 k y0 y1) (calamusref04_Clamp.l0 (k + 1) y0 y1))
  | 0 => ⟨fun _ _ r h => by simp [calamusref04_Clamp.j0] at h, fun _ _ r h => by simp [calamusref04_Clamp.j1] at h, fun _ _ r h => by simp [calamusref04_Clamp.l0] at h⟩
  | k + 1 => by
    obtain ⟨ih0, ih1, ih2⟩ := calamusref04_Clamp.mono_l k
    refine ⟨?_, ?_, ?_⟩
    · intro y0 y1
      unfold calamusref04_Clamp.j0
      repeat' first
      | (with_reducible exact ih0 _ _)
      | (with_reducible exact ih1 _ _)
      | (with_reducible exact ih2 _ _)
      | (with_reducible exact LeO.refl _)
      | (with_reducible exact LeO.none _)
      | (with_reducible refine LeO.ite ?_ ?_)
      | (with_reducible refine LeO.bind ?_ (fun _ => ?_))
      | exact ih0 _ _
      | exact ih1 _ _
      | exact ih2 _ _
      | exact LeO.none _
      | refine LeO.ite ?_ ?_
      | refine LeO.bind ?_ (fun _ => ?_)
    · intro y0 y1
      unfold calamusref04_Clamp.j1
      repeat' first
      | (with_reducible exact ih0 _ _)
      | (with_reducible exact ih1 _ _)
      | (with_reducible exact ih2 _ _)
      | (with_reducible exact LeO.refl _)
      | (with_reducible exact LeO.none _)
      | (with_reducible refine LeO.ite ?_ ?_)
      | (with_reducible refine LeO.bind ?_ (fun _ => ?_))
      | exact ih0 _ _
      | exact ih1 _ _
      | exact ih2 _ _
      | exact LeO.none _
      | refine LeO.ite ?_ ?_
      | refine LeO.bind ?_ (fun _ => ?_)
    · intro y0 y1
      unfold calamusref04_Clamp.l0
      repeat' first
      | (with_reducible exact ih0 _ _)
      | (with_reducible exact ih1 _ _)
      | (with_reducible exact ih2 _ _)
      | (with_reducible exact LeO.refl _)
      | (with_reducible exact LeO.none _)
      | (with_reducible refine LeO.ite ?_ ?_)
      | (with_reducible refine LeO.bind ?_ (fun _ => ?_))
      | exact ih0 _ _
      | exact ih1 _ _
      | exact ih2 _ _
      | exact LeO.none _
      | refine LeO.ite ?_ ?_
      | refine LeO.bind ?_ (fun _ => ?_)
theorem calamusref04_Clamp.mono : ∀ a0 a1 k, LeO (calamusref04_Clamp.f k a0 a1) (calamusref04_Clamp.f (k + 1) a0 a1) := by
  intro a0 a1 k
  obtain ⟨ih0, ih1, ih2⟩ := calamusref04_Clamp.mono_l k
  unfold calamusref04_Clamp.f
  repeat' first
      | (with_reducible exact ih0 _ _)
      | (with_reducible exact ih1 _ _)
      | (with_reducible exact ih2 _ _)
      | (with_reducible exact LeO.refl _)
      | (with_reducible exact LeO.none _)
      | (with_reducible refine LeO.ite ?_ ?_)
      | (with_reducible refine LeO.bind ?_ (fun _ => ?_))
      | exact ih0 _ _
      | exact ih1 _ _
      | exact ih2 _ _
      | exact LeO.none _
      | refine LeO.ite ?_ ?_
      | refine LeO.bind ?_ (fun _ => ?_)
set_option maxHeartbeats 8000000 in
set_option maxRecDepth 100000 in
theorem calamusref04_Clamp.calls (k : Nat) (a0 : ByteArray) (a1 : Int) (r : Int) (w : World) (h : calamusref04_Clamp.f k a0 a1 = some r) :
    Calls Try.prog 92 #[.string a0, .int .i64 a1] w fun e w' => e = .returned (.int .i64 r) ∧ Below w.heap.size w w' := by
  have HB := Aside0.mk (Below.refl w.heap.size w)
  have H : ((calamusref03_Valid.f a0).bind fun t199 => (if t199 = true then (if a1 < 0 then (calamusref04_Clamp.j0 k a0 0) else (calamusref04_Clamp.j0 k a0 a1)) else (some 0))) = some r := h
  clear h
  replace H := Option.bind_eq_some_iff.mp H
  obtain ⟨t199, A30, H⟩ := H
  replace H : (if t199 = true then (if a1 < 0 then (calamusref04_Clamp.j0 k a0 0) else (calamusref04_Clamp.j0 k a0 a1)) else (some 0)) = some r := H
  have A3 := Aside0.mk A30
  clear A30
  by_cases c4 : t199 = true
  · subst c4
    have H1 : (if a1 < 0 then (calamusref04_Clamp.j0 k a0 0) else (calamusref04_Clamp.j0 k a0 a1)) = some r := by rw [if_pos rfl] at H; exact H
    clear H
    have H := H1
    clear H1
    have HC5 := Aside0.mk H
    clear H
    go_enter Try.func92, Try.ntmps92
    go_upto_if 9 with (first | ((with_reducible refine gate_callee (f := 76) rfl ?_); refine goesL_ (some 6) rfl rfl Try.func76 (by kernel_rfl) rfl #[.string a0] rfl (by (try simp only [List.map_toArray, List.map_cons, List.map_nil]); first | done | rfl | (simp only [List.length_drop, List.length_take]; rfl)) ?_; (with_reducible refine (calamusref03_Valid.calls a0 true _ A3.out).mono ?_); rintro e w6 ⟨rfl, hb⟩; refine ⟨_, rfl, ?_⟩; have n0_ := Aside0.mk (below_step (by repeat (first | (with_reducible first | exact HB.out | apply below_alloc | apply pw_below_drewN | apply below_drew1) | exact HB.out)) hb); clear HB; have HB := n0_; clear n0_; (try clear hb); (try clear hb2); (try clear hk); (try clear hi)))
    (try simp only [Act.put, List.setIfInBounds_toArray, List.set_cons_zero, List.set_cons_succ])
    go_cut [1] (fun v1 wc => ∃ (kq : Nat) (x1_4 : Int), v1 = .int .i64 x1_4 ∧ Aside0 (calamusref04_Clamp.j0 kq a0 x1_4 = some r) ∧ Aside0 (kq ≤ k) ∧ Aside0 (Below w.heap.size w wc))
    case first =>
      have H := HC5.out
      clear HC5
      by_cases c7 : a1 < 0
      · rw [if_pos c7] at H
        have c7b0 : decide (a1 < 0) = true := decide_eq_true c7
        clear c7
        (first | rw [c7b0] | (simp only [i64_w, i32_w]; rw [c7b0]) | skip)
        have H' := Aside0.mk H
        clear H
        go_wp2
        go_meet
        case rel => exact ⟨_, (0), (by first | rfl | (simp; done) | (simp [*]; done)), H', ⟨by first | omega | exact Nat.le_refl _⟩, ⟨by repeat (first | (with_reducible first | exact HB.out | apply below_alloc | apply pw_below_drewN | apply below_drew1) | exact HB.out)⟩⟩
      · rw [if_neg c7] at H
        have c7b0 : decide (a1 < 0) = false := decide_eq_false c7
        clear c7
        (first | rw [c7b0] | (simp only [i64_w, i32_w]; rw [c7b0]) | skip)
        have H' := Aside0.mk H
        clear H
        go_wp2
        go_meet
        case rel => exact ⟨_, (a1), (by first | rfl | (simp; done) | (simp [*]; done)), H', ⟨by first | omega | exact Nat.le_refl _⟩, ⟨by repeat (first | (with_reducible first | exact HB.out | apply below_alloc | apply pw_below_drewN | apply below_drew1) | exact HB.out)⟩⟩
    case rest =>
      clear HC5
      try clear p2
      try clear c4
      try clear c7
      try clear c7b0
      obtain ⟨kq, x1_4, rfl, HA, HJ4, HB⟩ := hcut
      cases kq with
      | zero => exact absurd HA.out (by simp [calamusref04_Clamp.j0])
      | succ kj4 =>
        have H := HA.out
        clear HA
        simp only [calamusref04_Clamp.j0] at H
        have HC8 := Aside0.mk H
        clear H
        go_upto_if 13 with (fail)
        go_cut [1] (fun v1 wc => ∃ (kq : Nat) (x1_7 : Int), v1 = .int .i64 x1_7 ∧ Aside0 (calamusref04_Clamp.j1 kq a0 x1_7 = some r) ∧ Aside0 (kq ≤ kj4) ∧ Aside0 (Below w.heap.size w wc))
        case first =>
          have H := HC8.out
          clear HC8
          by_cases c9 : x1_4 > (a0.size : Int)
          · rw [if_pos c9] at H
            have c9b0 : decide ((a0.size : Int) < x1_4) = true := decide_eq_true c9
            clear c9
            (first | rw [c9b0] | (simp only [i64_w, i32_w]; rw [c9b0]) | skip)
            have H' := Aside0.mk H
            clear H
            go_wp2
            go_meet
            case rel => exact ⟨_, ((a0.size : Int)), (by first | rfl | (simp; done) | (simp [*]; done)), H', ⟨by have := HJ4.out; first | omega | exact Nat.le_refl _⟩, ⟨by repeat (first | (with_reducible first | exact HB.out | apply below_alloc | apply pw_below_drewN | apply below_drew1) | exact HB.out)⟩⟩
          · rw [if_neg c9] at H
            have c9b0 : decide ((a0.size : Int) < x1_4) = false := decide_eq_false c9
            clear c9
            (first | rw [c9b0] | (simp only [i64_w, i32_w]; rw [c9b0]) | skip)
            have H' := Aside0.mk H
            clear H
            go_wp2
            go_meet
            case rel => exact ⟨_, (x1_4), (by first | rfl | (simp; done) | (simp [*]; done)), H', ⟨by have := HJ4.out; first | omega | exact Nat.le_refl _⟩, ⟨by repeat (first | (with_reducible first | exact HB.out | apply below_alloc | apply pw_below_drewN | apply below_drew1) | exact HB.out)⟩⟩
        case rest =>
          clear HC8
          try clear p2
          try clear c4
          try clear c7
          try clear c7b0
          try clear c9
          try clear c9b0
          try clear p2
          obtain ⟨kq, x1_7, rfl, HA, HJ7, HB⟩ := hcut
          cases kq with
          | zero => exact absurd HA.out (by simp [calamusref04_Clamp.j1])
          | succ kj7 =>
            have H := HA.out
            clear HA
            simp only [calamusref04_Clamp.j1] at H
            have H' := Aside0.mk H
            clear H
            go_wp2
            go_loopg [1] kj7 (fun kq v1 w' => ∃ (x1_3 : Int), v1 = .int .i64 x1_3 ∧ Aside0 (calamusref04_Clamp.l0 kq a0 x1_3 = some r) ∧ Aside0 (kq ≤ kj7) ∧ Aside0 (Below w.heap.size w w'))
            case atStart => exact ⟨(x1_7), (by first | rfl | (simp; done) | (simp [*]; done)), H', ⟨Nat.le_refl _⟩, ⟨by repeat (first | (with_reducible first | exact HB.out | apply below_alloc | apply pw_below_drewN | apply below_drew1) | exact HB.out)⟩⟩
            case round =>
              clear H'
              try clear p2
              try clear c4
              try clear c7
              try clear c7b0
              try clear c9
              try clear c9b0
              try clear p2
              obtain ⟨x1_3, rfl, HA, HK3, HB⟩ := hrel
              cases gk with
              | zero => exact absurd HA.out (by simp [calamusref04_Clamp.l0])
              | succ k3 =>
                have H := HA.out
                clear HA
                simp only [calamusref04_Clamp.l0] at H
                replace H := Option.bind_eq_some_iff.mp H
                obtain ⟨t200, A100, H⟩ := H
                replace H : (if t200 = true then ((calamusref04_Normal.f a0 x1_3).bind fun t201 => (if t201 = true then (some x1_3) else ((calamusref03_Prev.f a0 x1_3).bind fun t202 => (some t202)))) else (calamusref04_Clamp.l0 k3 a0 (wrap64 (x1_3 - 1)))) = some r := H
                have A10 := Aside0.mk A100
                clear A100
                by_cases c11 : t200 = true
                · subst c11
                  have H1 : ((calamusref04_Normal.f a0 x1_3).bind fun t201 => (if t201 = true then (some x1_3) else ((calamusref03_Prev.f a0 x1_3).bind fun t202 => (some t202)))) = some r := by rw [if_pos rfl] at H; exact H
                  clear H
                  have H := H1
                  clear H1
                  replace H := Option.bind_eq_some_iff.mp H
                  obtain ⟨t201, A120, H⟩ := H
                  replace H : (if t201 = true then (some x1_3) else ((calamusref03_Prev.f a0 x1_3).bind fun t202 => (some t202))) = some r := H
                  have A12 := Aside0.mk A120
                  clear A120
                  by_cases c13 : t201 = true
                  · subst c13
                    have H1 : (some x1_3) = some r := by rw [if_pos rfl] at H; exact H
                    clear H
                    have H := H1
                    clear H1
                    obtain rfl := Option.some.inj H
                    go_wp2_with (first | ((with_reducible refine gate_callee (f := 62) rfl ?_); refine goesL_ (some 18) rfl rfl Try.func62 (by kernel_rfl) rfl #[.string a0, .int .i64 x1_3] rfl (by (try simp only [List.map_toArray, List.map_cons, List.map_nil]); first | done | rfl | (simp only [List.length_drop, List.length_take]; rfl)) ?_; (with_reducible refine (calamusref03_Place.calls a0 x1_3 true _ A10.out).mono ?_); rintro e w14 ⟨rfl, hb⟩; refine ⟨_, rfl, ?_⟩; have n0_ := Aside0.mk (below_step (by repeat (first | (with_reducible first | exact HB.out | apply below_alloc | apply pw_below_drewN | apply below_drew1) | exact HB.out)) hb); clear HB; have HB := n0_; clear n0_; (try clear hb); (try clear hb2); (try clear hk); (try clear hi)) | ((with_reducible refine gate_callee (f := 120) rfl ?_); refine goesL_ (some 24) rfl rfl Try.func120 (by kernel_rfl) rfl #[.string a0, .int .i64 x1_3] rfl (by (try simp only [List.map_toArray, List.map_cons, List.map_nil]); first | done | rfl | (simp only [List.length_drop, List.length_take]; rfl)) ?_; (with_reducible refine (calamusref04_Normal.calls a0 x1_3 true _ A12.out).mono ?_); rintro e w15 ⟨rfl, hb⟩; refine ⟨_, rfl, ?_⟩; have n0_ := Aside0.mk (below_step (by repeat (first | (with_reducible first | exact HB.out | apply below_alloc | apply pw_below_drewN | apply below_drew1) | exact HB.out)) hb); clear HB; have HB := n0_; clear n0_; (try clear hb); (try clear hb2); (try clear hk); (try clear hi)))
                    go_ret
                    exact ⟨by first | rfl | (simp [errW_none, errW_some] <;> rfl) | (simp [*, errW_none, errW_some] <;> rfl), by repeat (first | (with_reducible first | exact HB.out | apply below_alloc | apply pw_below_drewN | apply below_drew1) | exact HB.out)⟩
                  · replace c13 := Bool.eq_false_iff.mpr c13
                    subst c13
                    have H1 : ((calamusref03_Prev.f a0 x1_3).bind fun t202 => (some t202)) = some r := by rw [if_neg (show ¬ (false = true) by decide)] at H; exact H
                    clear H
                    have H := H1
                    clear H1
                    replace H := Option.bind_eq_some_iff.mp H
                    obtain ⟨t202, A160, H⟩ := H
                    replace H : (some t202) = some r := H
                    have A16 := Aside0.mk A160
                    clear A160
                    obtain rfl := Option.some.inj H
                    go_wp2_with (first | ((with_reducible refine gate_callee (f := 62) rfl ?_); refine goesL_ (some 18) rfl rfl Try.func62 (by kernel_rfl) rfl #[.string a0, .int .i64 x1_3] rfl (by (try simp only [List.map_toArray, List.map_cons, List.map_nil]); first | done | rfl | (simp only [List.length_drop, List.length_take]; rfl)) ?_; (with_reducible refine (calamusref03_Place.calls a0 x1_3 true _ A10.out).mono ?_); rintro e w17 ⟨rfl, hb⟩; refine ⟨_, rfl, ?_⟩; have n0_ := Aside0.mk (below_step (by repeat (first | (with_reducible first | exact HB.out | apply below_alloc | apply pw_below_drewN | apply below_drew1) | exact HB.out)) hb); clear HB; have HB := n0_; clear n0_; (try clear hb); (try clear hb2); (try clear hk); (try clear hi)) | ((with_reducible refine gate_callee (f := 120) rfl ?_); refine goesL_ (some 24) rfl rfl Try.func120 (by kernel_rfl) rfl #[.string a0, .int .i64 x1_3] rfl (by (try simp only [List.map_toArray, List.map_cons, List.map_nil]); first | done | rfl | (simp only [List.length_drop, List.length_take]; rfl)) ?_; (with_reducible refine (calamusref04_Normal.calls a0 x1_3 false _ A12.out).mono ?_); rintro e w18 ⟨rfl, hb⟩; refine ⟨_, rfl, ?_⟩; have n0_ := Aside0.mk (below_step (by repeat (first | (with_reducible first | exact HB.out | apply below_alloc | apply pw_below_drewN | apply below_drew1) | exact HB.out)) hb); clear HB; have HB := n0_; clear n0_; (try clear hb); (try clear hb2); (try clear hk); (try clear hi)) | ((with_reducible refine gate_callee (f := 81) rfl ?_); refine goesL_ (some 28) rfl rfl Try.func81 (by kernel_rfl) rfl #[.string a0, .int .i64 x1_3] rfl (by (try simp only [List.map_toArray, List.map_cons, List.map_nil]); first | done | rfl | (simp only [List.length_drop, List.length_take]; rfl)) ?_; (with_reducible refine (calamusref03_Prev.calls a0 x1_3 t202 _ A16.out).mono ?_); rintro e w19 ⟨rfl, hb⟩; refine ⟨_, rfl, ?_⟩; have n0_ := Aside0.mk (below_step (by repeat (first | (with_reducible first | exact HB.out | apply below_alloc | apply pw_below_drewN | apply below_drew1) | exact HB.out)) hb); clear HB; have HB := n0_; clear n0_; (try clear hb); (try clear hb2); (try clear hk); (try clear hi)))
                    go_ret
                    exact ⟨by first | rfl | (simp [errW_none, errW_some] <;> rfl) | (simp [*, errW_none, errW_some] <;> rfl), by repeat (first | (with_reducible first | exact HB.out | apply below_alloc | apply pw_below_drewN | apply below_drew1) | exact HB.out)⟩
                · replace c11 := Bool.eq_false_iff.mpr c11
                  subst c11
                  have H1 : (calamusref04_Clamp.l0 k3 a0 (wrap64 (x1_3 - 1))) = some r := by rw [if_neg (show ¬ (false = true) by decide)] at H; exact H
                  clear H
                  have H := H1
                  clear H1
                  have H' := Aside0.mk H
                  clear H
                  go_wp2_with (first | ((with_reducible refine gate_callee (f := 62) rfl ?_); refine goesL_ (some 18) rfl rfl Try.func62 (by kernel_rfl) rfl #[.string a0, .int .i64 x1_3] rfl (by (try simp only [List.map_toArray, List.map_cons, List.map_nil]); first | done | rfl | (simp only [List.length_drop, List.length_take]; rfl)) ?_; (with_reducible refine (calamusref03_Place.calls a0 x1_3 false _ A10.out).mono ?_); rintro e w20 ⟨rfl, hb⟩; refine ⟨_, rfl, ?_⟩; have n0_ := Aside0.mk (below_step (by repeat (first | (with_reducible first | exact HB.out | apply below_alloc | apply pw_below_drewN | apply below_drew1) | exact HB.out)) hb); clear HB; have HB := n0_; clear n0_; (try clear hb); (try clear hb2); (try clear hk); (try clear hi)))
                  go_roundg k3
                  case measure => have := HJ4.out; have := HJ7.out; have := HK3.out; omega
                  case rel => exact ⟨(wrap64 (x1_3 - 1)), (by first | rfl | (simp; done) | (simp [*]; done)), H', ⟨by have := HJ4.out; have := HJ7.out; have := HK3.out; omega⟩, ⟨by repeat (first | (with_reducible first | exact HB.out | apply below_alloc | apply pw_below_drewN | apply below_drew1) | exact HB.out)⟩⟩
  · replace c4 := Bool.eq_false_iff.mpr c4
    subst c4
    have H1 : (some 0) = some r := by rw [if_neg (show ¬ (false = true) by decide)] at H; exact H
    clear H
    have H := H1
    clear H1
    obtain rfl := Option.some.inj H
    go_enter Try.func92, Try.ntmps92
    go_wp2_with (first | ((with_reducible refine gate_callee (f := 76) rfl ?_); refine goesL_ (some 6) rfl rfl Try.func76 (by kernel_rfl) rfl #[.string a0] rfl (by (try simp only [List.map_toArray, List.map_cons, List.map_nil]); first | done | rfl | (simp only [List.length_drop, List.length_take]; rfl)) ?_; (with_reducible refine (calamusref03_Valid.calls a0 false _ A3.out).mono ?_); rintro e w21 ⟨rfl, hb⟩; refine ⟨_, rfl, ?_⟩; have n0_ := Aside0.mk (below_step (by repeat (first | (with_reducible first | exact HB.out | apply below_alloc | apply pw_below_drewN | apply below_drew1) | exact HB.out)) hb); clear HB; have HB := n0_; clear n0_; (try clear hb); (try clear hb2); (try clear hk); (try clear hi)))
    go_ret
    exact ⟨by first | rfl | (simp [errW_none, errW_some] <;> rfl) | (simp [*, errW_none, errW_some] <;> rfl), by repeat (first | (with_reducible first | exact HB.out | apply below_alloc | apply pw_below_drewN | apply below_drew1) | exact HB.out)⟩

/-! ### calamusref25_Leave -/
def calamusref25_Leave.f (k : Nat) (a0 : ByteArray) (a1 : Int) : Option (Int) := (calamusref03_Place.f a0 a1).bind fun t203 => (if t203 = true then ((calamusref04_Column.f a0 a1).bind fun t204 => (if t204 > 0 then ((calamusref03_Prev.f a0 a1).bind fun t205 => ((calamusref04_Clamp.f k a0 t205).bind fun t206 => (some t206))) else ((calamusref04_Clamp.f k a0 a1).bind fun t207 => (some t207)))) else (some 0))
theorem calamusref25_Leave.mono : ∀ a0 a1 k, LeO (calamusref25_Leave.f k a0 a1) (calamusref25_Leave.f (k + 1) a0 a1) := by
  intro a0 a1 k
  unfold calamusref25_Leave.f
  repeat' first
      | (with_reducible exact calamusref04_Clamp.mono _ _ _)
      | (with_reducible exact LeO.refl _)
      | (with_reducible exact LeO.none _)
      | (with_reducible refine LeO.ite ?_ ?_)
      | (with_reducible refine LeO.bind ?_ (fun _ => ?_))
      | exact calamusref04_Clamp.mono _ _ _
      | exact LeO.none _
      | refine LeO.ite ?_ ?_
      | refine LeO.bind ?_ (fun _ => ?_)
set_option maxHeartbeats 8000000 in
set_option maxRecDepth 100000 in
theorem calamusref25_Leave.calls (k : Nat) (a0 : ByteArray) (a1 : Int) (r : Int) (w : World) (h : calamusref25_Leave.f k a0 a1 = some r) :
    Calls Try.prog 44 #[.string a0, .int .i64 a1] w fun e w' => e = .returned (.int .i64 r) ∧ Below w.heap.size w w' := by
  have HB := Aside0.mk (Below.refl w.heap.size w)
  have H : ((calamusref03_Place.f a0 a1).bind fun t203 => (if t203 = true then ((calamusref04_Column.f a0 a1).bind fun t204 => (if t204 > 0 then ((calamusref03_Prev.f a0 a1).bind fun t205 => ((calamusref04_Clamp.f k a0 t205).bind fun t206 => (some t206))) else ((calamusref04_Clamp.f k a0 a1).bind fun t207 => (some t207)))) else (some 0))) = some r := h
  clear h
  replace H := Option.bind_eq_some_iff.mp H
  obtain ⟨t203, A30, H⟩ := H
  replace H : (if t203 = true then ((calamusref04_Column.f a0 a1).bind fun t204 => (if t204 > 0 then ((calamusref03_Prev.f a0 a1).bind fun t205 => ((calamusref04_Clamp.f k a0 t205).bind fun t206 => (some t206))) else ((calamusref04_Clamp.f k a0 a1).bind fun t207 => (some t207)))) else (some 0)) = some r := H
  have A3 := Aside0.mk A30
  clear A30
  by_cases c4 : t203 = true
  · subst c4
    have H1 : ((calamusref04_Column.f a0 a1).bind fun t204 => (if t204 > 0 then ((calamusref03_Prev.f a0 a1).bind fun t205 => ((calamusref04_Clamp.f k a0 t205).bind fun t206 => (some t206))) else ((calamusref04_Clamp.f k a0 a1).bind fun t207 => (some t207)))) = some r := by rw [if_pos rfl] at H; exact H
    clear H
    have H := H1
    clear H1
    replace H := Option.bind_eq_some_iff.mp H
    obtain ⟨t204, A50, H⟩ := H
    replace H : (if t204 > 0 then ((calamusref03_Prev.f a0 a1).bind fun t205 => ((calamusref04_Clamp.f k a0 t205).bind fun t206 => (some t206))) else ((calamusref04_Clamp.f k a0 a1).bind fun t207 => (some t207))) = some r := H
    have A5 := Aside0.mk A50
    clear A50
    by_cases c6 : t204 > 0
    · rw [if_pos c6] at H
      have c6b0 : decide (0 < t204) = true := decide_eq_true c6
      clear c6
      replace H := Option.bind_eq_some_iff.mp H
      obtain ⟨t205, A70, H⟩ := H
      replace H : ((calamusref04_Clamp.f k a0 t205).bind fun t206 => (some t206)) = some r := H
      have A7 := Aside0.mk A70
      clear A70
      replace H := Option.bind_eq_some_iff.mp H
      obtain ⟨t206, A80, H⟩ := H
      replace H : (some t206) = some r := H
      have A8 := Aside0.mk A80
      clear A80
      obtain rfl := Option.some.inj H
      go_enter Try.func44, Try.ntmps44
      go_wp2_with (first | ((with_reducible refine gate_callee (f := 62) rfl ?_); refine goesL_ (some 7) rfl rfl Try.func62 (by kernel_rfl) rfl #[.string a0, .int .i64 a1] rfl (by (try simp only [List.map_toArray, List.map_cons, List.map_nil]); first | done | rfl | (simp only [List.length_drop, List.length_take]; rfl)) ?_; (with_reducible refine (calamusref03_Place.calls a0 a1 true _ A3.out).mono ?_); rintro e w9 ⟨rfl, hb⟩; refine ⟨_, rfl, ?_⟩; have n0_ := Aside0.mk (below_step (by repeat (first | (with_reducible first | exact HB.out | apply below_alloc | apply pw_below_drewN | apply below_drew1) | exact HB.out)) hb); clear HB; have HB := n0_; clear n0_; (try clear hb); (try clear hb2); (try clear hk); (try clear hi)) | ((with_reducible refine gate_callee (f := 91) rfl ?_); refine goesL_ (some 11) rfl rfl Try.func91 (by kernel_rfl) rfl #[.string a0, .int .i64 a1] rfl (by (try simp only [List.map_toArray, List.map_cons, List.map_nil]); first | done | rfl | (simp only [List.length_drop, List.length_take]; rfl)) ?_; (with_reducible refine (calamusref04_Column.calls a0 a1 t204 _ A5.out).mono ?_); rintro e w10 ⟨rfl, hb⟩; refine ⟨_, rfl, ?_⟩; have n0_ := Aside0.mk (below_step (by repeat (first | (with_reducible first | exact HB.out | apply below_alloc | apply pw_below_drewN | apply below_drew1) | exact HB.out)) hb); clear HB; have HB := n0_; clear n0_; (try clear hb); (try clear hb2); (try clear hk); (try clear hi)) | ((with_reducible refine gate_callee (f := 81) rfl ?_); refine goesL_ (some 15) rfl rfl Try.func81 (by kernel_rfl) rfl #[.string a0, .int .i64 a1] rfl (by (try simp only [List.map_toArray, List.map_cons, List.map_nil]); first | done | rfl | (simp only [List.length_drop, List.length_take]; rfl)) ?_; (with_reducible refine (calamusref03_Prev.calls a0 a1 t205 _ A7.out).mono ?_); rintro e w11 ⟨rfl, hb⟩; refine ⟨_, rfl, ?_⟩; have n0_ := Aside0.mk (below_step (by repeat (first | (with_reducible first | exact HB.out | apply below_alloc | apply pw_below_drewN | apply below_drew1) | exact HB.out)) hb); clear HB; have HB := n0_; clear n0_; (try clear hb); (try clear hb2); (try clear hk); (try clear hi)) | ((with_reducible refine gate_callee (f := 92) rfl ?_); refine goesL_ (some 18) rfl rfl Try.func92 (by kernel_rfl) rfl #[.string a0, .int .i64 t205] rfl (by (try simp only [List.map_toArray, List.map_cons, List.map_nil]); first | done | rfl | (simp only [List.length_drop, List.length_take]; rfl)) ?_; (with_reducible refine (calamusref04_Clamp.calls k a0 t205 t206 _ A8.out).mono ?_); rintro e w12 ⟨rfl, hb⟩; refine ⟨_, rfl, ?_⟩; have n0_ := Aside0.mk (below_step (by repeat (first | (with_reducible first | exact HB.out | apply below_alloc | apply pw_below_drewN | apply below_drew1) | exact HB.out)) hb); clear HB; have HB := n0_; clear n0_; (try clear hb); (try clear hb2); (try clear hk); (try clear hi)))
      go_ret
      exact ⟨by first | rfl | (simp [errW_none, errW_some] <;> rfl) | (simp [*, errW_none, errW_some] <;> rfl), by repeat (first | (with_reducible first | exact HB.out | apply below_alloc | apply pw_below_drewN | apply below_drew1) | exact HB.out)⟩
    · rw [if_neg c6] at H
      have c6b0 : decide (0 < t204) = false := decide_eq_false c6
      clear c6
      replace H := Option.bind_eq_some_iff.mp H
      obtain ⟨t207, A130, H⟩ := H
      replace H : (some t207) = some r := H
      have A13 := Aside0.mk A130
      clear A130
      obtain rfl := Option.some.inj H
      go_enter Try.func44, Try.ntmps44
      go_wp2_with (first | ((with_reducible refine gate_callee (f := 62) rfl ?_); refine goesL_ (some 7) rfl rfl Try.func62 (by kernel_rfl) rfl #[.string a0, .int .i64 a1] rfl (by (try simp only [List.map_toArray, List.map_cons, List.map_nil]); first | done | rfl | (simp only [List.length_drop, List.length_take]; rfl)) ?_; (with_reducible refine (calamusref03_Place.calls a0 a1 true _ A3.out).mono ?_); rintro e w14 ⟨rfl, hb⟩; refine ⟨_, rfl, ?_⟩; have n0_ := Aside0.mk (below_step (by repeat (first | (with_reducible first | exact HB.out | apply below_alloc | apply pw_below_drewN | apply below_drew1) | exact HB.out)) hb); clear HB; have HB := n0_; clear n0_; (try clear hb); (try clear hb2); (try clear hk); (try clear hi)) | ((with_reducible refine gate_callee (f := 91) rfl ?_); refine goesL_ (some 11) rfl rfl Try.func91 (by kernel_rfl) rfl #[.string a0, .int .i64 a1] rfl (by (try simp only [List.map_toArray, List.map_cons, List.map_nil]); first | done | rfl | (simp only [List.length_drop, List.length_take]; rfl)) ?_; (with_reducible refine (calamusref04_Column.calls a0 a1 t204 _ A5.out).mono ?_); rintro e w15 ⟨rfl, hb⟩; refine ⟨_, rfl, ?_⟩; have n0_ := Aside0.mk (below_step (by repeat (first | (with_reducible first | exact HB.out | apply below_alloc | apply pw_below_drewN | apply below_drew1) | exact HB.out)) hb); clear HB; have HB := n0_; clear n0_; (try clear hb); (try clear hb2); (try clear hk); (try clear hi)) | ((with_reducible refine gate_callee (f := 92) rfl ?_); refine goesL_ (some 18) rfl rfl Try.func92 (by kernel_rfl) rfl #[.string a0, .int .i64 a1] rfl (by (try simp only [List.map_toArray, List.map_cons, List.map_nil]); first | done | rfl | (simp only [List.length_drop, List.length_take]; rfl)) ?_; (with_reducible refine (calamusref04_Clamp.calls k a0 a1 t207 _ A13.out).mono ?_); rintro e w16 ⟨rfl, hb⟩; refine ⟨_, rfl, ?_⟩; have n0_ := Aside0.mk (below_step (by repeat (first | (with_reducible first | exact HB.out | apply below_alloc | apply pw_below_drewN | apply below_drew1) | exact HB.out)) hb); clear HB; have HB := n0_; clear n0_; (try clear hb); (try clear hb2); (try clear hk); (try clear hi)))
      go_ret
      exact ⟨by first | rfl | (simp [errW_none, errW_some] <;> rfl) | (simp [*, errW_none, errW_some] <;> rfl), by repeat (first | (with_reducible first | exact HB.out | apply below_alloc | apply pw_below_drewN | apply below_drew1) | exact HB.out)⟩
  · replace c4 := Bool.eq_false_iff.mpr c4
    subst c4
    have H1 : (some 0) = some r := by rw [if_neg (show ¬ (false = true) by decide)] at H; exact H
    clear H
    have H := H1
    clear H1
    obtain rfl := Option.some.inj H
    go_enter Try.func44, Try.ntmps44
    go_wp2_with (first | ((with_reducible refine gate_callee (f := 62) rfl ?_); refine goesL_ (some 7) rfl rfl Try.func62 (by kernel_rfl) rfl #[.string a0, .int .i64 a1] rfl (by (try simp only [List.map_toArray, List.map_cons, List.map_nil]); first | done | rfl | (simp only [List.length_drop, List.length_take]; rfl)) ?_; (with_reducible refine (calamusref03_Place.calls a0 a1 false _ A3.out).mono ?_); rintro e w17 ⟨rfl, hb⟩; refine ⟨_, rfl, ?_⟩; have n0_ := Aside0.mk (below_step (by repeat (first | (with_reducible first | exact HB.out | apply below_alloc | apply pw_below_drewN | apply below_drew1) | exact HB.out)) hb); clear HB; have HB := n0_; clear n0_; (try clear hb); (try clear hb2); (try clear hk); (try clear hi)))
    go_ret
    exact ⟨by first | rfl | (simp [errW_none, errW_some] <;> rfl) | (simp [*, errW_none, errW_some] <;> rfl), by repeat (first | (with_reducible first | exact HB.out | apply below_alloc | apply pw_below_drewN | apply below_drew1) | exact HB.out)⟩

end Go.Proofs.Ytnmcdkekflnekaa.QE
-- Printed by this work's xp.py out of the translation. Lean checks it.
namespace Go.Proofs.Ytnmcdkekflnekaa.QE
open Go.RowKit Go.Proofs.YtnmcdkekflnekaaW.PrintWords Go.Proofs.YtnmcdkekflnekaaW.PrintLast Go.Proofs.YtnmcdkekflnekaaW.PrintMore
attribute [local go_sem] max2_int min2_int max_two min_two max_three min_three max_four min_four   -- for this text's walks alone
set_option linter.unusedVariables false
set_option linter.unusedSimpArgs false


/-! ### calamuslaw25_EntryCuts -/
mutual
def calamuslaw25_EntryCuts.j0 : Nat → ByteArray → Int → Int → Bool → Option (Bool)
  | 0, _, _, _, _ => none
  | k + 1, x0, x1, x2, x45 => if x45 = true then (some false) else ((entry_Chop.f x0 x1 x2).bind fun bt215 => ((calamusref25_Chop.f k x0 x1 x2).bind fun bt218 => (if bt215.1.toList = bt218.1.toList then (if bt215.2.1 = bt218.2.1 then (calamuslaw25_EntryCuts.j1 k x0 x1 x2 (bt215.2.2 != bt218.2.2)) else (calamuslaw25_EntryCuts.j1 k x0 x1 x2 true)) else (calamuslaw25_EntryCuts.j1 k x0 x1 x2 true))))
def calamuslaw25_EntryCuts.j1 : Nat → ByteArray → Int → Int → Bool → Option (Bool)
  | 0, _, _, _, _ => none
  | k + 1, x0, x1, x2, x74 => if x74 = true then (some false) else ((entry_Wipe.f x0 x1 x2).bind fun bt221 => ((calamusref25_Wipe.f k x0 x1 x2).bind fun bt224 => (if bt221.1.toList = bt224.1.toList then (if bt221.2.1 = bt224.2.1 then (if bt221.2.2 = bt224.2.2 then ((entry_Leave.f k x0 x1).bind fun t227 => ((calamusref25_Leave.f k x0 x1).bind fun t228 => (if t227 = t228 then ((calamuslaw25_lives.f).bind fun t229 => (some t229)) else (some false)))) else (some false)) else (some false)) else (some false))))
end
def calamuslaw25_EntryCuts.f (k : Nat) (a0 : ByteArray) (a1 : Int) (a2 : Int) : Option (Bool) := if (a0.size : Int) > 500 then ((calamuslaw25_lives.f).bind fun t208 => (some t208)) else ((entry_Back.f a0 a1 a2).bind fun bt209 => ((calamusref25_Back.f k a0 a1 a2).bind fun bt212 => (if bt209.1.toList = bt212.1.toList then (if bt209.2.1 = bt212.2.1 then (calamuslaw25_EntryCuts.j0 k a0 a1 a2 (bt209.2.2 != bt212.2.2)) else (calamuslaw25_EntryCuts.j0 k a0 a1 a2 true)) else (calamuslaw25_EntryCuts.j0 k a0 a1 a2 true))))
theorem calamuslaw25_EntryCuts.mono_l : ∀ k, (∀ y0 y1 y2 y3, LeO (calamuslaw25_EntryCuts.j0 k y0 y1 y2 y3) (calamuslaw25_EntryCuts.j0 (k + 1) y0 y1 y2 y3)) ∧ (∀ y0 y1 y2 y3, LeO (calamuslaw25_EntryCuts.j1 k y0 y1 y2 y3) (calamuslaw25_EntryCuts.j1 (k + 1) y0 y1 y2 y3))
  | 0 => ⟨fun _ _ _ _ r h => by simp [calamuslaw25_EntryCuts.j0] at h, fun _ _ _ _ r h => by simp [calamuslaw25_EntryCuts.j1] at h⟩
  | k + 1 => by
    obtain ⟨ih0, ih1⟩ := calamuslaw25_EntryCuts.mono_l k
    refine ⟨?_, ?_⟩
    · intro y0 y1 y2 y3
      unfold calamuslaw25_EntryCuts.j0
      repeat' first
      | (with_reducible exact ih0 _ _ _ _)
      | (with_reducible exact ih1 _ _ _ _)
      | (with_reducible exact calamusref25_Back.mono _ _ _ _)
      | (with_reducible exact calamusref25_Chop.mono _ _ _ _)
      | (with_reducible exact calamusref25_Leave.mono _ _ _)
      | (with_reducible exact calamusref25_Wipe.mono _ _ _ _)
      | (with_reducible exact entry_Leave.mono _ _ _)
      | (with_reducible exact LeO.refl _)
      | (with_reducible exact LeO.none _)
      | (with_reducible refine LeO.ite ?_ ?_)
      | (with_reducible refine LeO.bind ?_ (fun _ => ?_))
      | exact ih0 _ _ _ _
      | exact ih1 _ _ _ _
      | exact calamusref25_Back.mono _ _ _ _
      | exact calamusref25_Chop.mono _ _ _ _
      | exact calamusref25_Leave.mono _ _ _
      | exact calamusref25_Wipe.mono _ _ _ _
      | exact entry_Leave.mono _ _ _
      | exact LeO.none _
      | refine LeO.ite ?_ ?_
      | refine LeO.bind ?_ (fun _ => ?_)
    · intro y0 y1 y2 y3
      unfold calamuslaw25_EntryCuts.j1
      repeat' first
      | (with_reducible exact ih0 _ _ _ _)
      | (with_reducible exact ih1 _ _ _ _)
      | (with_reducible exact calamusref25_Back.mono _ _ _ _)
      | (with_reducible exact calamusref25_Chop.mono _ _ _ _)
      | (with_reducible exact calamusref25_Leave.mono _ _ _)
      | (with_reducible exact calamusref25_Wipe.mono _ _ _ _)
      | (with_reducible exact entry_Leave.mono _ _ _)
      | (with_reducible exact LeO.refl _)
      | (with_reducible exact LeO.none _)
      | (with_reducible refine LeO.ite ?_ ?_)
      | (with_reducible refine LeO.bind ?_ (fun _ => ?_))
      | exact ih0 _ _ _ _
      | exact ih1 _ _ _ _
      | exact calamusref25_Back.mono _ _ _ _
      | exact calamusref25_Chop.mono _ _ _ _
      | exact calamusref25_Leave.mono _ _ _
      | exact calamusref25_Wipe.mono _ _ _ _
      | exact entry_Leave.mono _ _ _
      | exact LeO.none _
      | refine LeO.ite ?_ ?_
      | refine LeO.bind ?_ (fun _ => ?_)
theorem calamuslaw25_EntryCuts.mono : ∀ a0 a1 a2 k, LeO (calamuslaw25_EntryCuts.f k a0 a1 a2) (calamuslaw25_EntryCuts.f (k + 1) a0 a1 a2) := by
  intro a0 a1 a2 k
  obtain ⟨ih0, ih1⟩ := calamuslaw25_EntryCuts.mono_l k
  unfold calamuslaw25_EntryCuts.f
  repeat' first
      | (with_reducible exact ih0 _ _ _ _)
      | (with_reducible exact ih1 _ _ _ _)
      | (with_reducible exact calamusref25_Back.mono _ _ _ _)
      | (with_reducible exact calamusref25_Chop.mono _ _ _ _)
      | (with_reducible exact calamusref25_Leave.mono _ _ _)
      | (with_reducible exact calamusref25_Wipe.mono _ _ _ _)
      | (with_reducible exact entry_Leave.mono _ _ _)
      | (with_reducible exact LeO.refl _)
      | (with_reducible exact LeO.none _)
      | (with_reducible refine LeO.ite ?_ ?_)
      | (with_reducible refine LeO.bind ?_ (fun _ => ?_))
      | exact ih0 _ _ _ _
      | exact ih1 _ _ _ _
      | exact calamusref25_Back.mono _ _ _ _
      | exact calamusref25_Chop.mono _ _ _ _
      | exact calamusref25_Leave.mono _ _ _
      | exact calamusref25_Wipe.mono _ _ _ _
      | exact entry_Leave.mono _ _ _
      | exact LeO.none _
      | refine LeO.ite ?_ ?_
      | refine LeO.bind ?_ (fun _ => ?_)
set_option maxHeartbeats 8000000 in
set_option maxRecDepth 100000 in
theorem calamuslaw25_EntryCuts.calls (k : Nat) (a0 : ByteArray) (a1 : Int) (a2 : Int) (r : Bool) (w : World) (h : calamuslaw25_EntryCuts.f k a0 a1 a2 = some r) :
    Calls Try.prog 10 #[.string a0, .int .i64 a1, .int .i64 a2] w fun e w' => e = .returned (.bool r) ∧ Below w.heap.size w w' := by
  have HB := Aside0.mk (Below.refl w.heap.size w)
  have H : (if (a0.size : Int) > 500 then ((calamuslaw25_lives.f).bind fun t208 => (some t208)) else ((entry_Back.f a0 a1 a2).bind fun bt209 => ((calamusref25_Back.f k a0 a1 a2).bind fun bt212 => (if bt209.1.toList = bt212.1.toList then (if bt209.2.1 = bt212.2.1 then (calamuslaw25_EntryCuts.j0 k a0 a1 a2 (bt209.2.2 != bt212.2.2)) else (calamuslaw25_EntryCuts.j0 k a0 a1 a2 true)) else (calamuslaw25_EntryCuts.j0 k a0 a1 a2 true))))) = some r := h
  clear h
  by_cases c4 : (a0.size : Int) > 500
  · rw [if_pos c4] at H
    have c4b0 : decide (500 < (a0.size : Int)) = true := decide_eq_true c4
    have c4b1 : decide (500 < a0.size) = true := decide_eq_true (by omega)
    clear c4
    replace H := Option.bind_eq_some_iff.mp H
    obtain ⟨t208, A50, H⟩ := H
    replace H : (some t208) = some r := H
    have A5 := Aside0.mk A50
    clear A50
    obtain rfl := Option.some.inj H
    go_enter Try.func10, Try.ntmps10
    go_wp2_with (first | ((with_reducible refine gate_callee (f := 14) rfl ?_); refine goesL_ (some 16) rfl rfl Try.func14 (by kernel_rfl) rfl #[] rfl (by (try simp only [List.map_toArray, List.map_cons, List.map_nil]); first | done | rfl | (simp only [List.length_drop, List.length_take]; rfl)) ?_; (with_reducible refine (calamuslaw25_lives.calls  t208 _ A5.out).mono ?_); rintro e w6 ⟨rfl, hb⟩; refine ⟨_, rfl, ?_⟩; have n0_ := Aside0.mk (below_step (by repeat (first | (with_reducible first | exact HB.out | apply below_alloc | apply pw_below_drewN | apply below_drew1) | exact HB.out)) hb); clear HB; have HB := n0_; clear n0_; (try clear hb); (try clear hb2); (try clear hk); (try clear hi)))
    go_ret
    exact ⟨by first | rfl | (simp [errW_none, errW_some] <;> rfl) | (simp [*, errW_none, errW_some] <;> rfl), by repeat (first | (with_reducible first | exact HB.out | apply below_alloc | apply pw_below_drewN | apply below_drew1) | exact HB.out)⟩
  · rw [if_neg c4] at H
    have c4b0 : decide (500 < (a0.size : Int)) = false := decide_eq_false c4
    have c4b1 : decide (500 < a0.size) = false := decide_eq_false (by omega)
    clear c4
    replace H := Option.bind_eq_some_iff.mp H
    obtain ⟨⟨t209, t210, t211⟩, A70, H⟩ := H
    replace H : ((calamusref25_Back.f k a0 a1 a2).bind fun bt212 => (if t209.toList = bt212.1.toList then (if t210 = bt212.2.1 then (calamuslaw25_EntryCuts.j0 k a0 a1 a2 (t211 != bt212.2.2)) else (calamuslaw25_EntryCuts.j0 k a0 a1 a2 true)) else (calamuslaw25_EntryCuts.j0 k a0 a1 a2 true))) = some r := H
    have A7 := Aside0.mk A70
    clear A70
    replace H := Option.bind_eq_some_iff.mp H
    obtain ⟨⟨t212, t213, t214⟩, A80, H⟩ := H
    replace H : (if t209.toList = t212.toList then (if t210 = t213 then (calamuslaw25_EntryCuts.j0 k a0 a1 a2 (t211 != t214)) else (calamuslaw25_EntryCuts.j0 k a0 a1 a2 true)) else (calamuslaw25_EntryCuts.j0 k a0 a1 a2 true)) = some r := H
    have A8 := Aside0.mk A80
    clear A80
    have HC9 := Aside0.mk H
    clear H
    go_enter Try.func10, Try.ntmps10
    go_upto_region 5 with (first | ((with_reducible refine gate_callee (f := 17) rfl ?_); refine goesL_ (some 21) rfl rfl Try.func17 (by kernel_rfl) rfl #[.string a0, .int .i64 a1, .int .i64 a2] rfl (by (try simp only [List.map_toArray, List.map_cons, List.map_nil]); first | done | rfl | (simp only [List.length_drop, List.length_take]; rfl)) ?_; (with_reducible refine (entry_Back.calls a0 a1 a2 t209 t210 t211 _ A7.out).mono ?_); rintro e w10 ⟨rfl, hb⟩; refine ⟨_, rfl, ?_⟩; have n0_ := Aside0.mk (below_step (by repeat (first | (with_reducible first | exact HB.out | apply below_alloc | apply pw_below_drewN | apply below_drew1) | exact HB.out)) hb); clear HB; have HB := n0_; clear n0_; (try clear hb); (try clear hb2); (try clear hk); (try clear hi)) | ((with_reducible refine gate_callee (f := 38) rfl ?_); refine goesL_ (some 29) rfl rfl Try.func38 (by kernel_rfl) rfl #[.string a0, .int .i64 a1, .int .i64 a2] rfl (by (try simp only [List.map_toArray, List.map_cons, List.map_nil]); first | done | rfl | (simp only [List.length_drop, List.length_take]; rfl)) ?_; (with_reducible refine (calamusref25_Back.calls k a0 a1 a2 t212 t213 t214 _ A8.out).mono ?_); rintro e w11 ⟨rfl, hb⟩; refine ⟨_, rfl, ?_⟩; have n0_ := Aside0.mk (below_step (by repeat (first | (with_reducible first | exact HB.out | apply below_alloc | apply pw_below_drewN | apply below_drew1) | exact HB.out)) hb); clear HB; have HB := n0_; clear n0_; (try clear hb); (try clear hb2); (try clear hk); (try clear hi)))
    (try simp only [Act.put, List.setIfInBounds_toArray, List.set_cons_zero, List.set_cons_succ])
    go_cut [45] (fun v45 wc => ∃ (kq : Nat) (x45_8 : Bool), v45 = .bool x45_8 ∧ Aside0 (calamuslaw25_EntryCuts.j0 kq a0 a1 a2 x45_8 = some r) ∧ Aside0 (kq ≤ k) ∧ Aside0 (Below w.heap.size w wc))
    case first =>
      have H := HC9.out
      clear HC9
      by_cases c12 : t209.toList = t212.toList
      · rw [if_pos c12] at H
        have c12b0 : (t209.toList == t212.toList) = true := beq_iff_eq.mpr c12
        have c12b1 : (t209.toList != t212.toList) = false := bne_eq_false_iff_eq.mpr c12
        clear c12
        (first | rw [c12b0] | (simp only [i64_w, i32_w]; rw [c12b0]) | skip)
        by_cases c13 : t210 = t213
        · rw [if_pos c13] at H
          have c13b0 : (t210 == t213) = true := beq_iff_eq.mpr c13
          have c13b1 : (t210 != t213) = false := bne_eq_false_iff_eq.mpr c13
          clear c13
          have H' := Aside0.mk H
          clear H
          go_wp2
          go_meet
          case rel => exact ⟨_, ((t211 != t214)), (by first | rfl | (simp; done) | (simp [*]; done)), H', ⟨by first | omega | exact Nat.le_refl _⟩, ⟨by repeat (first | (with_reducible first | exact HB.out | apply below_alloc | apply pw_below_drewN | apply below_drew1) | exact HB.out)⟩⟩
        · rw [if_neg c13] at H
          have c13b0 : (t210 == t213) = false := beq_eq_false_iff_ne.mpr c13
          have c13b1 : (t210 != t213) = true := bne_iff_ne.mpr c13
          have H' := Aside0.mk H
          clear H
          go_wp2
          go_meet
          case rel => exact ⟨_, (true), (by first | rfl | (simp; done) | (simp [*]; done)), H', ⟨by first | omega | exact Nat.le_refl _⟩, ⟨by repeat (first | (with_reducible first | exact HB.out | apply below_alloc | apply pw_below_drewN | apply below_drew1) | exact HB.out)⟩⟩
      · rw [if_neg c12] at H
        have c12b0 : (t209.toList == t212.toList) = false := beq_eq_false_iff_ne.mpr c12
        have c12b1 : (t209.toList != t212.toList) = true := bne_iff_ne.mpr c12
        (first | rw [c12b0] | (simp only [i64_w, i32_w]; rw [c12b0]) | skip)
        have H' := Aside0.mk H
        clear H
        go_wp2
        go_meet
        case rel => exact ⟨_, (true), (by first | rfl | (simp; done) | (simp [*]; done)), H', ⟨by first | omega | exact Nat.le_refl _⟩, ⟨by repeat (first | (with_reducible first | exact HB.out | apply below_alloc | apply pw_below_drewN | apply below_drew1) | exact HB.out)⟩⟩
    case rest =>
      clear HC9
      try clear c1
      try clear p2
      try clear c3
      try clear c4
      try clear c4b0
      try clear c4b1
      try clear c10
      try clear c12
      try clear c12b0
      try clear c12b1
      try clear c13
      try clear c13b0
      try clear c13b1
      obtain ⟨kq, x45_8, rfl, HA, HJ8, HB⟩ := hcut
      cases kq with
      | zero => exact absurd HA.out (by simp [calamuslaw25_EntryCuts.j0])
      | succ kj8 =>
        have H := HA.out
        clear HA
        simp only [calamuslaw25_EntryCuts.j0] at H
        by_cases c14 : x45_8 = true
        · subst c14
          have H1 : (some false) = some r := by rw [if_pos rfl] at H; exact H
          clear H
          have H := H1
          clear H1
          obtain rfl := Option.some.inj H
          go_wp2
          go_ret
          exact ⟨by first | rfl | (simp [errW_none, errW_some] <;> rfl) | (simp [*, errW_none, errW_some] <;> rfl), by repeat (first | (with_reducible first | exact HB.out | apply below_alloc | apply pw_below_drewN | apply below_drew1) | exact HB.out)⟩
        · replace c14 := Bool.eq_false_iff.mpr c14
          subst c14
          have H1 : ((entry_Chop.f a0 a1 a2).bind fun bt215 => ((calamusref25_Chop.f kj8 a0 a1 a2).bind fun bt218 => (if bt215.1.toList = bt218.1.toList then (if bt215.2.1 = bt218.2.1 then (calamuslaw25_EntryCuts.j1 kj8 a0 a1 a2 (bt215.2.2 != bt218.2.2)) else (calamuslaw25_EntryCuts.j1 kj8 a0 a1 a2 true)) else (calamuslaw25_EntryCuts.j1 kj8 a0 a1 a2 true)))) = some r := by rw [if_neg (show ¬ (false = true) by decide)] at H; exact H
          clear H
          have H := H1
          clear H1
          replace H := Option.bind_eq_some_iff.mp H
          obtain ⟨⟨t215, t216, t217⟩, A150, H⟩ := H
          replace H : ((calamusref25_Chop.f kj8 a0 a1 a2).bind fun bt218 => (if t215.toList = bt218.1.toList then (if t216 = bt218.2.1 then (calamuslaw25_EntryCuts.j1 kj8 a0 a1 a2 (t217 != bt218.2.2)) else (calamuslaw25_EntryCuts.j1 kj8 a0 a1 a2 true)) else (calamuslaw25_EntryCuts.j1 kj8 a0 a1 a2 true))) = some r := H
          have A15 := Aside0.mk A150
          clear A150
          replace H := Option.bind_eq_some_iff.mp H
          obtain ⟨⟨t218, t219, t220⟩, A160, H⟩ := H
          replace H : (if t215.toList = t218.toList then (if t216 = t219 then (calamuslaw25_EntryCuts.j1 kj8 a0 a1 a2 (t217 != t220)) else (calamuslaw25_EntryCuts.j1 kj8 a0 a1 a2 true)) else (calamuslaw25_EntryCuts.j1 kj8 a0 a1 a2 true)) = some r := H
          have A16 := Aside0.mk A160
          clear A160
          have HC17 := Aside0.mk H
          clear H
          go_upto_region 9 with (first | ((with_reducible refine gate_callee (f := 39) rfl ?_); refine goesL_ (some 50) rfl rfl Try.func39 (by kernel_rfl) rfl #[.string a0, .int .i64 a1, .int .i64 a2] rfl (by (try simp only [List.map_toArray, List.map_cons, List.map_nil]); first | done | rfl | (simp only [List.length_drop, List.length_take]; rfl)) ?_; (with_reducible refine (entry_Chop.calls a0 a1 a2 t215 t216 t217 _ A15.out).mono ?_); rintro e w18 ⟨rfl, hb⟩; refine ⟨_, rfl, ?_⟩; have n0_ := Aside0.mk (below_step (by repeat (first | (with_reducible first | exact HB.out | apply below_alloc | apply pw_below_drewN | apply below_drew1) | exact HB.out)) hb); clear HB; have HB := n0_; clear n0_; (try clear hb); (try clear hb2); (try clear hk); (try clear hi)) | ((with_reducible refine gate_callee (f := 40) rfl ?_); refine goesL_ (some 58) rfl rfl Try.func40 (by kernel_rfl) rfl #[.string a0, .int .i64 a1, .int .i64 a2] rfl (by (try simp only [List.map_toArray, List.map_cons, List.map_nil]); first | done | rfl | (simp only [List.length_drop, List.length_take]; rfl)) ?_; (with_reducible refine (calamusref25_Chop.calls kj8 a0 a1 a2 t218 t219 t220 _ A16.out).mono ?_); rintro e w19 ⟨rfl, hb⟩; refine ⟨_, rfl, ?_⟩; have n0_ := Aside0.mk (below_step (by repeat (first | (with_reducible first | exact HB.out | apply below_alloc | apply pw_below_drewN | apply below_drew1) | exact HB.out)) hb); clear HB; have HB := n0_; clear n0_; (try clear hb); (try clear hb2); (try clear hk); (try clear hi)))
          (try simp only [Act.put, List.setIfInBounds_toArray, List.set_cons_zero, List.set_cons_succ])
          go_cut [74] (fun v74 wc => ∃ (kq : Nat) (x74_16 : Bool), v74 = .bool x74_16 ∧ Aside0 (calamuslaw25_EntryCuts.j1 kq a0 a1 a2 x74_16 = some r) ∧ Aside0 (kq ≤ kj8) ∧ Aside0 (Below w.heap.size w wc))
          case first =>
            have H := HC17.out
            clear HC17
            by_cases c20 : t215.toList = t218.toList
            · rw [if_pos c20] at H
              have c20b0 : (t215.toList == t218.toList) = true := beq_iff_eq.mpr c20
              have c20b1 : (t215.toList != t218.toList) = false := bne_eq_false_iff_eq.mpr c20
              clear c20
              (first | rw [c20b0] | (simp only [i64_w, i32_w]; rw [c20b0]) | skip)
              by_cases c21 : t216 = t219
              · rw [if_pos c21] at H
                have c21b0 : (t216 == t219) = true := beq_iff_eq.mpr c21
                have c21b1 : (t216 != t219) = false := bne_eq_false_iff_eq.mpr c21
                clear c21
                have H' := Aside0.mk H
                clear H
                go_wp2
                go_meet
                case rel => exact ⟨_, ((t217 != t220)), (by first | rfl | (simp; done) | (simp [*]; done)), H', ⟨by have := HJ8.out; first | omega | exact Nat.le_refl _⟩, ⟨by repeat (first | (with_reducible first | exact HB.out | apply below_alloc | apply pw_below_drewN | apply below_drew1) | exact HB.out)⟩⟩
              · rw [if_neg c21] at H
                have c21b0 : (t216 == t219) = false := beq_eq_false_iff_ne.mpr c21
                have c21b1 : (t216 != t219) = true := bne_iff_ne.mpr c21
                have H' := Aside0.mk H
                clear H
                go_wp2
                go_meet
                case rel => exact ⟨_, (true), (by first | rfl | (simp; done) | (simp [*]; done)), H', ⟨by have := HJ8.out; first | omega | exact Nat.le_refl _⟩, ⟨by repeat (first | (with_reducible first | exact HB.out | apply below_alloc | apply pw_below_drewN | apply below_drew1) | exact HB.out)⟩⟩
            · rw [if_neg c20] at H
              have c20b0 : (t215.toList == t218.toList) = false := beq_eq_false_iff_ne.mpr c20
              have c20b1 : (t215.toList != t218.toList) = true := bne_iff_ne.mpr c20
              (first | rw [c20b0] | (simp only [i64_w, i32_w]; rw [c20b0]) | skip)
              have H' := Aside0.mk H
              clear H
              go_wp2
              go_meet
              case rel => exact ⟨_, (true), (by first | rfl | (simp; done) | (simp [*]; done)), H', ⟨by have := HJ8.out; first | omega | exact Nat.le_refl _⟩, ⟨by repeat (first | (with_reducible first | exact HB.out | apply below_alloc | apply pw_below_drewN | apply below_drew1) | exact HB.out)⟩⟩
          case rest =>
            clear HC17
            try clear c1
            try clear c2
            try clear p2
            try clear c3
            try clear c4
            try clear c4b0
            try clear c4b1
            try clear c10
            try clear c12
            try clear c12b0
            try clear c12b1
            try clear c13
            try clear c13b0
            try clear c13b1
            try clear c14
            try clear c17
            try clear c20
            try clear c20b0
            try clear c20b1
            try clear c21
            try clear c21b0
            try clear c21b1
            try clear p2
            obtain ⟨kq, x74_16, rfl, HA, HJ16, HB⟩ := hcut
            cases kq with
            | zero => exact absurd HA.out (by simp [calamuslaw25_EntryCuts.j1])
            | succ kj16 =>
              have H := HA.out
              clear HA
              simp only [calamuslaw25_EntryCuts.j1] at H
              by_cases c22 : x74_16 = true
              · subst c22
                have H1 : (some false) = some r := by rw [if_pos rfl] at H; exact H
                clear H
                have H := H1
                clear H1
                obtain rfl := Option.some.inj H
                go_wp2
                go_ret
                exact ⟨by first | rfl | (simp [errW_none, errW_some] <;> rfl) | (simp [*, errW_none, errW_some] <;> rfl), by repeat (first | (with_reducible first | exact HB.out | apply below_alloc | apply pw_below_drewN | apply below_drew1) | exact HB.out)⟩
              · replace c22 := Bool.eq_false_iff.mpr c22
                subst c22
                have H1 : ((entry_Wipe.f a0 a1 a2).bind fun bt221 => ((calamusref25_Wipe.f kj16 a0 a1 a2).bind fun bt224 => (if bt221.1.toList = bt224.1.toList then (if bt221.2.1 = bt224.2.1 then (if bt221.2.2 = bt224.2.2 then ((entry_Leave.f kj16 a0 a1).bind fun t227 => ((calamusref25_Leave.f kj16 a0 a1).bind fun t228 => (if t227 = t228 then ((calamuslaw25_lives.f).bind fun t229 => (some t229)) else (some false)))) else (some false)) else (some false)) else (some false)))) = some r := by rw [if_neg (show ¬ (false = true) by decide)] at H; exact H
                clear H
                have H := H1
                clear H1
                replace H := Option.bind_eq_some_iff.mp H
                obtain ⟨⟨t221, t222, t223⟩, A230, H⟩ := H
                replace H : ((calamusref25_Wipe.f kj16 a0 a1 a2).bind fun bt224 => (if t221.toList = bt224.1.toList then (if t222 = bt224.2.1 then (if t223 = bt224.2.2 then ((entry_Leave.f kj16 a0 a1).bind fun t227 => ((calamusref25_Leave.f kj16 a0 a1).bind fun t228 => (if t227 = t228 then ((calamuslaw25_lives.f).bind fun t229 => (some t229)) else (some false)))) else (some false)) else (some false)) else (some false))) = some r := H
                have A23 := Aside0.mk A230
                clear A230
                replace H := Option.bind_eq_some_iff.mp H
                obtain ⟨⟨t224, t225, t226⟩, A240, H⟩ := H
                replace H : (if t221.toList = t224.toList then (if t222 = t225 then (if t223 = t226 then ((entry_Leave.f kj16 a0 a1).bind fun t227 => ((calamusref25_Leave.f kj16 a0 a1).bind fun t228 => (if t227 = t228 then ((calamuslaw25_lives.f).bind fun t229 => (some t229)) else (some false)))) else (some false)) else (some false)) else (some false)) = some r := H
                have A24 := Aside0.mk A240
                clear A240
                by_cases c25 : t221.toList = t224.toList
                · rw [if_pos c25] at H
                  have c25b0 : (t221.toList == t224.toList) = true := beq_iff_eq.mpr c25
                  have c25b1 : (t221.toList != t224.toList) = false := bne_eq_false_iff_eq.mpr c25
                  clear c25
                  by_cases c26 : t222 = t225
                  · rw [if_pos c26] at H
                    have c26b0 : (t222 == t225) = true := beq_iff_eq.mpr c26
                    have c26b1 : (t222 != t225) = false := bne_eq_false_iff_eq.mpr c26
                    clear c26
                    by_cases c27 : t223 = t226
                    · rw [if_pos c27] at H
                      have c27b0 : (t223 == t226) = true := beq_iff_eq.mpr c27
                      have c27b1 : (t223 != t226) = false := bne_eq_false_iff_eq.mpr c27
                      clear c27
                      replace H := Option.bind_eq_some_iff.mp H
                      obtain ⟨t227, A280, H⟩ := H
                      replace H : ((calamusref25_Leave.f kj16 a0 a1).bind fun t228 => (if t227 = t228 then ((calamuslaw25_lives.f).bind fun t229 => (some t229)) else (some false))) = some r := H
                      have A28 := Aside0.mk A280
                      clear A280
                      replace H := Option.bind_eq_some_iff.mp H
                      obtain ⟨t228, A290, H⟩ := H
                      replace H : (if t227 = t228 then ((calamuslaw25_lives.f).bind fun t229 => (some t229)) else (some false)) = some r := H
                      have A29 := Aside0.mk A290
                      clear A290
                      by_cases c30 : t227 = t228
                      · rw [if_pos c30] at H
                        have c30b0 : (t227 == t228) = true := beq_iff_eq.mpr c30
                        have c30b1 : (t227 != t228) = false := bne_eq_false_iff_eq.mpr c30
                        clear c30
                        replace H := Option.bind_eq_some_iff.mp H
                        obtain ⟨t229, A310, H⟩ := H
                        replace H : (some t229) = some r := H
                        have A31 := Aside0.mk A310
                        clear A310
                        obtain rfl := Option.some.inj H
                        go_wp2_with (first | ((with_reducible refine gate_callee (f := 41) rfl ?_); refine goesL_ (some 79) rfl rfl Try.func41 (by kernel_rfl) rfl #[.string a0, .int .i64 a1, .int .i64 a2] rfl (by (try simp only [List.map_toArray, List.map_cons, List.map_nil]); first | done | rfl | (simp only [List.length_drop, List.length_take]; rfl)) ?_; (with_reducible refine (entry_Wipe.calls a0 a1 a2 t221 t222 t223 _ A23.out).mono ?_); rintro e w32 ⟨rfl, hb⟩; refine ⟨_, rfl, ?_⟩; have n0_ := Aside0.mk (below_step (by repeat (first | (with_reducible first | exact HB.out | apply below_alloc | apply pw_below_drewN | apply below_drew1) | exact HB.out)) hb); clear HB; have HB := n0_; clear n0_; (try clear hb); (try clear hb2); (try clear hk); (try clear hi)) | ((with_reducible refine gate_callee (f := 42) rfl ?_); refine goesL_ (some 87) rfl rfl Try.func42 (by kernel_rfl) rfl #[.string a0, .int .i64 a1, .int .i64 a2] rfl (by (try simp only [List.map_toArray, List.map_cons, List.map_nil]); first | done | rfl | (simp only [List.length_drop, List.length_take]; rfl)) ?_; (with_reducible refine (calamusref25_Wipe.calls kj16 a0 a1 a2 t224 t225 t226 _ A24.out).mono ?_); rintro e w33 ⟨rfl, hb⟩; refine ⟨_, rfl, ?_⟩; have n0_ := Aside0.mk (below_step (by repeat (first | (with_reducible first | exact HB.out | apply below_alloc | apply pw_below_drewN | apply below_drew1) | exact HB.out)) hb); clear HB; have HB := n0_; clear n0_; (try clear hb); (try clear hb2); (try clear hk); (try clear hi)) | (go_at_call 43; (with_reducible refine (entry_Leave.calls kj16 a0 a1 t227 _ A28.out).mono ?_); rintro e w34 ⟨rfl, hb⟩; have n0_ := Aside0.mk (below_step (by repeat (first | (with_reducible first | exact HB.out | apply below_alloc | apply pw_below_drewN | apply below_drew1) | exact HB.out)) hb); clear HB; have HB := n0_; clear n0_; (try clear hb); (try clear hb2); (try clear hk); (try clear hi)) | (go_at_call 44; (with_reducible refine (calamusref25_Leave.calls kj16 a0 a1 t228 _ A29.out).mono ?_); rintro e w35 ⟨rfl, hb⟩; have n0_ := Aside0.mk (below_step (by repeat (first | (with_reducible first | exact HB.out | apply below_alloc | apply pw_below_drewN | apply below_drew1) | exact HB.out)) hb); clear HB; have HB := n0_; clear n0_; (try clear hb); (try clear hb2); (try clear hk); (try clear hi)) | (go_at_call 14; (with_reducible refine (calamuslaw25_lives.calls  t229 _ A31.out).mono ?_); rintro e w36 ⟨rfl, hb⟩; have n0_ := Aside0.mk (below_step (by repeat (first | (with_reducible first | exact HB.out | apply below_alloc | apply pw_below_drewN | apply below_drew1) | exact HB.out)) hb); clear HB; have HB := n0_; clear n0_; (try clear hb); (try clear hb2); (try clear hk); (try clear hi)))
                        go_ret
                        exact ⟨by first | rfl | (simp [errW_none, errW_some] <;> rfl) | (simp [*, errW_none, errW_some] <;> rfl), by repeat (first | (with_reducible first | exact HB.out | apply below_alloc | apply pw_below_drewN | apply below_drew1) | exact HB.out)⟩
                      · rw [if_neg c30] at H
                        have c30b0 : (t227 == t228) = false := beq_eq_false_iff_ne.mpr c30
                        have c30b1 : (t227 != t228) = true := bne_iff_ne.mpr c30
                        obtain rfl := Option.some.inj H
                        go_wp2_with (first | ((with_reducible refine gate_callee (f := 41) rfl ?_); refine goesL_ (some 79) rfl rfl Try.func41 (by kernel_rfl) rfl #[.string a0, .int .i64 a1, .int .i64 a2] rfl (by (try simp only [List.map_toArray, List.map_cons, List.map_nil]); first | done | rfl | (simp only [List.length_drop, List.length_take]; rfl)) ?_; (with_reducible refine (entry_Wipe.calls a0 a1 a2 t221 t222 t223 _ A23.out).mono ?_); rintro e w37 ⟨rfl, hb⟩; refine ⟨_, rfl, ?_⟩; have n0_ := Aside0.mk (below_step (by repeat (first | (with_reducible first | exact HB.out | apply below_alloc | apply pw_below_drewN | apply below_drew1) | exact HB.out)) hb); clear HB; have HB := n0_; clear n0_; (try clear hb); (try clear hb2); (try clear hk); (try clear hi)) | ((with_reducible refine gate_callee (f := 42) rfl ?_); refine goesL_ (some 87) rfl rfl Try.func42 (by kernel_rfl) rfl #[.string a0, .int .i64 a1, .int .i64 a2] rfl (by (try simp only [List.map_toArray, List.map_cons, List.map_nil]); first | done | rfl | (simp only [List.length_drop, List.length_take]; rfl)) ?_; (with_reducible refine (calamusref25_Wipe.calls kj16 a0 a1 a2 t224 t225 t226 _ A24.out).mono ?_); rintro e w38 ⟨rfl, hb⟩; refine ⟨_, rfl, ?_⟩; have n0_ := Aside0.mk (below_step (by repeat (first | (with_reducible first | exact HB.out | apply below_alloc | apply pw_below_drewN | apply below_drew1) | exact HB.out)) hb); clear HB; have HB := n0_; clear n0_; (try clear hb); (try clear hb2); (try clear hk); (try clear hi)) | (go_at_call 43; (with_reducible refine (entry_Leave.calls kj16 a0 a1 t227 _ A28.out).mono ?_); rintro e w39 ⟨rfl, hb⟩; have n0_ := Aside0.mk (below_step (by repeat (first | (with_reducible first | exact HB.out | apply below_alloc | apply pw_below_drewN | apply below_drew1) | exact HB.out)) hb); clear HB; have HB := n0_; clear n0_; (try clear hb); (try clear hb2); (try clear hk); (try clear hi)) | (go_at_call 44; (with_reducible refine (calamusref25_Leave.calls kj16 a0 a1 t228 _ A29.out).mono ?_); rintro e w40 ⟨rfl, hb⟩; have n0_ := Aside0.mk (below_step (by repeat (first | (with_reducible first | exact HB.out | apply below_alloc | apply pw_below_drewN | apply below_drew1) | exact HB.out)) hb); clear HB; have HB := n0_; clear n0_; (try clear hb); (try clear hb2); (try clear hk); (try clear hi)))
                        go_ret
                        exact ⟨by first | rfl | (simp [errW_none, errW_some] <;> rfl) | (simp [*, errW_none, errW_some] <;> rfl), by repeat (first | (with_reducible first | exact HB.out | apply below_alloc | apply pw_below_drewN | apply below_drew1) | exact HB.out)⟩
                    · rw [if_neg c27] at H
                      have c27b0 : (t223 == t226) = false := beq_eq_false_iff_ne.mpr c27
                      have c27b1 : (t223 != t226) = true := bne_iff_ne.mpr c27
                      obtain rfl := Option.some.inj H
                      go_wp2_with (first | ((with_reducible refine gate_callee (f := 41) rfl ?_); refine goesL_ (some 79) rfl rfl Try.func41 (by kernel_rfl) rfl #[.string a0, .int .i64 a1, .int .i64 a2] rfl (by (try simp only [List.map_toArray, List.map_cons, List.map_nil]); first | done | rfl | (simp only [List.length_drop, List.length_take]; rfl)) ?_; (with_reducible refine (entry_Wipe.calls a0 a1 a2 t221 t222 t223 _ A23.out).mono ?_); rintro e w41 ⟨rfl, hb⟩; refine ⟨_, rfl, ?_⟩; have n0_ := Aside0.mk (below_step (by repeat (first | (with_reducible first | exact HB.out | apply below_alloc | apply pw_below_drewN | apply below_drew1) | exact HB.out)) hb); clear HB; have HB := n0_; clear n0_; (try clear hb); (try clear hb2); (try clear hk); (try clear hi)) | ((with_reducible refine gate_callee (f := 42) rfl ?_); refine goesL_ (some 87) rfl rfl Try.func42 (by kernel_rfl) rfl #[.string a0, .int .i64 a1, .int .i64 a2] rfl (by (try simp only [List.map_toArray, List.map_cons, List.map_nil]); first | done | rfl | (simp only [List.length_drop, List.length_take]; rfl)) ?_; (with_reducible refine (calamusref25_Wipe.calls kj16 a0 a1 a2 t224 t225 t226 _ A24.out).mono ?_); rintro e w42 ⟨rfl, hb⟩; refine ⟨_, rfl, ?_⟩; have n0_ := Aside0.mk (below_step (by repeat (first | (with_reducible first | exact HB.out | apply below_alloc | apply pw_below_drewN | apply below_drew1) | exact HB.out)) hb); clear HB; have HB := n0_; clear n0_; (try clear hb); (try clear hb2); (try clear hk); (try clear hi)))
                      go_ret
                      exact ⟨by first | rfl | (simp [errW_none, errW_some] <;> rfl) | (simp [*, errW_none, errW_some] <;> rfl), by repeat (first | (with_reducible first | exact HB.out | apply below_alloc | apply pw_below_drewN | apply below_drew1) | exact HB.out)⟩
                  · rw [if_neg c26] at H
                    have c26b0 : (t222 == t225) = false := beq_eq_false_iff_ne.mpr c26
                    have c26b1 : (t222 != t225) = true := bne_iff_ne.mpr c26
                    obtain rfl := Option.some.inj H
                    go_wp2_with (first | ((with_reducible refine gate_callee (f := 41) rfl ?_); refine goesL_ (some 79) rfl rfl Try.func41 (by kernel_rfl) rfl #[.string a0, .int .i64 a1, .int .i64 a2] rfl (by (try simp only [List.map_toArray, List.map_cons, List.map_nil]); first | done | rfl | (simp only [List.length_drop, List.length_take]; rfl)) ?_; (with_reducible refine (entry_Wipe.calls a0 a1 a2 t221 t222 t223 _ A23.out).mono ?_); rintro e w43 ⟨rfl, hb⟩; refine ⟨_, rfl, ?_⟩; have n0_ := Aside0.mk (below_step (by repeat (first | (with_reducible first | exact HB.out | apply below_alloc | apply pw_below_drewN | apply below_drew1) | exact HB.out)) hb); clear HB; have HB := n0_; clear n0_; (try clear hb); (try clear hb2); (try clear hk); (try clear hi)) | ((with_reducible refine gate_callee (f := 42) rfl ?_); refine goesL_ (some 87) rfl rfl Try.func42 (by kernel_rfl) rfl #[.string a0, .int .i64 a1, .int .i64 a2] rfl (by (try simp only [List.map_toArray, List.map_cons, List.map_nil]); first | done | rfl | (simp only [List.length_drop, List.length_take]; rfl)) ?_; (with_reducible refine (calamusref25_Wipe.calls kj16 a0 a1 a2 t224 t225 t226 _ A24.out).mono ?_); rintro e w44 ⟨rfl, hb⟩; refine ⟨_, rfl, ?_⟩; have n0_ := Aside0.mk (below_step (by repeat (first | (with_reducible first | exact HB.out | apply below_alloc | apply pw_below_drewN | apply below_drew1) | exact HB.out)) hb); clear HB; have HB := n0_; clear n0_; (try clear hb); (try clear hb2); (try clear hk); (try clear hi)))
                    go_ret
                    exact ⟨by first | rfl | (simp [errW_none, errW_some] <;> rfl) | (simp [*, errW_none, errW_some] <;> rfl), by repeat (first | (with_reducible first | exact HB.out | apply below_alloc | apply pw_below_drewN | apply below_drew1) | exact HB.out)⟩
                · rw [if_neg c25] at H
                  have c25b0 : (t221.toList == t224.toList) = false := beq_eq_false_iff_ne.mpr c25
                  have c25b1 : (t221.toList != t224.toList) = true := bne_iff_ne.mpr c25
                  obtain rfl := Option.some.inj H
                  go_wp2_with (first | ((with_reducible refine gate_callee (f := 41) rfl ?_); refine goesL_ (some 79) rfl rfl Try.func41 (by kernel_rfl) rfl #[.string a0, .int .i64 a1, .int .i64 a2] rfl (by (try simp only [List.map_toArray, List.map_cons, List.map_nil]); first | done | rfl | (simp only [List.length_drop, List.length_take]; rfl)) ?_; (with_reducible refine (entry_Wipe.calls a0 a1 a2 t221 t222 t223 _ A23.out).mono ?_); rintro e w45 ⟨rfl, hb⟩; refine ⟨_, rfl, ?_⟩; have n0_ := Aside0.mk (below_step (by repeat (first | (with_reducible first | exact HB.out | apply below_alloc | apply pw_below_drewN | apply below_drew1) | exact HB.out)) hb); clear HB; have HB := n0_; clear n0_; (try clear hb); (try clear hb2); (try clear hk); (try clear hi)) | ((with_reducible refine gate_callee (f := 42) rfl ?_); refine goesL_ (some 87) rfl rfl Try.func42 (by kernel_rfl) rfl #[.string a0, .int .i64 a1, .int .i64 a2] rfl (by (try simp only [List.map_toArray, List.map_cons, List.map_nil]); first | done | rfl | (simp only [List.length_drop, List.length_take]; rfl)) ?_; (with_reducible refine (calamusref25_Wipe.calls kj16 a0 a1 a2 t224 t225 t226 _ A24.out).mono ?_); rintro e w46 ⟨rfl, hb⟩; refine ⟨_, rfl, ?_⟩; have n0_ := Aside0.mk (below_step (by repeat (first | (with_reducible first | exact HB.out | apply below_alloc | apply pw_below_drewN | apply below_drew1) | exact HB.out)) hb); clear HB; have HB := n0_; clear n0_; (try clear hb); (try clear hb2); (try clear hk); (try clear hi)))
                  go_ret
                  exact ⟨by first | rfl | (simp [errW_none, errW_some] <;> rfl) | (simp [*, errW_none, errW_some] <;> rfl), by repeat (first | (with_reducible first | exact HB.out | apply below_alloc | apply pw_below_drewN | apply below_drew1) | exact HB.out)⟩

/-- THE ONE PURE STATEMENT of calamuslaw25_EntryCuts: yours. -/
def calamuslaw25_EntryCuts.Pure : Prop := ∀ (a0 : ByteArray) (a1 : Int) (a2 : Int), a0.size ≤ 140737488351232 → (Lit.int .i64 a1).wf = true → (Lit.int .i64 a2).wf = true → ∃ k, calamuslaw25_EntryCuts.f k a0 a1 a2 = some true
theorem calamuslaw25_EntryCuts.walk (P : calamuslaw25_EntryCuts.Pure) (a0 : ByteArray) (a1 : Int) (a2 : Int) (w : World) (w0 : a0.size ≤ 140737488351232) (w1 : (Lit.int .i64 a1).wf = true) (w2 : (Lit.int .i64 a2).wf = true) :
    Calls Try.prog 10 #[.string a0, .int .i64 a1, .int .i64 a2] w fun e w' => e = .returned (.bool true) ∧ Below w.heap.size w w' := by
  obtain ⟨k, h⟩ := P a0 a1 a2 w0 w1 w2
  refine (calamuslaw25_EntryCuts.calls k a0 a1 a2 true w h).mono ?_
  rintro e w' ⟨rfl, hd⟩
  exact ⟨rfl, hd⟩

end Go.Proofs.Ytnmcdkekflnekaa.QE
/- The statement EntryCuts in plain words. -/
namespace Go.Proofs.Ytnmcdkekflnekaa
open Go.RowKit
set_option linter.unusedVariables false
set_option linter.unusedSimpArgs false
open Go.RowKit Go.Proofs.Ytnmcdkekflnekaa.QE Go.Proofs.YtnmcdkekflnekaaW.PrintWords Go.Proofs.YtnmcdkekflnekaaW.PrintMore
theorem kind_cls (l : List UInt8) (p : Int) : kindI l p false = clsI l p := rfl
/-- A line feed ahead of a place is the sign ahead of it. -/
theorem fed_prev {l : List UInt8} {k : Nat} (h : placeB l k = true) (hk : 0 < k) : (fedB l k = true ↔ byL l (prevFrom l (k - 1)) = 10) ∧ (fedB l k = true → prevFrom l (k - 1) = k - 1) := by
  obtain ⟨_, hle, hv⟩ := valid_at h
  obtain ⟨h1, h2, h3⟩ := prev_gap hv (k - 1) (by omega)
  have a1 : fedB l k = true → prevFrom l (k - 1) = k - 1 := by
    intro hf
    have hb : byL l (k - 1) = 10 := by unfold fedB at hf; simp at hf; exact hf.2
    have := (ten_place hv (by omega) hb).1
    exact Nat.le_antisymm h1 (prev_ge h this (by omega))
  refine ⟨⟨fun hf => ?_, fun hb => ?_⟩, a1⟩
  · rw [a1 hf]; unfold fedB at hf; simp at hf; exact hf.2
  · have h4 := (ten_place hv (by omega) hb).2
    have e : prevFrom l (k - 1) = k - 1 := by
      rcases Nat.lt_or_ge (prevFrom l (k - 1)) (k - 1) with h | h
      · rw [h3 (prevFrom l (k - 1) + 1) (by omega) (by omega)] at h4; cases h4
      · omega
    rw [e] at hb
    unfold fedB; simp; exact ⟨hk, hb⟩
theorem cls_four {l : List UInt8} {k : Nat} (h : placeB l k = true) (hk : k < l.length) : clsI l k = 4 ↔ byL l k = 10 := by
  unfold clsI; rw [if_pos ⟨h, by omega⟩, Int.toNat_natCast]
  unfold ofB
  split
  · simp [*]
  · split
    · simp [*]
    · split <;> simp [*]
theorem fed_cls {l : List UInt8} {k : Nat} (h : placeB l k = true) (hk : 0 < k) : fedB l k = true ↔ clsI l (prevI l k) = 4 := by
  obtain ⟨_, hle, hv⟩ := valid_at h
  obtain ⟨h1, h2, h3⟩ := prev_gap hv (k - 1) (by omega)
  rw [(fed_prev h hk).1, prevI_at h hk, cls_four h2 (by omega)]
theorem fed_lst {l : List UInt8} {k : Nat} (hk : 0 < k) : fedB l k = true ↔ lst l k = k := by
  obtain ⟨j, rfl⟩ : ∃ j, k = j + 1 := ⟨k - 1, by omega⟩
  unfold fedB; rw [lst]
  have := lst_le l j
  split <;> simp_all <;> omega
theorem wbF_ge {l : List UInt8} {f : Nat} {pass : Int → Bool} (hf : placeB l f = true) : ∀ (n k : Nat), placeB l k = true → f ≤ k → f ≤ wbF l f pass n k
  | 0, _, _, h => h
  | n + 1, k, hp, h => by
    unfold wbF
    split
    · split
      · rw [prevI_at hp (by omega), Int.toNat_natCast]
        obtain ⟨_, hle, hv⟩ := valid_at hp
        exact wbF_ge hf n _ (prev_gap hv (k - 1) (by omega)).2.1 (prev_ge hp hf (by omega))
      · exact h
    · exact h
/-- The document's word for why nothing is taken out. -/
def wrgI (l : List UInt8) (p f : Int) : Int := if placeB l p = true ∧ placeB l f = true then (if p ≤ f then 10 else 0) else 1
theorem wrong_ev (t : ByteArray) (p f : Int) (ht : t.size ≤ 1000000) : Ev (fun k => calamusref25_wrong.f k t p f) (wrgI (ls t) p f) := by
  unfold calamusref25_wrong.f wrgI
  rw [calamusref03_Place.eq t p (by omega), calamusref03_Place.eq t f (by omega)]
  simp only [Option.bind_some]
  rcases Bool.eq_false_or_eq_true (placeB (ls t) p) with hp | hp
  · refine Ev.pos hp ?_
    rcases Bool.eq_false_or_eq_true (placeB (ls t) f) with hf | hf
    · rw [if_pos (show placeB (ls t) p = true ∧ placeB (ls t) f = true from ⟨hp, hf⟩), hf]
      refine Ev.step (fun _ => (by rw [calamusref25_wrong.j0])) ?_
      refine Ev.neg (by decide) (Ev.ite (fun h => ?_) (fun h => ?_))
      · rw [if_pos h]; exact Ev.ret rfl
      · rw [if_neg h]; exact Ev.ret rfl
    · rw [if_neg (show ¬ (placeB (ls t) p = true ∧ placeB (ls t) f = true) by rw [hf]; simp), hf]
      refine Ev.step (fun _ => (by rw [calamusref25_wrong.j0])) ?_
      exact Ev.pos rfl (Ev.ret rfl)
  · rw [if_neg (show ¬ (placeB (ls t) p = true ∧ placeB (ls t) f = true) by rw [hp]; simp)]
    refine Ev.neg (by rw [hp]; decide) ?_
    refine Ev.step (fun _ => (by rw [calamusref25_wrong.j0])) ?_
    exact Ev.pos rfl (Ev.ret rfl)
theorem wout (t : ByteArray) (q p : Nat) (ht : t.size ≤ 1000000) (hq : q ≤ t.size) (hp : p ≤ t.size) : calamusref25_without.f t q p = some (cutS t p q q, (q : Int), 0) := by
  unfold calamusref25_without.f cutS
  rw [if_pos (show (0 : Int) ≤ q by omega), if_pos (show (q : Int) ≤ t.size by omega), if_pos (show (0 : Int) ≤ p by omega), if_pos (show (p : Int) ≤ t.size by omega), if_pos, Nat.max_self]
  · rfl
  · simp only [ByteArray.size_extract]; omega
theorem cutS_max (t : ByteArray) (p f q : Nat) : cutS t p f q = cutS t p (max f q) (max f q) := by unfold cutS; rw [Nat.max_self]
/-- Where all three are right or wrong alike. -/
theorem cut_no {t : ByteArray} {p f Q : Int} (h : wrgI (ls t) p f ≠ 0) : cutF t p f Q = (⟨#[]⟩, 0, wrgI (ls t) p f) := by
  unfold wrgI cutF at *
  split at h
  · rename_i hc
    rw [if_pos hc, if_pos hc]
    split at h
    · rename_i hd; rw [if_pos hd, if_pos hd]
    · exact absurd rfl h
  · rename_i hc
    rw [if_neg hc, if_neg hc]
theorem cut_yes {t : ByteArray} {p f : Int} (h : wrgI (ls t) p f = 0) : ∃ a b : Nat, p = a ∧ f = b ∧ placeB (ls t) a = true ∧ placeB (ls t) b = true ∧ b < a ∧ a ≤ t.size := by
  unfold wrgI at h
  split at h
  · rename_i hc
    obtain ⟨a, rfl, ha⟩ := place_nat hc.1
    obtain ⟨b, rfl, hb⟩ := place_nat hc.2
    rw [ls_len] at ha
    split at h
    · cases h
    · exact ⟨a, b, rfl, rfl, hc.1, hc.2, by omega, ha⟩
  · cases h
theorem rback_ev (t : ByteArray) (p f : Int) (ht : t.size ≤ 1000000) : Ev (fun k => calamusref25_Back.f k t p f) (cutF t p f (backQ (ls t) p f)) := by
  unfold calamusref25_Back.f
  refine Ev.bind (wrong_ev t p f ht) (Ev.ite (fun h => ?_) (fun h => ?_))
  · obtain ⟨a, b, rfl, rfl, ha, hb, hlt, hle⟩ := cut_yes h
    rw [calamusref03_Prev.eq t a (by omega), prevI_at ha (by omega)]
    have hg := prev_ge ha hb hlt
    obtain ⟨_, _, hv⟩ := valid_at ha
    have := (prev_gap hv (a - 1) (by rw [ls_len]; omega)).1
    simp only [Option.bind_some]
    unfold backQ
    rw [prevI_at ha (by omega), cutF_ok ha hb hlt, cutS_max, Nat.max_eq_right hg]
    rw [wout t _ a ht (by omega) hle]
    exact Ev.ret rfl
  · rw [cut_no h]; exact Ev.ret rfl
theorem rchop_l1 (t : ByteArray) (a b : Nat) (c : Int) (hc : c ≠ 4) (ht : t.size ≤ 1000000) (hb : placeB (ls t) b = true) (ha : a ≤ t.size) : ∀ (n k : Nat), k < n → placeB (ls t) k = true → b ≤ k → k ≤ a →
    Ev (fun m => calamusref25_Chop.l1 m t a b k c) (cutS t a (wbF (ls t) b (fun q => clsI (ls t) q == c) n k) (wbF (ls t) b (fun q => clsI (ls t) q == c) n k), ((wbF (ls t) b (fun q => clsI (ls t) q == c) n k : Nat) : Int), 0) := by
  intro n
  induction n with
  | zero => intro k h; omega
  | succ n ih =>
    intro k hk hp hbk hka
    refine Ev.step (fun _ => (by rw [calamusref25_Chop.l1])) ?_
    refine Ev.neg hc (Ev.ite (fun h => ?_) (fun h => ?_))
    · obtain ⟨_, _, hv⟩ := valid_at hp
      obtain ⟨g1, g2, g3⟩ := prev_gap hv (k - 1) (by rw [ls_len]; omega)
      rw [calamusref03_Prev.eq t k (by omega), prevI_at hp (by omega)]
      simp only [Option.bind_some]
      rw [calamusref05_Of.eq t _ false (by omega), kind_cls]
      simp only [Option.bind_some]
      have e : wbF (ls t) b (fun q => clsI (ls t) q == c) (n + 1) k = if clsI (ls t) (prevFrom (ls t) (k - 1) : Nat) = c then wbF (ls t) b (fun q => clsI (ls t) q == c) n (prevFrom (ls t) (k - 1)) else k := by
        rw [wbF, if_pos (show b < k by omega), prevI_at hp (by omega), Int.toNat_natCast]; simp
      rw [e]
      refine Ev.ite (fun h2 => ?_) (fun h2 => ?_)
      · rw [if_pos h2]; exact ih _ (by omega) g2 (prev_ge hp hb (by omega)) (by omega)
      · rw [if_neg h2, wout t k a ht (by omega) ha]; exact Ev.ret rfl
    · have e : wbF (ls t) b (fun q => clsI (ls t) q == c) (n + 1) k = k := wbF_le (by omega)
      rw [e, wout t k a ht (by omega) ha]
      exact Ev.ret rfl
theorem rchop_j1 (t : ByteArray) (a b : Nat) (ht : t.size ≤ 1000000) (hb : placeB (ls t) b = true) (ha : a ≤ t.size) (k : Nat) (hp : placeB (ls t) k = true) (hbk : b ≤ k) (hka : k ≤ a) :
    Ev (fun m => calamusref25_Chop.j1 m t a b k) (let q := if k ≤ b ∨ fedB (ls t) k = true then k else wbF (ls t) b (fun q => clsI (ls t) q == clsI (ls t) (prevI (ls t) k)) (k + 1) k
      (cutS t a q q, (q : Int), 0)) := by
  refine Ev.step (fun _ => (by rw [calamusref25_Chop.j1])) ?_
  refine Ev.ite (fun h => ?_) (fun h => ?_)
  · obtain ⟨_, _, hv⟩ := valid_at hp
    obtain ⟨g1, g2, g3⟩ := prev_gap hv (k - 1) (by rw [ls_len]; omega)
    rw [calamusref03_Prev.eq t k (by omega)]
    simp only [Option.bind_some]
    rw [calamusref05_Of.eq t _ false (by omega), kind_cls]
    simp only [Option.bind_some]
    by_cases hf : fedB (ls t) k = true
    · rw [if_pos (show k ≤ b ∨ fedB (ls t) k = true from .inr hf)]
      refine Ev.step (fun _ => (by rw [calamusref25_Chop.l1])) ?_
      refine Ev.pos ((fed_cls hp (by omega)).1 hf) ?_
      rw [wout t k a ht (by omega) ha]; exact Ev.ret rfl
    · rw [if_neg (show ¬ (k ≤ b ∨ fedB (ls t) k = true) by simp only [not_or]; exact ⟨by omega, hf⟩)]
      exact rchop_l1 t a b _ (fun h => hf ((fed_cls hp (by omega)).2 h)) ht hb ha (k + 1) k (by omega) hp hbk hka
  · rw [if_pos (show k ≤ b ∨ fedB (ls t) k = true from .inl (by omega)), wout t k a ht (by omega) ha]
    exact Ev.ret rfl
theorem rchop_l0 (t : ByteArray) (a b : Nat) (ht : t.size ≤ 1000000) (hb : placeB (ls t) b = true) (ha : a ≤ t.size) : ∀ (n k : Nat), k < n → placeB (ls t) k = true → b ≤ k → k ≤ a → ∀ R,
    (∀ z, wbF (ls t) b (fun q => clsI (ls t) q == 1) n k = z → Ev (fun m => calamusref25_Chop.j1 m t a b z) R) → Ev (fun m => calamusref25_Chop.l0 m t a b k) R := by
  intro n
  induction n with
  | zero => intro k h; omega
  | succ n ih =>
    intro k hk hp hbk hka R hR
    refine Ev.step (fun _ => (by rw [calamusref25_Chop.l0])) ?_
    refine Ev.ite (fun h => ?_) (fun h => ?_)
    · obtain ⟨_, _, hv⟩ := valid_at hp
      obtain ⟨g1, g2, g3⟩ := prev_gap hv (k - 1) (by rw [ls_len]; omega)
      rw [calamusref03_Prev.eq t k (by omega), prevI_at hp (by omega)]
      simp only [Option.bind_some]
      rw [calamusref05_Of.eq t _ false (by omega), kind_cls]
      simp only [Option.bind_some]
      have e : wbF (ls t) b (fun q => clsI (ls t) q == 1) (n + 1) k = if clsI (ls t) (prevFrom (ls t) (k - 1) : Nat) = 1 then wbF (ls t) b (fun q => clsI (ls t) q == 1) n (prevFrom (ls t) (k - 1)) else k := by
        rw [wbF, if_pos (show b < k by omega), prevI_at hp (by omega), Int.toNat_natCast]; simp
      rw [e] at hR
      refine Ev.ite (fun h2 => ?_) (fun h2 => ?_)
      · rw [if_pos h2] at hR; exact ih _ (by omega) g2 (prev_ge hp hb (by omega)) (by omega) R hR
      · rw [if_neg h2] at hR; exact hR k rfl
    · have e : wbF (ls t) b (fun q => clsI (ls t) q == 1) (n + 1) k = k := wbF_le (by omega)
      rw [e] at hR
      exact hR k rfl
theorem chopQ_ge {l : List UInt8} {p f : Nat} (hp : placeB l p = true) (hf : placeB l f = true) (h : f < p) : f ≤ chopQ l p f := by
  have h1 := wbF_place (l := l) (f := f) (pass := fun q => clsI l q == 1) (p + 1) p hp
  have h2 := wbF_ge (l := l) (pass := fun q => clsI l q == 1) hf (p + 1) p hp (by omega)
  unfold chopQ
  split
  · omega
  · split
    · exact h2
    · exact wbF_ge hf _ _ h1.1 h2
theorem rchop_ev (t : ByteArray) (p f : Int) (ht : t.size ≤ 1000000) : Ev (fun k => calamusref25_Chop.f k t p f) (cutF t p f (chopI (ls t) p f)) := by
  unfold calamusref25_Chop.f
  refine Ev.bind (wrong_ev t p f ht) (Ev.ite (fun h => ?_) (fun h => ?_))
  · obtain ⟨a, b, rfl, rfl, ha, hb, hlt, hle⟩ := cut_yes h
    have hge := chopQ_ge ha hb hlt
    have ec : cutF t a b (chopI (ls t) a b) = (cutS t a (chopQ (ls t) a b) (chopQ (ls t) a b), ((chopQ (ls t) a b : Nat) : Int), 0) := by
      unfold chopI
      rw [Int.toNat_natCast, Int.toNat_natCast, cutF_ok ha hb hlt, cutS_max, Nat.max_eq_right hge]
    rw [ec, calamusref03_Prev.eq t a (by omega), prevI_at ha (by omega)]
    obtain ⟨_, _, hv⟩ := valid_at ha
    obtain ⟨g1, g2, g3⟩ := prev_gap hv (a - 1) (by rw [ls_len]; omega)
    simp only [Option.bind_some]
    rw [bt_nat t _ (show prevFrom (ls t) (a - 1) < t.size by omega)]
    refine Ev.pos (by omega) (Ev.pos (by omega) (Ev.ite (fun h2 => ?_) (fun h2 => ?_)))
    · have hf := (fed_prev ha (by omega)).1.2 h2
      have e : chopQ (ls t) a b = prevFrom (ls t) (a - 1) := by unfold chopQ; rw [if_pos hf, (fed_prev ha (by omega)).2 hf]
      rw [e, wout t _ a ht (by omega) hle]; exact Ev.ret rfl
    · have hf : ¬ fedB (ls t) a = true := fun h => h2 ((fed_prev ha (by omega)).1.1 h)
      refine rchop_l0 t a b ht hb hle (a + 1) a (by omega) ha (by omega) (Nat.le_refl _) _ (fun z hz => ?_)
      have hp1 := wbF_place (l := ls t) (f := b) (pass := fun q => clsI (ls t) q == 1) (a + 1) a ha
      have hp2 := wbF_ge (l := ls t) (pass := fun q => clsI (ls t) q == 1) hb (a + 1) a ha (by omega)
      rw [hz] at hp1 hp2
      have := rchop_j1 t a b ht hb hle z hp1.1 hp2 hp1.2
      unfold chopQ
      rw [if_neg hf, hz]
      exact this
  · rw [cut_no h]; exact Ev.ret rfl
theorem rwipe_ev (t : ByteArray) (p f : Int) (ht : t.size ≤ 1000000) : Ev (fun k => calamusref25_Wipe.f k t p f) (cutF t p f (wipeI (ls t) p f)) := by
  unfold calamusref25_Wipe.f
  refine Ev.bind (wrong_ev t p f ht) (Ev.ite (fun h => ?_) (fun h => ?_))
  · obtain ⟨a, b, rfl, rfl, ha, hb, hlt, hle⟩ := cut_yes h
    obtain ⟨_, hl, hv⟩ := valid_at ha
    obtain ⟨-, h2, -⟩ := start_of hl hv
    rw [calamusref04_Of.eq t a (by omega)]
    simp only [Option.bind_some]
    rw [calamusref04_Start.eq t _ (by omega), h2]
    simp only [Option.bind_some]
    have hll := lst_le (ls t) a
    have key : ∀ q : Nat, wipeI (ls t) a b = q → cutF t a b (wipeI (ls t) a b) = (cutS t a (max b q) (max b q), ((max b q : Nat) : Int), 0) := by
      intro q hq
      rw [hq, cutF_ok ha hb hlt, cutS_max]
    rw [w64 (n := (a : Int) - 1) (by omega) (by omega)]
    refine Ev.ite (fun h3 => ?_) (fun h3 => ?_)
    · have hf := (fed_lst (l := ls t) (show 0 < a by omega)).2 (by omega)
      have hq : wipeI (ls t) a b = (a - 1 : Nat) := by unfold wipeI wipeQ; rw [Int.toNat_natCast, if_pos hf]; omega
      rw [key _ hq, show (a : Int) - 1 = ((a - 1 : Nat) : Int) by omega]
      refine Ev.ite (fun h4 => ?_) (fun h4 => ?_)
      · rw [wout t b a ht (by omega) hle, Nat.max_eq_left (show a - 1 ≤ b by omega)]; exact Ev.ret rfl
      · rw [wout t (a - 1) a ht (by omega) hle, Nat.max_eq_right (show b ≤ a - 1 by omega)]; exact Ev.ret rfl
    · have hf : ¬ fedB (ls t) a = true := fun h => h3 (by rw [(fed_lst (l := ls t) (show 0 < a by omega)).1 h])
      have hq : wipeI (ls t) a b = (lst (ls t) a : Nat) := by unfold wipeI wipeQ; rw [Int.toNat_natCast, if_neg hf, h2]
      rw [key _ hq]
      refine Ev.ite (fun h4 => ?_) (fun h4 => ?_)
      · rw [wout t b a ht (by omega) hle, Nat.max_eq_left (show lst (ls t) a ≤ b by omega)]; exact Ev.ret rfl
      · rw [wout t _ a ht (by omega) hle, Nat.max_eq_right (show b ≤ lst (ls t) a by omega)]; exact Ev.ret rfl
  · rw [cut_no h]; exact Ev.ret rfl
theorem up_len {l : List UInt8} {p : Nat} (hp : p ≤ l.length) : (upL l p).length = p - lst l p := by
  unfold upL; have := lst_le l p; rw [List.length_take, List.length_drop]; omega
theorem valid_cnt {l : List UInt8} (hv : validL l = true) : 0 < cntL l ↔ l ≠ [] := by
  constructor
  · rintro h rfl; simp [cntL] at h
  · intro h
    cases l with
    | nil => exact absurd rfl h
    | cons b r =>
      have := valid_first hv (by simp)
      unfold cntL byL at *
      simp at this ⊢
      exact .inl (by simpa using this)
theorem col_pos {l : List UInt8} {p : Nat} (hp : placeB l p = true) : colI l p > 0 ↔ lst l p < p := by
  obtain ⟨_, hle, hv⟩ := valid_at hp
  unfold colI; rw [if_pos hp, Int.toNat_natCast]
  have hvu : validL (upL l p) = true := row_valid (lst_le l p) (lst_place hv p hle) hp
  unfold countI; rw [if_pos hvu]
  have h1 := valid_cnt hvu
  have h2 := up_len hle
  have h3 : upL l p ≠ [] ↔ (upL l p).length ≠ 0 := by rw [Ne, Ne, List.length_eq_zero_iff]
  have h4 := lst_le l p
  constructor
  · intro h; have := h3.1 (h1.1 (by omega)); omega
  · intro h; have := h1.2 (h3.2 (by omega)); omega
theorem lst_fed {l : List UInt8} {p : Nat} : lst l p < p ↔ 0 < p ∧ fedB l p = false := by
  have h0 := lst_le l p
  by_cases hp : 0 < p
  · have := fed_lst (l := l) hp
    cases hb : fedB l p <;> rw [hb] at this <;> simp at this <;> simp [hp] <;> omega
  · constructor
    · intro h; omega
    · intro h; omega
theorem leave_ev (t : ByteArray) (p : Int) (ht : t.size ≤ 1000000) : Ev (fun k => entry_Leave.f k t p) (if placeB (ls t) p = true then clampI (ls t) (if lst (ls t) p.toNat < p.toNat then prevI (ls t) p else p) else 0) := by
  unfold entry_Leave.f
  rw [utf_Place.eq t p (by omega)]
  simp only [Option.bind_some]
  refine Ev.ite (fun hp => ?_) (fun hp => ?_)
  · rw [if_pos hp]
    obtain ⟨a, rfl, ha⟩ := place_nat hp
    rw [ls_len] at ha
    have kt : lst (ls t) a < a → Ev (fun k => entry_Leave.j0 k t a true) (clampI (ls t) (if lst (ls t) (a : Int).toNat < (a : Int).toNat then prevI (ls t) a else a)) := by
      intro h
      rw [if_pos (show lst (ls t) (a : Int).toNat < (a : Int).toNat from h)]
      refine Ev.step (fun _ => (by rw [entry_Leave.j0])) ?_
      rw [utf_Prev.eq t a (by omega)]
      simp only [Option.bind_some]
      rw [line_Clamp.eq t _ (by omega)]
      exact Ev.pos trivial (Ev.ret rfl)
    have kf : ¬ lst (ls t) a < a → Ev (fun k => entry_Leave.j0 k t a false) (clampI (ls t) (if lst (ls t) (a : Int).toNat < (a : Int).toNat then prevI (ls t) a else a)) := by
      intro h
      rw [if_neg (show ¬ lst (ls t) (a : Int).toNat < (a : Int).toNat from h)]
      refine Ev.step (fun _ => (by rw [entry_Leave.j0])) ?_
      rw [line_Clamp.eq t _ (by omega)]
      exact Ev.neg (by decide) (Ev.ret rfl)
    refine Ev.ite (fun h => ?_) (fun h => ?_)
    · have hf : entry_fed.f t a = some (fedB (ls t) a) := by
        unfold entry_fed.f
        rw [w64 (n := (a : Int) - 1) (by omega) (by omega), if_pos h, if_pos (show (0 : Int) ≤ (a : Int) - 1 by omega), if_pos (show (a : Int) - 1 < t.size by omega), show (a : Int) - 1 = ((a - 1 : Nat) : Int) by omega, bt_nat t _ (by omega)]
        unfold fedB
        rw [show decide (0 < a) = true from decide_eq_true (by omega), Bool.true_and]
        rfl
      rw [hf]
      simp only [Option.bind_some]
      cases hb : fedB (ls t) a with
      | true => exact kf (fun h => by rw [(lst_fed.1 h).2] at hb; cases hb)
      | false => exact kt (lst_fed.2 ⟨by omega, hb⟩)
    · exact kf (by omega)
  · rw [if_neg hp]; exact Ev.ret rfl
theorem normal_val (t : ByteArray) (p : Int) (ht : t.size ≤ 1000000) : calamusref04_Normal.f t p = some (normalB (ls t) p) := by
  unfold calamusref04_Normal.f normalB
  rw [calamusref03_Place.eq t p (by omega)]
  simp only [Option.bind_some]
  split
  · rename_i hp
    obtain ⟨a, rfl, ha⟩ := place_nat hp
    obtain ⟨_, hl, hv⟩ := valid_at hp
    obtain ⟨h1, h2, e, h3, h4, h5⟩ := start_of hl hv
    have he := line_end hp h3
    rw [calamusref04_Of.eq t a (by omega)]
    simp only [Option.bind_some]
    rw [calamusref04_End.eq t _ (by omega), h3]
    simp only [Option.bind_some]
    rw [hp, Bool.true_and, Int.toNat_natCast]
    split
    · rename_i hlt
      have : endsB (ls t) a = false := by
        unfold endsB
        have := (end_gt hp h3).1.1 (by omega)
        rw [decide_eq_false (by omega), decide_eq_false this.2]; rfl
      rw [this]; rfl
    · rename_i hlt
      have hae : a = e := by omega
      subst hae
      have : endsB (ls t) a = true := by unfold endsB; simpa using he
      rw [this, calamusref04_Start.eq t _ (by omega), h2]
      simp only [Option.bind_some]
      congr 1
      rw [Bool.eq_iff_iff]; simp; omega
  · rename_i hp
    rw [show placeB (ls t) p = false by simpa using hp]; rfl
theorem rclamp_l0 (t : ByteArray) (ht : t.size ≤ 1000000) (hv : validL (ls t) = true) : ∀ k : Nat, k ≤ t.size → Ev (fun n => calamusref04_Clamp.l0 n t k) (if endsB (ls t) (downTo (ls t) k) = true ∧ lst (ls t) (downTo (ls t) k) < downTo (ls t) k then prevI (ls t) (downTo (ls t) k : Nat) else (downTo (ls t) k : Nat)) := by
  have hit : ∀ k : Nat, k ≤ t.size → placeB (ls t) k = true → Ev (fun n => calamusref04_Clamp.l0 n t k) (if endsB (ls t) k = true ∧ lst (ls t) k < k then prevI (ls t) (k : Nat) else (k : Nat)) := by
    intro k hk hp
    refine Ev.step (fun _ => (by rw [calamusref04_Clamp.l0])) ?_
    rw [calamusref03_Place.eq t k (by omega), normal_val t k ht, calamusref03_Prev.eq t k (by omega)]
    simp only [Option.bind_some]
    have hle := lst_le (ls t) k
    refine Ev.pos hp (Ev.ite (fun h => ?_) (fun h => ?_))
    · rw [if_neg (show ¬ (endsB (ls t) k = true ∧ lst (ls t) k < k) from fun hc => by
        unfold normalB at h; rw [hp, Int.toNat_natCast, hc.1] at h; simp at h; omega)]
      exact Ev.ret rfl
    · rw [if_pos (show endsB (ls t) k = true ∧ lst (ls t) k < k by
        unfold normalB at h; rw [hp, Int.toNat_natCast] at h; simp at h; exact ⟨h.1, by omega⟩)]
      exact Ev.ret rfl
  intro k
  induction k with
  | zero => intro hk; exact hit 0 hk (place_zero hv)
  | succ k ih =>
    intro hk
    rcases Bool.eq_false_or_eq_true (placeB (ls t) ((k + 1 : Nat) : Int)) with hp | hp
    · rw [downTo_hit hp]; exact hit (k + 1) hk hp
    · rw [downTo_miss hp]
      refine Ev.step (fun _ => (by rw [calamusref04_Clamp.l0])) ?_
      rw [calamusref03_Place.eq t _ (by omega)]
      simp only [Option.bind_some]
      rw [w64 (n := ((k + 1 : Nat) : Int) - 1) (by omega) (by omega), show ((k + 1 : Nat) : Int) - 1 = k by omega]
      exact Ev.neg (by rw [hp]; decide) (ih (by omega))
theorem rclamp_ev (t : ByteArray) (p : Int) (ht : t.size ≤ 1000000) : Ev (fun k => calamusref04_Clamp.f k t p) (clampI (ls t) p) := by
  unfold calamusref04_Clamp.f clampI
  rw [calamusref03_Valid.eq t (by omega)]
  simp only [Option.bind_some]
  refine Ev.ite (fun hv => ?_) (fun hv => ?_)
  · rw [if_pos hv]
    have key : ∀ x : Int, x = cutI (ls t) p → Ev (fun k => calamusref04_Clamp.j1 k t x) (let q := downTo (ls t) (cutI (ls t) p); if endsB (ls t) q = true ∧ lst (ls t) q < q then prevI (ls t) q else q) := by
      rintro x rfl
      refine Ev.step (fun _ => (by rw [calamusref04_Clamp.j1])) ?_
      exact rclamp_l0 t ht hv _ (by unfold cutI; rw [ls_len]; omega)
    refine Ev.ite (fun h => ?_) (fun h => ?_)
    · refine Ev.step (fun _ => (by rw [calamusref04_Clamp.j0])) ?_
      exact Ev.neg (by omega) (key _ (by unfold cutI; rw [ls_len]; omega))
    · refine Ev.step (fun _ => (by rw [calamusref04_Clamp.j0])) ?_
      refine Ev.ite (fun h2 => ?_) (fun h2 => ?_)
      · exact key _ (by unfold cutI; rw [ls_len]; omega)
      · exact key _ (by unfold cutI; rw [ls_len]; omega)
  · rw [if_neg hv]; exact Ev.ret rfl
theorem rleave_ev (t : ByteArray) (p : Int) (ht : t.size ≤ 1000000) : Ev (fun k => calamusref25_Leave.f k t p) (if placeB (ls t) p = true then clampI (ls t) (if lst (ls t) p.toNat < p.toNat then prevI (ls t) p else p) else 0) := by
  unfold calamusref25_Leave.f
  rw [calamusref03_Place.eq t p (by omega), calamusref04_Column.eq t p (by omega), calamusref03_Prev.eq t p (by omega)]
  simp only [Option.bind_some]
  refine Ev.ite (fun hp => ?_) (fun hp => ?_)
  · rw [if_pos hp]
    obtain ⟨a, rfl, ha⟩ := place_nat hp
    refine Ev.ite (fun h => ?_) (fun h => ?_)
    · rw [if_pos (show lst (ls t) (a : Int).toNat < (a : Int).toNat from (col_pos hp).1 h)]
      exact Ev.bind (rclamp_ev t _ ht) (Ev.ret rfl)
    · rw [if_neg (show ¬ lst (ls t) (a : Int).toNat < (a : Int).toNat from fun hc => h ((col_pos hp).2 hc))]
      exact Ev.bind (rclamp_ev t _ ht) (Ev.ret rfl)
  · rw [if_neg hp]; exact Ev.ret rfl
theorem chop_val {u : ByteArray} (hu : u.size ≤ 1000000) (a b : Int) : entry_Chop.f u a b = some (cutF u a b (chopI (ls u) a b)) := entry_Chop.eq u a b (by omega)
theorem wipe_val {u : ByteArray} (hu : u.size ≤ 1000000) (a b : Int) : entry_Wipe.f u a b = some (cutF u a b (wipeI (ls u) a b)) := entry_Wipe.eq u a b (by omega)
theorem EntryCuts_p (t : ByteArray) (p f : Int) (ht : t.size ≤ 140737488351232) (hp : -9223372036854775808 ≤ p ∧ p ≤ 9223372036854775807) (hf : -9223372036854775808 ≤ f ∧ f ≤ 9223372036854775807) : ∃ k, calamuslaw25_EntryCuts.f k t p f = some true := by
  refine Ev.at ?_
  unfold calamuslaw25_EntryCuts.f
  refine Ev.ite (fun h => lives25') (fun h => ?_)
  have hz : t.size ≤ 1000000 := by omega
  refine Ev.call (back_val hz p f) (Ev.bind (rback_ev t p f hz) (Ev.pos rfl (Ev.pos rfl ?_)))
  simp only [bne_self_eq_false]
  refine Ev.step (fun _ => (by rw [calamuslaw25_EntryCuts.j0])) ?_
  refine Ev.neg (by decide) (Ev.call (chop_val hz p f) (Ev.bind (rchop_ev t p f hz) (Ev.pos rfl (Ev.pos rfl ?_))))
  simp only [bne_self_eq_false]
  refine Ev.step (fun _ => (by rw [calamuslaw25_EntryCuts.j1])) ?_
  exact Ev.neg (by decide) (Ev.call (wipe_val hz p f) (Ev.bind (rwipe_ev t p f hz) (Ev.pos rfl (Ev.pos rfl (Ev.pos rfl (Ev.bind (leave_ev t p hz) (Ev.bind (rleave_ev t p hz) (Ev.pos rfl lives25'))))))))
end Go.Proofs.Ytnmcdkekflnekaa
