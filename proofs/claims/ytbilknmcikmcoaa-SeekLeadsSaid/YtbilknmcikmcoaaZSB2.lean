/- Joined by merge.py out of this work's texts: Q6, PSk, ML3, MV, PSl, Q5, PSd. -/
import Derived.Test.YtbilknmcikmcoaaZSB1
import Derived.Test.YtbilknmcikmcoaaZSB0
-- Printed by this work's xp.py out of the translation. Lean checks it.
namespace Go.Proofs.Ytbilknmcikmcoaa.Q
open Go.RowKit Go.Proofs.YtbilknmcikmcoaaW.PrintWords Go.Proofs.YtbilknmcikmcoaaW.PrintLast Go.Proofs.YtbilknmcikmcoaaW.PrintMore
attribute [local go_sem] max2_int min2_int max_two min_two max_three min_three max_four min_four   -- for this text's walks alone
set_option linter.unusedVariables false
set_option linter.unusedSimpArgs false

attribute [local go_sem high] eqA23


/-! ### seek_Turn -/
def seek_Turn.f (a0_0 : Int) (a0_1 : ByteArray) : Option (Int × ByteArray) := (seek_Right.f a0_0 a0_1).bind fun t182 => (if t182 = true then (some (Go.bits .xor .i64 a0_0 32, a0_1)) else (some (0, (⟨#[]⟩ : ByteArray))))
set_option maxHeartbeats 8000000 in
set_option maxRecDepth 100000 in
theorem seek_Turn.calls (a0_0 : Int) (a0_1 : ByteArray) (r1 : Int) (r2 : ByteArray) (w : World) (h : seek_Turn.f a0_0 a0_1 = some (r1, r2)) :
    Calls Try.prog 17 #[.agg #[.int .i64 a0_0, .string a0_1]] w fun e w' => e = .returned (.agg #[.int .i64 r1, .string r2]) ∧ Below w.heap.size w w' := by
  have hu23 := Try.underlying23
  have HB := Aside0.mk (Below.refl w.heap.size w)
  have H : ((seek_Right.f a0_0 a0_1).bind fun t182 => (if t182 = true then (some (Go.bits .xor .i64 a0_0 32, a0_1)) else (some (0, (⟨#[]⟩ : ByteArray))))) = some (r1, r2) := h
  clear h
  replace H := Option.bind_eq_some_iff.mp H
  obtain ⟨t182, A20, H⟩ := H
  replace H : (if t182 = true then (some (Go.bits .xor .i64 a0_0 32, a0_1)) else (some (0, (⟨#[]⟩ : ByteArray)))) = some (r1, r2) := H
  have A2 := Aside0.mk A20
  clear A20
  by_cases c3 : t182 = true
  · subst c3
    have H1 : (some (Go.bits .xor .i64 a0_0 32, a0_1)) = some (r1, r2) := by rw [if_pos rfl] at H; exact H
    clear H
    have H := H1
    clear H1
    simp only [Option.some.injEq, Prod.mk.injEq] at H
    obtain ⟨rfl, rfl⟩ := H
    go_enter Try.func17, Try.ntmps17
    go_wp2_with (first | ((with_reducible refine gate_dst (N := 1) rfl ?_); refine box_event ?hg (N := 1) ?hd (cs := #[.int .i64 a0_0, .string a0_1]) (t := 23) ?hr ?_; (case hd => rfl); (case hg => rfl); (case hr => first | (go_simp; done) | (go_simp; rfl)); intro gb180 hg w4 hbox hb; have n0_ := Aside0.mk (below_step (by repeat (first | (with_reducible first | exact HB.out | apply below_alloc | apply pw_below_drewN | apply below_drew1) | exact HB.out)) hb); have n1_ := Aside0.mk (hbox); have n2_ := Aside0.mk ((by rw [hg]; exact (below_size (by repeat (first | (with_reducible first | exact HB.out | apply below_alloc | apply pw_below_drewN | apply below_drew1) | exact HB.out))) : w.heap.size ≤ gb180)); have n3_ := Aside0.mk ((by rw [hg]; exact (below_size (by repeat (first | (with_reducible first | exact HB.out | apply below_alloc | apply pw_below_drewN | apply below_drew1) | exact HB.out))) : w.heap.size ≤ gb180)); clear HB; have HB := n0_; have BK180 := n1_; have GW180 := n2_; have GE180 := n3_; clear n0_ n1_ n2_ n3_; clear hb hbox hg) | ((with_reducible refine gate_dst (N := 2) rfl ?_); refine box_event ?hg (N := 2) ?hd (cs := #[.int .i64 0, .string (⟨#[]⟩ : ByteArray)]) (t := 23) ?hr ?_; (case hd => rfl); (case hg => rfl); (case hr => first | (go_simp; done) | (go_simp; rfl)); intro gb181 hg w5 hbox hb; have n0_ := Aside0.mk (blk_below (g := gb180) (o := .cells #[.int .i64 a0_0, .string a0_1] 23 (0, 0)) (by (with_reducible repeat (first | refine blk_drewN ?_ _ | refine blk_drew ?_ | refine blk_alloc ?_ _)); exact BK180.out) hb); have n1_ := Aside0.mk (below_step (by repeat (first | (with_reducible first | exact HB.out | apply below_alloc | apply pw_below_drewN | apply below_drew1 | refine below_set ?_ GE180.out) | exact HB.out)) hb); have n2_ := Aside0.mk (hbox); have n3_ := Aside0.mk ((by rw [hg]; exact (below_size (by repeat (first | (with_reducible first | exact HB.out | apply below_alloc | apply pw_below_drewN | apply below_drew1 | refine below_set ?_ GE180.out) | exact HB.out))) : w.heap.size ≤ gb181)); have n4_ := Aside0.mk ((by rw [hg]; exact (below_size (by repeat (first | (with_reducible first | exact HB.out | apply below_alloc | apply pw_below_drewN | apply below_drew1 | refine below_set ?_ GE180.out) | exact HB.out))) : w.heap.size ≤ gb181)); have n5_ := Aside0.mk ((by rw [hg]; exact Nat.ne_of_lt (blk_lt (g := gb180) (o := .cells #[.int .i64 a0_0, .string a0_1] 23 (0, 0)) (by (with_reducible repeat (first | refine blk_drewN ?_ _ | refine blk_drew ?_ | refine blk_alloc ?_ _)); exact BK180.out)) : gb180 ≠ gb181)); have n6_ := Aside0.mk ((by rw [hg]; exact Nat.ne_of_gt (blk_lt (g := gb180) (o := .cells #[.int .i64 a0_0, .string a0_1] 23 (0, 0)) (by (with_reducible repeat (first | refine blk_drewN ?_ _ | refine blk_drew ?_ | refine blk_alloc ?_ _)); exact BK180.out)) : gb181 ≠ gb180)); clear BK180; clear HB; have BK180 := n0_; have HB := n1_; have BK181 := n2_; have GW181 := n3_; have GE181 := n4_; have NB180_181 := n5_; have NB181_180 := n6_; clear n0_ n1_ n2_ n3_ n4_ n5_ n6_; clear hb hbox hg; have hnb6 := NB180_181.out; have hnc6 := NB181_180.out; have hcz7_0 : w5.cell? ⟨gb180, 0, none⟩ = some (.int .i64 a0_0) := (blk_cell BK180.out 0).trans rfl; have hcz7_1 : w5.cell? ⟨gb180, 1, none⟩ = some (.string a0_1) := (blk_cell BK180.out 1).trans rfl; have hfz7_0 := blk_frozen BK180.out 0; have hfz7_1 := blk_frozen BK180.out 1) | ((with_reducible refine gate_callee (f := 15) rfl ?_); refine goesL_ (some 4) rfl rfl Try.func15 (by kernel_rfl) rfl #[.agg #[.int .i64 a0_0, .string a0_1]] rfl (by (try simp only [List.map_toArray, List.map_cons, List.map_nil]); first | done | rfl | (simp only [List.length_drop, List.length_take]; rfl)) ?_; (with_reducible refine (seek_Right.calls a0_0 a0_1 true _ A2.out).mono ?_); rintro e w8 ⟨rfl, hb⟩; refine ⟨_, rfl, ?_⟩; have n0_ := Aside0.mk (blk_below (g := gb180) (o := .cells #[.int .i64 a0_0, .string a0_1] 23 (0, 0)) (by (with_reducible repeat (first | refine blk_drewN ?_ _ | refine blk_drew ?_ | refine blk_alloc ?_ _)); exact BK180.out) hb); have n1_ := Aside0.mk (blk_below (g := gb181) (o := .cells #[.int .i64 0, .string (⟨#[]⟩ : ByteArray)] 23 (0, 0)) (by (with_reducible repeat (first | refine blk_drewN ?_ _ | refine blk_drew ?_ | refine blk_alloc ?_ _)); exact BK181.out) hb); have n2_ := Aside0.mk (below_step (by repeat (first | (with_reducible first | exact HB.out | apply below_alloc | apply pw_below_drewN | apply below_drew1 | refine below_set ?_ GE180.out | refine below_set ?_ GE181.out) | exact HB.out)) hb); clear BK180; clear BK181; clear HB; have BK180 := n0_; have BK181 := n1_; have HB := n2_; clear n0_ n1_ n2_; (try clear hb); (try clear hb2); (try clear hk); (try clear hi); have hcz9_0 : w8.cell? ⟨gb180, 0, none⟩ = some (.int .i64 a0_0) := (blk_cell BK180.out 0).trans rfl; have hcz9_1 : w8.cell? ⟨gb180, 1, none⟩ = some (.string a0_1) := (blk_cell BK180.out 1).trans rfl; have hfz9_0 := blk_frozen BK180.out 0; have hfz9_1 := blk_frozen BK180.out 1; have hcz10_0 : w8.cell? ⟨gb181, 0, none⟩ = some (.int .i64 0) := (blk_cell BK181.out 0).trans rfl; have hcz10_1 : w8.cell? ⟨gb181, 1, none⟩ = some (.string (⟨#[]⟩ : ByteArray)) := (blk_cell BK181.out 1).trans rfl; have hfz10_0 := blk_frozen BK181.out 0; have hfz10_1 := blk_frozen BK181.out 1))
    refine bodyPost_ret (results_cell_row rfl _ _ gb181 23 #[.int .i64 (Go.bits .xor .i64 a0_0 32), .string a0_1] (0, 0) _ rfl (by (with_reducible repeat (first | refine blk_drewN ?_ _ | refine blk_drew ?_ | refine blk_alloc ?_ _)); refine blk_put (cs := #[.int .i64 (Go.bits .xor .i64 a0_0 32), .string (⟨#[]⟩ : ByteArray)]) ?_ 1 _ rfl; (with_reducible repeat (first | refine blk_drewN ?_ _ | refine blk_drew ?_ | refine blk_alloc ?_ _)); refine blk_put (cs := #[.int .i64 0, .string (⟨#[]⟩ : ByteArray)]) ?_ 0 _ rfl; (with_reducible repeat (first | refine blk_drewN ?_ _ | refine blk_drew ?_ | refine blk_alloc ?_ _)); refine blk_far ?_ NB181_180.out _; (with_reducible repeat (first | refine blk_drewN ?_ _ | refine blk_drew ?_ | refine blk_alloc ?_ _)); exact BK181.out) Try.underlying23 rfl (by kernel_rfl)) rfl ?_
    exact ⟨by first | rfl | (simp [errW_none, errW_some] <;> rfl) | (simp [*, errW_none, errW_some] <;> rfl), by repeat (first | (with_reducible first | exact HB.out | apply below_alloc | apply pw_below_drewN | apply below_drew1 | refine below_set ?_ GE180.out | refine below_set ?_ GE181.out) | exact HB.out)⟩
  · replace c3 := Bool.eq_false_iff.mpr c3
    subst c3
    have H1 : (some (0, (⟨#[]⟩ : ByteArray))) = some (r1, r2) := by rw [if_neg (show ¬ (false = true) by decide)] at H; exact H
    clear H
    have H := H1
    clear H1
    simp only [Option.some.injEq, Prod.mk.injEq] at H
    obtain ⟨rfl, rfl⟩ := H
    go_enter Try.func17, Try.ntmps17
    go_wp2_with (first | ((with_reducible refine gate_dst (N := 1) rfl ?_); refine box_event ?hg (N := 1) ?hd (cs := #[.int .i64 a0_0, .string a0_1]) (t := 23) ?hr ?_; (case hd => rfl); (case hg => rfl); (case hr => first | (go_simp; done) | (go_simp; rfl)); intro gb180 hg w11 hbox hb; have n0_ := Aside0.mk (below_step (by repeat (first | (with_reducible first | exact HB.out | apply below_alloc | apply pw_below_drewN | apply below_drew1) | exact HB.out)) hb); have n1_ := Aside0.mk (hbox); have n2_ := Aside0.mk ((by rw [hg]; exact (below_size (by repeat (first | (with_reducible first | exact HB.out | apply below_alloc | apply pw_below_drewN | apply below_drew1) | exact HB.out))) : w.heap.size ≤ gb180)); have n3_ := Aside0.mk ((by rw [hg]; exact (below_size (by repeat (first | (with_reducible first | exact HB.out | apply below_alloc | apply pw_below_drewN | apply below_drew1) | exact HB.out))) : w.heap.size ≤ gb180)); clear HB; have HB := n0_; have BK180 := n1_; have GW180 := n2_; have GE180 := n3_; clear n0_ n1_ n2_ n3_; clear hb hbox hg) | ((with_reducible refine gate_dst (N := 2) rfl ?_); refine box_event ?hg (N := 2) ?hd (cs := #[.int .i64 0, .string (⟨#[]⟩ : ByteArray)]) (t := 23) ?hr ?_; (case hd => rfl); (case hg => rfl); (case hr => first | (go_simp; done) | (go_simp; rfl)); intro gb181 hg w12 hbox hb; have n0_ := Aside0.mk (blk_below (g := gb180) (o := .cells #[.int .i64 a0_0, .string a0_1] 23 (0, 0)) (by (with_reducible repeat (first | refine blk_drewN ?_ _ | refine blk_drew ?_ | refine blk_alloc ?_ _)); exact BK180.out) hb); have n1_ := Aside0.mk (below_step (by repeat (first | (with_reducible first | exact HB.out | apply below_alloc | apply pw_below_drewN | apply below_drew1 | refine below_set ?_ GE180.out) | exact HB.out)) hb); have n2_ := Aside0.mk (hbox); have n3_ := Aside0.mk ((by rw [hg]; exact (below_size (by repeat (first | (with_reducible first | exact HB.out | apply below_alloc | apply pw_below_drewN | apply below_drew1 | refine below_set ?_ GE180.out) | exact HB.out))) : w.heap.size ≤ gb181)); have n4_ := Aside0.mk ((by rw [hg]; exact (below_size (by repeat (first | (with_reducible first | exact HB.out | apply below_alloc | apply pw_below_drewN | apply below_drew1 | refine below_set ?_ GE180.out) | exact HB.out))) : w.heap.size ≤ gb181)); have n5_ := Aside0.mk ((by rw [hg]; exact Nat.ne_of_lt (blk_lt (g := gb180) (o := .cells #[.int .i64 a0_0, .string a0_1] 23 (0, 0)) (by (with_reducible repeat (first | refine blk_drewN ?_ _ | refine blk_drew ?_ | refine blk_alloc ?_ _)); exact BK180.out)) : gb180 ≠ gb181)); have n6_ := Aside0.mk ((by rw [hg]; exact Nat.ne_of_gt (blk_lt (g := gb180) (o := .cells #[.int .i64 a0_0, .string a0_1] 23 (0, 0)) (by (with_reducible repeat (first | refine blk_drewN ?_ _ | refine blk_drew ?_ | refine blk_alloc ?_ _)); exact BK180.out)) : gb181 ≠ gb180)); clear BK180; clear HB; have BK180 := n0_; have HB := n1_; have BK181 := n2_; have GW181 := n3_; have GE181 := n4_; have NB180_181 := n5_; have NB181_180 := n6_; clear n0_ n1_ n2_ n3_ n4_ n5_ n6_; clear hb hbox hg; have hnb13 := NB180_181.out; have hnc13 := NB181_180.out; have hcz14_0 : w12.cell? ⟨gb180, 0, none⟩ = some (.int .i64 a0_0) := (blk_cell BK180.out 0).trans rfl; have hcz14_1 : w12.cell? ⟨gb180, 1, none⟩ = some (.string a0_1) := (blk_cell BK180.out 1).trans rfl; have hfz14_0 := blk_frozen BK180.out 0; have hfz14_1 := blk_frozen BK180.out 1) | ((with_reducible refine gate_callee (f := 15) rfl ?_); refine goesL_ (some 4) rfl rfl Try.func15 (by kernel_rfl) rfl #[.agg #[.int .i64 a0_0, .string a0_1]] rfl (by (try simp only [List.map_toArray, List.map_cons, List.map_nil]); first | done | rfl | (simp only [List.length_drop, List.length_take]; rfl)) ?_; (with_reducible refine (seek_Right.calls a0_0 a0_1 false _ A2.out).mono ?_); rintro e w15 ⟨rfl, hb⟩; refine ⟨_, rfl, ?_⟩; have n0_ := Aside0.mk (blk_below (g := gb180) (o := .cells #[.int .i64 a0_0, .string a0_1] 23 (0, 0)) (by (with_reducible repeat (first | refine blk_drewN ?_ _ | refine blk_drew ?_ | refine blk_alloc ?_ _)); exact BK180.out) hb); have n1_ := Aside0.mk (blk_below (g := gb181) (o := .cells #[.int .i64 0, .string (⟨#[]⟩ : ByteArray)] 23 (0, 0)) (by (with_reducible repeat (first | refine blk_drewN ?_ _ | refine blk_drew ?_ | refine blk_alloc ?_ _)); exact BK181.out) hb); have n2_ := Aside0.mk (below_step (by repeat (first | (with_reducible first | exact HB.out | apply below_alloc | apply pw_below_drewN | apply below_drew1 | refine below_set ?_ GE180.out | refine below_set ?_ GE181.out) | exact HB.out)) hb); clear BK180; clear BK181; clear HB; have BK180 := n0_; have BK181 := n1_; have HB := n2_; clear n0_ n1_ n2_; (try clear hb); (try clear hb2); (try clear hk); (try clear hi); have hcz16_0 : w15.cell? ⟨gb181, 0, none⟩ = some (.int .i64 0) := (blk_cell BK181.out 0).trans rfl; have hcz16_1 : w15.cell? ⟨gb181, 1, none⟩ = some (.string (⟨#[]⟩ : ByteArray)) := (blk_cell BK181.out 1).trans rfl; have hfz16_0 := blk_frozen BK181.out 0; have hfz16_1 := blk_frozen BK181.out 1))
    refine bodyPost_ret (results_cell_row rfl _ _ gb181 23 #[.int .i64 0, .string (⟨#[]⟩ : ByteArray)] (0, 0) _ rfl (by (with_reducible repeat (first | refine blk_drewN ?_ _ | refine blk_drew ?_ | refine blk_alloc ?_ _)); refine blk_put (cs := #[.int .i64 0, .string (⟨#[]⟩ : ByteArray)]) ?_ 1 _ rfl; (with_reducible repeat (first | refine blk_drewN ?_ _ | refine blk_drew ?_ | refine blk_alloc ?_ _)); refine blk_put (cs := #[.int .i64 0, .string (⟨#[]⟩ : ByteArray)]) ?_ 0 _ rfl; (with_reducible repeat (first | refine blk_drewN ?_ _ | refine blk_drew ?_ | refine blk_alloc ?_ _)); exact BK181.out) Try.underlying23 rfl (by kernel_rfl)) rfl ?_
    exact ⟨by first | rfl | (simp [errW_none, errW_some] <;> rfl) | (simp [*, errW_none, errW_some] <;> rfl), by repeat (first | (with_reducible first | exact HB.out | apply below_alloc | apply pw_below_drewN | apply below_drew1 | refine below_set ?_ GE180.out | refine below_set ?_ GE181.out) | exact HB.out)⟩

/-! ### calamusref16_Turn -/
def calamusref16_Turn.f (a0_0 : Int) (a0_1 : ByteArray) : Option (Int × ByteArray) := (calamusref16_Right.f a0_0 a0_1).bind fun t185 => (if t185 = true then (if a0_0 = 102 then (some (70, a0_1)) else (if a0_0 = 70 then (some (102, a0_1)) else (if a0_0 = 116 then (some (84, a0_1)) else (if a0_0 = 84 then (some (116, a0_1)) else (some (a0_0, a0_1)))))) else (some (0, (⟨#[]⟩ : ByteArray))))
set_option maxHeartbeats 8000000 in
set_option maxRecDepth 100000 in
theorem calamusref16_Turn.calls (a0_0 : Int) (a0_1 : ByteArray) (r1 : Int) (r2 : ByteArray) (w : World) (h : calamusref16_Turn.f a0_0 a0_1 = some (r1, r2)) :
    Calls Try.prog 18 #[.agg #[.int .i64 a0_0, .string a0_1]] w fun e w' => e = .returned (.agg #[.int .i64 r1, .string r2]) ∧ Below w.heap.size w w' := by
  have hu23 := Try.underlying23
  have HB := Aside0.mk (Below.refl w.heap.size w)
  have H : ((calamusref16_Right.f a0_0 a0_1).bind fun t185 => (if t185 = true then (if a0_0 = 102 then (some (70, a0_1)) else (if a0_0 = 70 then (some (102, a0_1)) else (if a0_0 = 116 then (some (84, a0_1)) else (if a0_0 = 84 then (some (116, a0_1)) else (some (a0_0, a0_1)))))) else (some (0, (⟨#[]⟩ : ByteArray))))) = some (r1, r2) := h
  clear h
  replace H := Option.bind_eq_some_iff.mp H
  obtain ⟨t185, A20, H⟩ := H
  replace H : (if t185 = true then (if a0_0 = 102 then (some (70, a0_1)) else (if a0_0 = 70 then (some (102, a0_1)) else (if a0_0 = 116 then (some (84, a0_1)) else (if a0_0 = 84 then (some (116, a0_1)) else (some (a0_0, a0_1)))))) else (some (0, (⟨#[]⟩ : ByteArray)))) = some (r1, r2) := H
  have A2 := Aside0.mk A20
  clear A20
  by_cases c3 : t185 = true
  · subst c3
    have H1 : (if a0_0 = 102 then (some (70, a0_1)) else (if a0_0 = 70 then (some (102, a0_1)) else (if a0_0 = 116 then (some (84, a0_1)) else (if a0_0 = 84 then (some (116, a0_1)) else (some (a0_0, a0_1)))))) = some (r1, r2) := by rw [if_pos rfl] at H; exact H
    clear H
    have H := H1
    clear H1
    by_cases c4 : a0_0 = 102
    · rw [if_pos c4] at H
      have c4b0 : (a0_0 == 102) = true := beq_iff_eq.mpr c4
      have c4b1 : (a0_0 != 102) = false := bne_eq_false_iff_eq.mpr c4
      clear c4
      simp only [Option.some.injEq, Prod.mk.injEq] at H
      obtain ⟨rfl, rfl⟩ := H
      go_enter Try.func18, Try.ntmps18
      go_wp2_with (first | ((with_reducible refine gate_dst (N := 1) rfl ?_); refine box_event ?hg (N := 1) ?hd (cs := #[.int .i64 a0_0, .string a0_1]) (t := 23) ?hr ?_; (case hd => rfl); (case hg => rfl); (case hr => first | (go_simp; done) | (go_simp; rfl)); intro gb183 hg w5 hbox hb; have n0_ := Aside0.mk (below_step (by repeat (first | (with_reducible first | exact HB.out | apply below_alloc | apply pw_below_drewN | apply below_drew1) | exact HB.out)) hb); have n1_ := Aside0.mk (hbox); have n2_ := Aside0.mk ((by rw [hg]; exact (below_size (by repeat (first | (with_reducible first | exact HB.out | apply below_alloc | apply pw_below_drewN | apply below_drew1) | exact HB.out))) : w.heap.size ≤ gb183)); have n3_ := Aside0.mk ((by rw [hg]; exact (below_size (by repeat (first | (with_reducible first | exact HB.out | apply below_alloc | apply pw_below_drewN | apply below_drew1) | exact HB.out))) : w.heap.size ≤ gb183)); clear HB; have HB := n0_; have BK183 := n1_; have GW183 := n2_; have GE183 := n3_; clear n0_ n1_ n2_ n3_; clear hb hbox hg) | ((with_reducible refine gate_dst (N := 2) rfl ?_); refine box_event ?hg (N := 2) ?hd (cs := #[.int .i64 0, .string (⟨#[]⟩ : ByteArray)]) (t := 23) ?hr ?_; (case hd => rfl); (case hg => rfl); (case hr => first | (go_simp; done) | (go_simp; rfl)); intro gb184 hg w6 hbox hb; have n0_ := Aside0.mk (blk_below (g := gb183) (o := .cells #[.int .i64 a0_0, .string a0_1] 23 (0, 0)) (by (with_reducible repeat (first | refine blk_drewN ?_ _ | refine blk_drew ?_ | refine blk_alloc ?_ _)); exact BK183.out) hb); have n1_ := Aside0.mk (below_step (by repeat (first | (with_reducible first | exact HB.out | apply below_alloc | apply pw_below_drewN | apply below_drew1 | refine below_set ?_ GE183.out) | exact HB.out)) hb); have n2_ := Aside0.mk (hbox); have n3_ := Aside0.mk ((by rw [hg]; exact (below_size (by repeat (first | (with_reducible first | exact HB.out | apply below_alloc | apply pw_below_drewN | apply below_drew1 | refine below_set ?_ GE183.out) | exact HB.out))) : w.heap.size ≤ gb184)); have n4_ := Aside0.mk ((by rw [hg]; exact (below_size (by repeat (first | (with_reducible first | exact HB.out | apply below_alloc | apply pw_below_drewN | apply below_drew1 | refine below_set ?_ GE183.out) | exact HB.out))) : w.heap.size ≤ gb184)); have n5_ := Aside0.mk ((by rw [hg]; exact Nat.ne_of_lt (blk_lt (g := gb183) (o := .cells #[.int .i64 a0_0, .string a0_1] 23 (0, 0)) (by (with_reducible repeat (first | refine blk_drewN ?_ _ | refine blk_drew ?_ | refine blk_alloc ?_ _)); exact BK183.out)) : gb183 ≠ gb184)); have n6_ := Aside0.mk ((by rw [hg]; exact Nat.ne_of_gt (blk_lt (g := gb183) (o := .cells #[.int .i64 a0_0, .string a0_1] 23 (0, 0)) (by (with_reducible repeat (first | refine blk_drewN ?_ _ | refine blk_drew ?_ | refine blk_alloc ?_ _)); exact BK183.out)) : gb184 ≠ gb183)); clear BK183; clear HB; have BK183 := n0_; have HB := n1_; have BK184 := n2_; have GW184 := n3_; have GE184 := n4_; have NB183_184 := n5_; have NB184_183 := n6_; clear n0_ n1_ n2_ n3_ n4_ n5_ n6_; clear hb hbox hg; have hnb7 := NB183_184.out; have hnc7 := NB184_183.out; have hcz8_0 : w6.cell? ⟨gb183, 0, none⟩ = some (.int .i64 a0_0) := (blk_cell BK183.out 0).trans rfl; have hcz8_1 : w6.cell? ⟨gb183, 1, none⟩ = some (.string a0_1) := (blk_cell BK183.out 1).trans rfl; have hfz8_0 := blk_frozen BK183.out 0; have hfz8_1 := blk_frozen BK183.out 1) | ((with_reducible refine gate_callee (f := 16) rfl ?_); refine goesL_ (some 4) rfl rfl Try.func16 (by kernel_rfl) rfl #[.agg #[.int .i64 a0_0, .string a0_1]] rfl (by (try simp only [List.map_toArray, List.map_cons, List.map_nil]); first | done | rfl | (simp only [List.length_drop, List.length_take]; rfl)) ?_; (with_reducible refine (calamusref16_Right.calls a0_0 a0_1 true _ A2.out).mono ?_); rintro e w9 ⟨rfl, hb⟩; refine ⟨_, rfl, ?_⟩; have n0_ := Aside0.mk (blk_below (g := gb183) (o := .cells #[.int .i64 a0_0, .string a0_1] 23 (0, 0)) (by (with_reducible repeat (first | refine blk_drewN ?_ _ | refine blk_drew ?_ | refine blk_alloc ?_ _)); exact BK183.out) hb); have n1_ := Aside0.mk (blk_below (g := gb184) (o := .cells #[.int .i64 0, .string (⟨#[]⟩ : ByteArray)] 23 (0, 0)) (by (with_reducible repeat (first | refine blk_drewN ?_ _ | refine blk_drew ?_ | refine blk_alloc ?_ _)); exact BK184.out) hb); have n2_ := Aside0.mk (below_step (by repeat (first | (with_reducible first | exact HB.out | apply below_alloc | apply pw_below_drewN | apply below_drew1 | refine below_set ?_ GE183.out | refine below_set ?_ GE184.out) | exact HB.out)) hb); clear BK183; clear BK184; clear HB; have BK183 := n0_; have BK184 := n1_; have HB := n2_; clear n0_ n1_ n2_; (try clear hb); (try clear hb2); (try clear hk); (try clear hi); have hcz10_0 : w9.cell? ⟨gb183, 0, none⟩ = some (.int .i64 a0_0) := (blk_cell BK183.out 0).trans rfl; have hcz10_1 : w9.cell? ⟨gb183, 1, none⟩ = some (.string a0_1) := (blk_cell BK183.out 1).trans rfl; have hfz10_0 := blk_frozen BK183.out 0; have hfz10_1 := blk_frozen BK183.out 1; have hcz11_0 : w9.cell? ⟨gb184, 0, none⟩ = some (.int .i64 0) := (blk_cell BK184.out 0).trans rfl; have hcz11_1 : w9.cell? ⟨gb184, 1, none⟩ = some (.string (⟨#[]⟩ : ByteArray)) := (blk_cell BK184.out 1).trans rfl; have hfz11_0 := blk_frozen BK184.out 0; have hfz11_1 := blk_frozen BK184.out 1))
      refine bodyPost_ret (results_cell_row rfl _ _ gb184 23 #[.int .i64 70, .string a0_1] (0, 0) _ rfl (by (with_reducible repeat (first | refine blk_drewN ?_ _ | refine blk_drew ?_ | refine blk_alloc ?_ _)); refine blk_put (cs := #[.int .i64 70, .string (⟨#[]⟩ : ByteArray)]) ?_ 1 _ rfl; (with_reducible repeat (first | refine blk_drewN ?_ _ | refine blk_drew ?_ | refine blk_alloc ?_ _)); refine blk_put (cs := #[.int .i64 0, .string (⟨#[]⟩ : ByteArray)]) ?_ 0 _ rfl; (with_reducible repeat (first | refine blk_drewN ?_ _ | refine blk_drew ?_ | refine blk_alloc ?_ _)); refine blk_far ?_ NB184_183.out _; (with_reducible repeat (first | refine blk_drewN ?_ _ | refine blk_drew ?_ | refine blk_alloc ?_ _)); exact BK184.out) Try.underlying23 rfl (by kernel_rfl)) rfl ?_
      exact ⟨by first | rfl | (simp [errW_none, errW_some] <;> rfl) | (simp [*, errW_none, errW_some] <;> rfl), by repeat (first | (with_reducible first | exact HB.out | apply below_alloc | apply pw_below_drewN | apply below_drew1 | refine below_set ?_ GE183.out | refine below_set ?_ GE184.out) | exact HB.out)⟩
    · rw [if_neg c4] at H
      have c4b0 : (a0_0 == 102) = false := beq_eq_false_iff_ne.mpr c4
      have c4b1 : (a0_0 != 102) = true := bne_iff_ne.mpr c4
      by_cases c12 : a0_0 = 70
      · rw [if_pos c12] at H
        have c12b0 : (a0_0 == 70) = true := beq_iff_eq.mpr c12
        have c12b1 : (a0_0 != 70) = false := bne_eq_false_iff_eq.mpr c12
        clear c12
        simp only [Option.some.injEq, Prod.mk.injEq] at H
        obtain ⟨rfl, rfl⟩ := H
        go_enter Try.func18, Try.ntmps18
        go_wp2_with (first | ((with_reducible refine gate_dst (N := 1) rfl ?_); refine box_event ?hg (N := 1) ?hd (cs := #[.int .i64 a0_0, .string a0_1]) (t := 23) ?hr ?_; (case hd => rfl); (case hg => rfl); (case hr => first | (go_simp; done) | (go_simp; rfl)); intro gb183 hg w13 hbox hb; have n0_ := Aside0.mk (below_step (by repeat (first | (with_reducible first | exact HB.out | apply below_alloc | apply pw_below_drewN | apply below_drew1) | exact HB.out)) hb); have n1_ := Aside0.mk (hbox); have n2_ := Aside0.mk ((by rw [hg]; exact (below_size (by repeat (first | (with_reducible first | exact HB.out | apply below_alloc | apply pw_below_drewN | apply below_drew1) | exact HB.out))) : w.heap.size ≤ gb183)); have n3_ := Aside0.mk ((by rw [hg]; exact (below_size (by repeat (first | (with_reducible first | exact HB.out | apply below_alloc | apply pw_below_drewN | apply below_drew1) | exact HB.out))) : w.heap.size ≤ gb183)); clear HB; have HB := n0_; have BK183 := n1_; have GW183 := n2_; have GE183 := n3_; clear n0_ n1_ n2_ n3_; clear hb hbox hg) | ((with_reducible refine gate_dst (N := 2) rfl ?_); refine box_event ?hg (N := 2) ?hd (cs := #[.int .i64 0, .string (⟨#[]⟩ : ByteArray)]) (t := 23) ?hr ?_; (case hd => rfl); (case hg => rfl); (case hr => first | (go_simp; done) | (go_simp; rfl)); intro gb184 hg w14 hbox hb; have n0_ := Aside0.mk (blk_below (g := gb183) (o := .cells #[.int .i64 a0_0, .string a0_1] 23 (0, 0)) (by (with_reducible repeat (first | refine blk_drewN ?_ _ | refine blk_drew ?_ | refine blk_alloc ?_ _)); exact BK183.out) hb); have n1_ := Aside0.mk (below_step (by repeat (first | (with_reducible first | exact HB.out | apply below_alloc | apply pw_below_drewN | apply below_drew1 | refine below_set ?_ GE183.out) | exact HB.out)) hb); have n2_ := Aside0.mk (hbox); have n3_ := Aside0.mk ((by rw [hg]; exact (below_size (by repeat (first | (with_reducible first | exact HB.out | apply below_alloc | apply pw_below_drewN | apply below_drew1 | refine below_set ?_ GE183.out) | exact HB.out))) : w.heap.size ≤ gb184)); have n4_ := Aside0.mk ((by rw [hg]; exact (below_size (by repeat (first | (with_reducible first | exact HB.out | apply below_alloc | apply pw_below_drewN | apply below_drew1 | refine below_set ?_ GE183.out) | exact HB.out))) : w.heap.size ≤ gb184)); have n5_ := Aside0.mk ((by rw [hg]; exact Nat.ne_of_lt (blk_lt (g := gb183) (o := .cells #[.int .i64 a0_0, .string a0_1] 23 (0, 0)) (by (with_reducible repeat (first | refine blk_drewN ?_ _ | refine blk_drew ?_ | refine blk_alloc ?_ _)); exact BK183.out)) : gb183 ≠ gb184)); have n6_ := Aside0.mk ((by rw [hg]; exact Nat.ne_of_gt (blk_lt (g := gb183) (o := .cells #[.int .i64 a0_0, .string a0_1] 23 (0, 0)) (by (with_reducible repeat (first | refine blk_drewN ?_ _ | refine blk_drew ?_ | refine blk_alloc ?_ _)); exact BK183.out)) : gb184 ≠ gb183)); clear BK183; clear HB; have BK183 := n0_; have HB := n1_; have BK184 := n2_; have GW184 := n3_; have GE184 := n4_; have NB183_184 := n5_; have NB184_183 := n6_; clear n0_ n1_ n2_ n3_ n4_ n5_ n6_; clear hb hbox hg; have hnb15 := NB183_184.out; have hnc15 := NB184_183.out; have hcz16_0 : w14.cell? ⟨gb183, 0, none⟩ = some (.int .i64 a0_0) := (blk_cell BK183.out 0).trans rfl; have hcz16_1 : w14.cell? ⟨gb183, 1, none⟩ = some (.string a0_1) := (blk_cell BK183.out 1).trans rfl; have hfz16_0 := blk_frozen BK183.out 0; have hfz16_1 := blk_frozen BK183.out 1) | ((with_reducible refine gate_callee (f := 16) rfl ?_); refine goesL_ (some 4) rfl rfl Try.func16 (by kernel_rfl) rfl #[.agg #[.int .i64 a0_0, .string a0_1]] rfl (by (try simp only [List.map_toArray, List.map_cons, List.map_nil]); first | done | rfl | (simp only [List.length_drop, List.length_take]; rfl)) ?_; (with_reducible refine (calamusref16_Right.calls a0_0 a0_1 true _ A2.out).mono ?_); rintro e w17 ⟨rfl, hb⟩; refine ⟨_, rfl, ?_⟩; have n0_ := Aside0.mk (blk_below (g := gb183) (o := .cells #[.int .i64 a0_0, .string a0_1] 23 (0, 0)) (by (with_reducible repeat (first | refine blk_drewN ?_ _ | refine blk_drew ?_ | refine blk_alloc ?_ _)); exact BK183.out) hb); have n1_ := Aside0.mk (blk_below (g := gb184) (o := .cells #[.int .i64 0, .string (⟨#[]⟩ : ByteArray)] 23 (0, 0)) (by (with_reducible repeat (first | refine blk_drewN ?_ _ | refine blk_drew ?_ | refine blk_alloc ?_ _)); exact BK184.out) hb); have n2_ := Aside0.mk (below_step (by repeat (first | (with_reducible first | exact HB.out | apply below_alloc | apply pw_below_drewN | apply below_drew1 | refine below_set ?_ GE183.out | refine below_set ?_ GE184.out) | exact HB.out)) hb); clear BK183; clear BK184; clear HB; have BK183 := n0_; have BK184 := n1_; have HB := n2_; clear n0_ n1_ n2_; (try clear hb); (try clear hb2); (try clear hk); (try clear hi); have hcz18_0 : w17.cell? ⟨gb183, 0, none⟩ = some (.int .i64 a0_0) := (blk_cell BK183.out 0).trans rfl; have hcz18_1 : w17.cell? ⟨gb183, 1, none⟩ = some (.string a0_1) := (blk_cell BK183.out 1).trans rfl; have hfz18_0 := blk_frozen BK183.out 0; have hfz18_1 := blk_frozen BK183.out 1; have hcz19_0 : w17.cell? ⟨gb184, 0, none⟩ = some (.int .i64 0) := (blk_cell BK184.out 0).trans rfl; have hcz19_1 : w17.cell? ⟨gb184, 1, none⟩ = some (.string (⟨#[]⟩ : ByteArray)) := (blk_cell BK184.out 1).trans rfl; have hfz19_0 := blk_frozen BK184.out 0; have hfz19_1 := blk_frozen BK184.out 1))
        refine bodyPost_ret (results_cell_row rfl _ _ gb184 23 #[.int .i64 102, .string a0_1] (0, 0) _ rfl (by (with_reducible repeat (first | refine blk_drewN ?_ _ | refine blk_drew ?_ | refine blk_alloc ?_ _)); refine blk_put (cs := #[.int .i64 102, .string (⟨#[]⟩ : ByteArray)]) ?_ 1 _ rfl; (with_reducible repeat (first | refine blk_drewN ?_ _ | refine blk_drew ?_ | refine blk_alloc ?_ _)); refine blk_put (cs := #[.int .i64 0, .string (⟨#[]⟩ : ByteArray)]) ?_ 0 _ rfl; (with_reducible repeat (first | refine blk_drewN ?_ _ | refine blk_drew ?_ | refine blk_alloc ?_ _)); refine blk_far ?_ NB184_183.out _; (with_reducible repeat (first | refine blk_drewN ?_ _ | refine blk_drew ?_ | refine blk_alloc ?_ _)); exact BK184.out) Try.underlying23 rfl (by kernel_rfl)) rfl ?_
        exact ⟨by first | rfl | (simp [errW_none, errW_some] <;> rfl) | (simp [*, errW_none, errW_some] <;> rfl), by repeat (first | (with_reducible first | exact HB.out | apply below_alloc | apply pw_below_drewN | apply below_drew1 | refine below_set ?_ GE183.out | refine below_set ?_ GE184.out) | exact HB.out)⟩
      · rw [if_neg c12] at H
        have c12b0 : (a0_0 == 70) = false := beq_eq_false_iff_ne.mpr c12
        have c12b1 : (a0_0 != 70) = true := bne_iff_ne.mpr c12
        by_cases c20 : a0_0 = 116
        · rw [if_pos c20] at H
          have c20b0 : (a0_0 == 116) = true := beq_iff_eq.mpr c20
          have c20b1 : (a0_0 != 116) = false := bne_eq_false_iff_eq.mpr c20
          clear c20
          simp only [Option.some.injEq, Prod.mk.injEq] at H
          obtain ⟨rfl, rfl⟩ := H
          go_enter Try.func18, Try.ntmps18
          go_wp2_with (first | ((with_reducible refine gate_dst (N := 1) rfl ?_); refine box_event ?hg (N := 1) ?hd (cs := #[.int .i64 a0_0, .string a0_1]) (t := 23) ?hr ?_; (case hd => rfl); (case hg => rfl); (case hr => first | (go_simp; done) | (go_simp; rfl)); intro gb183 hg w21 hbox hb; have n0_ := Aside0.mk (below_step (by repeat (first | (with_reducible first | exact HB.out | apply below_alloc | apply pw_below_drewN | apply below_drew1) | exact HB.out)) hb); have n1_ := Aside0.mk (hbox); have n2_ := Aside0.mk ((by rw [hg]; exact (below_size (by repeat (first | (with_reducible first | exact HB.out | apply below_alloc | apply pw_below_drewN | apply below_drew1) | exact HB.out))) : w.heap.size ≤ gb183)); have n3_ := Aside0.mk ((by rw [hg]; exact (below_size (by repeat (first | (with_reducible first | exact HB.out | apply below_alloc | apply pw_below_drewN | apply below_drew1) | exact HB.out))) : w.heap.size ≤ gb183)); clear HB; have HB := n0_; have BK183 := n1_; have GW183 := n2_; have GE183 := n3_; clear n0_ n1_ n2_ n3_; clear hb hbox hg) | ((with_reducible refine gate_dst (N := 2) rfl ?_); refine box_event ?hg (N := 2) ?hd (cs := #[.int .i64 0, .string (⟨#[]⟩ : ByteArray)]) (t := 23) ?hr ?_; (case hd => rfl); (case hg => rfl); (case hr => first | (go_simp; done) | (go_simp; rfl)); intro gb184 hg w22 hbox hb; have n0_ := Aside0.mk (blk_below (g := gb183) (o := .cells #[.int .i64 a0_0, .string a0_1] 23 (0, 0)) (by (with_reducible repeat (first | refine blk_drewN ?_ _ | refine blk_drew ?_ | refine blk_alloc ?_ _)); exact BK183.out) hb); have n1_ := Aside0.mk (below_step (by repeat (first | (with_reducible first | exact HB.out | apply below_alloc | apply pw_below_drewN | apply below_drew1 | refine below_set ?_ GE183.out) | exact HB.out)) hb); have n2_ := Aside0.mk (hbox); have n3_ := Aside0.mk ((by rw [hg]; exact (below_size (by repeat (first | (with_reducible first | exact HB.out | apply below_alloc | apply pw_below_drewN | apply below_drew1 | refine below_set ?_ GE183.out) | exact HB.out))) : w.heap.size ≤ gb184)); have n4_ := Aside0.mk ((by rw [hg]; exact (below_size (by repeat (first | (with_reducible first | exact HB.out | apply below_alloc | apply pw_below_drewN | apply below_drew1 | refine below_set ?_ GE183.out) | exact HB.out))) : w.heap.size ≤ gb184)); have n5_ := Aside0.mk ((by rw [hg]; exact Nat.ne_of_lt (blk_lt (g := gb183) (o := .cells #[.int .i64 a0_0, .string a0_1] 23 (0, 0)) (by (with_reducible repeat (first | refine blk_drewN ?_ _ | refine blk_drew ?_ | refine blk_alloc ?_ _)); exact BK183.out)) : gb183 ≠ gb184)); have n6_ := Aside0.mk ((by rw [hg]; exact Nat.ne_of_gt (blk_lt (g := gb183) (o := .cells #[.int .i64 a0_0, .string a0_1] 23 (0, 0)) (by (with_reducible repeat (first | refine blk_drewN ?_ _ | refine blk_drew ?_ | refine blk_alloc ?_ _)); exact BK183.out)) : gb184 ≠ gb183)); clear BK183; clear HB; have BK183 := n0_; have HB := n1_; have BK184 := n2_; have GW184 := n3_; have GE184 := n4_; have NB183_184 := n5_; have NB184_183 := n6_; clear n0_ n1_ n2_ n3_ n4_ n5_ n6_; clear hb hbox hg; have hnb23 := NB183_184.out; have hnc23 := NB184_183.out; have hcz24_0 : w22.cell? ⟨gb183, 0, none⟩ = some (.int .i64 a0_0) := (blk_cell BK183.out 0).trans rfl; have hcz24_1 : w22.cell? ⟨gb183, 1, none⟩ = some (.string a0_1) := (blk_cell BK183.out 1).trans rfl; have hfz24_0 := blk_frozen BK183.out 0; have hfz24_1 := blk_frozen BK183.out 1) | ((with_reducible refine gate_callee (f := 16) rfl ?_); refine goesL_ (some 4) rfl rfl Try.func16 (by kernel_rfl) rfl #[.agg #[.int .i64 a0_0, .string a0_1]] rfl (by (try simp only [List.map_toArray, List.map_cons, List.map_nil]); first | done | rfl | (simp only [List.length_drop, List.length_take]; rfl)) ?_; (with_reducible refine (calamusref16_Right.calls a0_0 a0_1 true _ A2.out).mono ?_); rintro e w25 ⟨rfl, hb⟩; refine ⟨_, rfl, ?_⟩; have n0_ := Aside0.mk (blk_below (g := gb183) (o := .cells #[.int .i64 a0_0, .string a0_1] 23 (0, 0)) (by (with_reducible repeat (first | refine blk_drewN ?_ _ | refine blk_drew ?_ | refine blk_alloc ?_ _)); exact BK183.out) hb); have n1_ := Aside0.mk (blk_below (g := gb184) (o := .cells #[.int .i64 0, .string (⟨#[]⟩ : ByteArray)] 23 (0, 0)) (by (with_reducible repeat (first | refine blk_drewN ?_ _ | refine blk_drew ?_ | refine blk_alloc ?_ _)); exact BK184.out) hb); have n2_ := Aside0.mk (below_step (by repeat (first | (with_reducible first | exact HB.out | apply below_alloc | apply pw_below_drewN | apply below_drew1 | refine below_set ?_ GE183.out | refine below_set ?_ GE184.out) | exact HB.out)) hb); clear BK183; clear BK184; clear HB; have BK183 := n0_; have BK184 := n1_; have HB := n2_; clear n0_ n1_ n2_; (try clear hb); (try clear hb2); (try clear hk); (try clear hi); have hcz26_0 : w25.cell? ⟨gb183, 0, none⟩ = some (.int .i64 a0_0) := (blk_cell BK183.out 0).trans rfl; have hcz26_1 : w25.cell? ⟨gb183, 1, none⟩ = some (.string a0_1) := (blk_cell BK183.out 1).trans rfl; have hfz26_0 := blk_frozen BK183.out 0; have hfz26_1 := blk_frozen BK183.out 1; have hcz27_0 : w25.cell? ⟨gb184, 0, none⟩ = some (.int .i64 0) := (blk_cell BK184.out 0).trans rfl; have hcz27_1 : w25.cell? ⟨gb184, 1, none⟩ = some (.string (⟨#[]⟩ : ByteArray)) := (blk_cell BK184.out 1).trans rfl; have hfz27_0 := blk_frozen BK184.out 0; have hfz27_1 := blk_frozen BK184.out 1))
          refine bodyPost_ret (results_cell_row rfl _ _ gb184 23 #[.int .i64 84, .string a0_1] (0, 0) _ rfl (by (with_reducible repeat (first | refine blk_drewN ?_ _ | refine blk_drew ?_ | refine blk_alloc ?_ _)); refine blk_put (cs := #[.int .i64 84, .string (⟨#[]⟩ : ByteArray)]) ?_ 1 _ rfl; (with_reducible repeat (first | refine blk_drewN ?_ _ | refine blk_drew ?_ | refine blk_alloc ?_ _)); refine blk_put (cs := #[.int .i64 0, .string (⟨#[]⟩ : ByteArray)]) ?_ 0 _ rfl; (with_reducible repeat (first | refine blk_drewN ?_ _ | refine blk_drew ?_ | refine blk_alloc ?_ _)); refine blk_far ?_ NB184_183.out _; (with_reducible repeat (first | refine blk_drewN ?_ _ | refine blk_drew ?_ | refine blk_alloc ?_ _)); exact BK184.out) Try.underlying23 rfl (by kernel_rfl)) rfl ?_
          exact ⟨by first | rfl | (simp [errW_none, errW_some] <;> rfl) | (simp [*, errW_none, errW_some] <;> rfl), by repeat (first | (with_reducible first | exact HB.out | apply below_alloc | apply pw_below_drewN | apply below_drew1 | refine below_set ?_ GE183.out | refine below_set ?_ GE184.out) | exact HB.out)⟩
        · rw [if_neg c20] at H
          have c20b0 : (a0_0 == 116) = false := beq_eq_false_iff_ne.mpr c20
          have c20b1 : (a0_0 != 116) = true := bne_iff_ne.mpr c20
          by_cases c28 : a0_0 = 84
          · rw [if_pos c28] at H
            have c28b0 : (a0_0 == 84) = true := beq_iff_eq.mpr c28
            have c28b1 : (a0_0 != 84) = false := bne_eq_false_iff_eq.mpr c28
            clear c28
            simp only [Option.some.injEq, Prod.mk.injEq] at H
            obtain ⟨rfl, rfl⟩ := H
            go_enter Try.func18, Try.ntmps18
            go_wp2_with (first | ((with_reducible refine gate_dst (N := 1) rfl ?_); refine box_event ?hg (N := 1) ?hd (cs := #[.int .i64 a0_0, .string a0_1]) (t := 23) ?hr ?_; (case hd => rfl); (case hg => rfl); (case hr => first | (go_simp; done) | (go_simp; rfl)); intro gb183 hg w29 hbox hb; have n0_ := Aside0.mk (below_step (by repeat (first | (with_reducible first | exact HB.out | apply below_alloc | apply pw_below_drewN | apply below_drew1) | exact HB.out)) hb); have n1_ := Aside0.mk (hbox); have n2_ := Aside0.mk ((by rw [hg]; exact (below_size (by repeat (first | (with_reducible first | exact HB.out | apply below_alloc | apply pw_below_drewN | apply below_drew1) | exact HB.out))) : w.heap.size ≤ gb183)); have n3_ := Aside0.mk ((by rw [hg]; exact (below_size (by repeat (first | (with_reducible first | exact HB.out | apply below_alloc | apply pw_below_drewN | apply below_drew1) | exact HB.out))) : w.heap.size ≤ gb183)); clear HB; have HB := n0_; have BK183 := n1_; have GW183 := n2_; have GE183 := n3_; clear n0_ n1_ n2_ n3_; clear hb hbox hg) | ((with_reducible refine gate_dst (N := 2) rfl ?_); refine box_event ?hg (N := 2) ?hd (cs := #[.int .i64 0, .string (⟨#[]⟩ : ByteArray)]) (t := 23) ?hr ?_; (case hd => rfl); (case hg => rfl); (case hr => first | (go_simp; done) | (go_simp; rfl)); intro gb184 hg w30 hbox hb; have n0_ := Aside0.mk (blk_below (g := gb183) (o := .cells #[.int .i64 a0_0, .string a0_1] 23 (0, 0)) (by (with_reducible repeat (first | refine blk_drewN ?_ _ | refine blk_drew ?_ | refine blk_alloc ?_ _)); exact BK183.out) hb); have n1_ := Aside0.mk (below_step (by repeat (first | (with_reducible first | exact HB.out | apply below_alloc | apply pw_below_drewN | apply below_drew1 | refine below_set ?_ GE183.out) | exact HB.out)) hb); have n2_ := Aside0.mk (hbox); have n3_ := Aside0.mk ((by rw [hg]; exact (below_size (by repeat (first | (with_reducible first | exact HB.out | apply below_alloc | apply pw_below_drewN | apply below_drew1 | refine below_set ?_ GE183.out) | exact HB.out))) : w.heap.size ≤ gb184)); have n4_ := Aside0.mk ((by rw [hg]; exact (below_size (by repeat (first | (with_reducible first | exact HB.out | apply below_alloc | apply pw_below_drewN | apply below_drew1 | refine below_set ?_ GE183.out) | exact HB.out))) : w.heap.size ≤ gb184)); have n5_ := Aside0.mk ((by rw [hg]; exact Nat.ne_of_lt (blk_lt (g := gb183) (o := .cells #[.int .i64 a0_0, .string a0_1] 23 (0, 0)) (by (with_reducible repeat (first | refine blk_drewN ?_ _ | refine blk_drew ?_ | refine blk_alloc ?_ _)); exact BK183.out)) : gb183 ≠ gb184)); have n6_ := Aside0.mk ((by rw [hg]; exact Nat.ne_of_gt (blk_lt (g := gb183) (o := .cells #[.int .i64 a0_0, .string a0_1] 23 (0, 0)) (by (with_reducible repeat (first | refine blk_drewN ?_ _ | refine blk_drew ?_ | refine blk_alloc ?_ _)); exact BK183.out)) : gb184 ≠ gb183)); clear BK183; clear HB; have BK183 := n0_; have HB := n1_; have BK184 := n2_; have GW184 := n3_; have GE184 := n4_; have NB183_184 := n5_; have NB184_183 := n6_; clear n0_ n1_ n2_ n3_ n4_ n5_ n6_; clear hb hbox hg; have hnb31 := NB183_184.out; have hnc31 := NB184_183.out; have hcz32_0 : w30.cell? ⟨gb183, 0, none⟩ = some (.int .i64 a0_0) := (blk_cell BK183.out 0).trans rfl; have hcz32_1 : w30.cell? ⟨gb183, 1, none⟩ = some (.string a0_1) := (blk_cell BK183.out 1).trans rfl; have hfz32_0 := blk_frozen BK183.out 0; have hfz32_1 := blk_frozen BK183.out 1) | ((with_reducible refine gate_callee (f := 16) rfl ?_); refine goesL_ (some 4) rfl rfl Try.func16 (by kernel_rfl) rfl #[.agg #[.int .i64 a0_0, .string a0_1]] rfl (by (try simp only [List.map_toArray, List.map_cons, List.map_nil]); first | done | rfl | (simp only [List.length_drop, List.length_take]; rfl)) ?_; (with_reducible refine (calamusref16_Right.calls a0_0 a0_1 true _ A2.out).mono ?_); rintro e w33 ⟨rfl, hb⟩; refine ⟨_, rfl, ?_⟩; have n0_ := Aside0.mk (blk_below (g := gb183) (o := .cells #[.int .i64 a0_0, .string a0_1] 23 (0, 0)) (by (with_reducible repeat (first | refine blk_drewN ?_ _ | refine blk_drew ?_ | refine blk_alloc ?_ _)); exact BK183.out) hb); have n1_ := Aside0.mk (blk_below (g := gb184) (o := .cells #[.int .i64 0, .string (⟨#[]⟩ : ByteArray)] 23 (0, 0)) (by (with_reducible repeat (first | refine blk_drewN ?_ _ | refine blk_drew ?_ | refine blk_alloc ?_ _)); exact BK184.out) hb); have n2_ := Aside0.mk (below_step (by repeat (first | (with_reducible first | exact HB.out | apply below_alloc | apply pw_below_drewN | apply below_drew1 | refine below_set ?_ GE183.out | refine below_set ?_ GE184.out) | exact HB.out)) hb); clear BK183; clear BK184; clear HB; have BK183 := n0_; have BK184 := n1_; have HB := n2_; clear n0_ n1_ n2_; (try clear hb); (try clear hb2); (try clear hk); (try clear hi); have hcz34_0 : w33.cell? ⟨gb183, 0, none⟩ = some (.int .i64 a0_0) := (blk_cell BK183.out 0).trans rfl; have hcz34_1 : w33.cell? ⟨gb183, 1, none⟩ = some (.string a0_1) := (blk_cell BK183.out 1).trans rfl; have hfz34_0 := blk_frozen BK183.out 0; have hfz34_1 := blk_frozen BK183.out 1; have hcz35_0 : w33.cell? ⟨gb184, 0, none⟩ = some (.int .i64 0) := (blk_cell BK184.out 0).trans rfl; have hcz35_1 : w33.cell? ⟨gb184, 1, none⟩ = some (.string (⟨#[]⟩ : ByteArray)) := (blk_cell BK184.out 1).trans rfl; have hfz35_0 := blk_frozen BK184.out 0; have hfz35_1 := blk_frozen BK184.out 1))
            refine bodyPost_ret (results_cell_row rfl _ _ gb184 23 #[.int .i64 116, .string a0_1] (0, 0) _ rfl (by (with_reducible repeat (first | refine blk_drewN ?_ _ | refine blk_drew ?_ | refine blk_alloc ?_ _)); refine blk_put (cs := #[.int .i64 116, .string (⟨#[]⟩ : ByteArray)]) ?_ 1 _ rfl; (with_reducible repeat (first | refine blk_drewN ?_ _ | refine blk_drew ?_ | refine blk_alloc ?_ _)); refine blk_put (cs := #[.int .i64 0, .string (⟨#[]⟩ : ByteArray)]) ?_ 0 _ rfl; (with_reducible repeat (first | refine blk_drewN ?_ _ | refine blk_drew ?_ | refine blk_alloc ?_ _)); refine blk_far ?_ NB184_183.out _; (with_reducible repeat (first | refine blk_drewN ?_ _ | refine blk_drew ?_ | refine blk_alloc ?_ _)); exact BK184.out) Try.underlying23 rfl (by kernel_rfl)) rfl ?_
            exact ⟨by first | rfl | (simp [errW_none, errW_some] <;> rfl) | (simp [*, errW_none, errW_some] <;> rfl), by repeat (first | (with_reducible first | exact HB.out | apply below_alloc | apply pw_below_drewN | apply below_drew1 | refine below_set ?_ GE183.out | refine below_set ?_ GE184.out) | exact HB.out)⟩
          · rw [if_neg c28] at H
            have c28b0 : (a0_0 == 84) = false := beq_eq_false_iff_ne.mpr c28
            have c28b1 : (a0_0 != 84) = true := bne_iff_ne.mpr c28
            simp only [Option.some.injEq, Prod.mk.injEq] at H
            obtain ⟨rfl, rfl⟩ := H
            go_enter Try.func18, Try.ntmps18
            go_wp2_with (first | ((with_reducible refine gate_dst (N := 1) rfl ?_); refine box_event ?hg (N := 1) ?hd (cs := #[.int .i64 a0_0, .string a0_1]) (t := 23) ?hr ?_; (case hd => rfl); (case hg => rfl); (case hr => first | (go_simp; done) | (go_simp; rfl)); intro gb183 hg w36 hbox hb; have n0_ := Aside0.mk (below_step (by repeat (first | (with_reducible first | exact HB.out | apply below_alloc | apply pw_below_drewN | apply below_drew1) | exact HB.out)) hb); have n1_ := Aside0.mk (hbox); have n2_ := Aside0.mk ((by rw [hg]; exact (below_size (by repeat (first | (with_reducible first | exact HB.out | apply below_alloc | apply pw_below_drewN | apply below_drew1) | exact HB.out))) : w.heap.size ≤ gb183)); have n3_ := Aside0.mk ((by rw [hg]; exact (below_size (by repeat (first | (with_reducible first | exact HB.out | apply below_alloc | apply pw_below_drewN | apply below_drew1) | exact HB.out))) : w.heap.size ≤ gb183)); clear HB; have HB := n0_; have BK183 := n1_; have GW183 := n2_; have GE183 := n3_; clear n0_ n1_ n2_ n3_; clear hb hbox hg) | ((with_reducible refine gate_dst (N := 2) rfl ?_); refine box_event ?hg (N := 2) ?hd (cs := #[.int .i64 0, .string (⟨#[]⟩ : ByteArray)]) (t := 23) ?hr ?_; (case hd => rfl); (case hg => rfl); (case hr => first | (go_simp; done) | (go_simp; rfl)); intro gb184 hg w37 hbox hb; have n0_ := Aside0.mk (blk_below (g := gb183) (o := .cells #[.int .i64 a0_0, .string a0_1] 23 (0, 0)) (by (with_reducible repeat (first | refine blk_drewN ?_ _ | refine blk_drew ?_ | refine blk_alloc ?_ _)); exact BK183.out) hb); have n1_ := Aside0.mk (below_step (by repeat (first | (with_reducible first | exact HB.out | apply below_alloc | apply pw_below_drewN | apply below_drew1 | refine below_set ?_ GE183.out) | exact HB.out)) hb); have n2_ := Aside0.mk (hbox); have n3_ := Aside0.mk ((by rw [hg]; exact (below_size (by repeat (first | (with_reducible first | exact HB.out | apply below_alloc | apply pw_below_drewN | apply below_drew1 | refine below_set ?_ GE183.out) | exact HB.out))) : w.heap.size ≤ gb184)); have n4_ := Aside0.mk ((by rw [hg]; exact (below_size (by repeat (first | (with_reducible first | exact HB.out | apply below_alloc | apply pw_below_drewN | apply below_drew1 | refine below_set ?_ GE183.out) | exact HB.out))) : w.heap.size ≤ gb184)); have n5_ := Aside0.mk ((by rw [hg]; exact Nat.ne_of_lt (blk_lt (g := gb183) (o := .cells #[.int .i64 a0_0, .string a0_1] 23 (0, 0)) (by (with_reducible repeat (first | refine blk_drewN ?_ _ | refine blk_drew ?_ | refine blk_alloc ?_ _)); exact BK183.out)) : gb183 ≠ gb184)); have n6_ := Aside0.mk ((by rw [hg]; exact Nat.ne_of_gt (blk_lt (g := gb183) (o := .cells #[.int .i64 a0_0, .string a0_1] 23 (0, 0)) (by (with_reducible repeat (first | refine blk_drewN ?_ _ | refine blk_drew ?_ | refine blk_alloc ?_ _)); exact BK183.out)) : gb184 ≠ gb183)); clear BK183; clear HB; have BK183 := n0_; have HB := n1_; have BK184 := n2_; have GW184 := n3_; have GE184 := n4_; have NB183_184 := n5_; have NB184_183 := n6_; clear n0_ n1_ n2_ n3_ n4_ n5_ n6_; clear hb hbox hg; have hnb38 := NB183_184.out; have hnc38 := NB184_183.out; have hcz39_0 : w37.cell? ⟨gb183, 0, none⟩ = some (.int .i64 a0_0) := (blk_cell BK183.out 0).trans rfl; have hcz39_1 : w37.cell? ⟨gb183, 1, none⟩ = some (.string a0_1) := (blk_cell BK183.out 1).trans rfl; have hfz39_0 := blk_frozen BK183.out 0; have hfz39_1 := blk_frozen BK183.out 1) | ((with_reducible refine gate_callee (f := 16) rfl ?_); refine goesL_ (some 4) rfl rfl Try.func16 (by kernel_rfl) rfl #[.agg #[.int .i64 a0_0, .string a0_1]] rfl (by (try simp only [List.map_toArray, List.map_cons, List.map_nil]); first | done | rfl | (simp only [List.length_drop, List.length_take]; rfl)) ?_; (with_reducible refine (calamusref16_Right.calls a0_0 a0_1 true _ A2.out).mono ?_); rintro e w40 ⟨rfl, hb⟩; refine ⟨_, rfl, ?_⟩; have n0_ := Aside0.mk (blk_below (g := gb183) (o := .cells #[.int .i64 a0_0, .string a0_1] 23 (0, 0)) (by (with_reducible repeat (first | refine blk_drewN ?_ _ | refine blk_drew ?_ | refine blk_alloc ?_ _)); exact BK183.out) hb); have n1_ := Aside0.mk (blk_below (g := gb184) (o := .cells #[.int .i64 0, .string (⟨#[]⟩ : ByteArray)] 23 (0, 0)) (by (with_reducible repeat (first | refine blk_drewN ?_ _ | refine blk_drew ?_ | refine blk_alloc ?_ _)); exact BK184.out) hb); have n2_ := Aside0.mk (below_step (by repeat (first | (with_reducible first | exact HB.out | apply below_alloc | apply pw_below_drewN | apply below_drew1 | refine below_set ?_ GE183.out | refine below_set ?_ GE184.out) | exact HB.out)) hb); clear BK183; clear BK184; clear HB; have BK183 := n0_; have BK184 := n1_; have HB := n2_; clear n0_ n1_ n2_; (try clear hb); (try clear hb2); (try clear hk); (try clear hi); have hcz41_0 : w40.cell? ⟨gb183, 0, none⟩ = some (.int .i64 a0_0) := (blk_cell BK183.out 0).trans rfl; have hcz41_1 : w40.cell? ⟨gb183, 1, none⟩ = some (.string a0_1) := (blk_cell BK183.out 1).trans rfl; have hfz41_0 := blk_frozen BK183.out 0; have hfz41_1 := blk_frozen BK183.out 1; have hcz42_0 : w40.cell? ⟨gb184, 0, none⟩ = some (.int .i64 0) := (blk_cell BK184.out 0).trans rfl; have hcz42_1 : w40.cell? ⟨gb184, 1, none⟩ = some (.string (⟨#[]⟩ : ByteArray)) := (blk_cell BK184.out 1).trans rfl; have hfz42_0 := blk_frozen BK184.out 0; have hfz42_1 := blk_frozen BK184.out 1))
            refine bodyPost_ret (results_cell_row rfl _ _ gb184 23 #[.int .i64 a0_0, .string a0_1] (0, 0) _ rfl (by (with_reducible repeat (first | refine blk_drewN ?_ _ | refine blk_drew ?_ | refine blk_alloc ?_ _)); refine blk_put (cs := #[.int .i64 a0_0, .string (⟨#[]⟩ : ByteArray)]) ?_ 1 _ rfl; (with_reducible repeat (first | refine blk_drewN ?_ _ | refine blk_drew ?_ | refine blk_alloc ?_ _)); refine blk_put (cs := #[.int .i64 0, .string (⟨#[]⟩ : ByteArray)]) ?_ 0 _ rfl; (with_reducible repeat (first | refine blk_drewN ?_ _ | refine blk_drew ?_ | refine blk_alloc ?_ _)); exact BK184.out) Try.underlying23 rfl (by kernel_rfl)) rfl ?_
            exact ⟨by first | rfl | (simp [errW_none, errW_some] <;> rfl) | (simp [*, errW_none, errW_some] <;> rfl), by repeat (first | (with_reducible first | exact HB.out | apply below_alloc | apply pw_below_drewN | apply below_drew1 | refine below_set ?_ GE183.out | refine below_set ?_ GE184.out) | exact HB.out)⟩
  · replace c3 := Bool.eq_false_iff.mpr c3
    subst c3
    have H1 : (some (0, (⟨#[]⟩ : ByteArray))) = some (r1, r2) := by rw [if_neg (show ¬ (false = true) by decide)] at H; exact H
    clear H
    have H := H1
    clear H1
    simp only [Option.some.injEq, Prod.mk.injEq] at H
    obtain ⟨rfl, rfl⟩ := H
    go_enter Try.func18, Try.ntmps18
    go_wp2_with (first | ((with_reducible refine gate_dst (N := 1) rfl ?_); refine box_event ?hg (N := 1) ?hd (cs := #[.int .i64 a0_0, .string a0_1]) (t := 23) ?hr ?_; (case hd => rfl); (case hg => rfl); (case hr => first | (go_simp; done) | (go_simp; rfl)); intro gb183 hg w43 hbox hb; have n0_ := Aside0.mk (below_step (by repeat (first | (with_reducible first | exact HB.out | apply below_alloc | apply pw_below_drewN | apply below_drew1) | exact HB.out)) hb); have n1_ := Aside0.mk (hbox); have n2_ := Aside0.mk ((by rw [hg]; exact (below_size (by repeat (first | (with_reducible first | exact HB.out | apply below_alloc | apply pw_below_drewN | apply below_drew1) | exact HB.out))) : w.heap.size ≤ gb183)); have n3_ := Aside0.mk ((by rw [hg]; exact (below_size (by repeat (first | (with_reducible first | exact HB.out | apply below_alloc | apply pw_below_drewN | apply below_drew1) | exact HB.out))) : w.heap.size ≤ gb183)); clear HB; have HB := n0_; have BK183 := n1_; have GW183 := n2_; have GE183 := n3_; clear n0_ n1_ n2_ n3_; clear hb hbox hg) | ((with_reducible refine gate_dst (N := 2) rfl ?_); refine box_event ?hg (N := 2) ?hd (cs := #[.int .i64 0, .string (⟨#[]⟩ : ByteArray)]) (t := 23) ?hr ?_; (case hd => rfl); (case hg => rfl); (case hr => first | (go_simp; done) | (go_simp; rfl)); intro gb184 hg w44 hbox hb; have n0_ := Aside0.mk (blk_below (g := gb183) (o := .cells #[.int .i64 a0_0, .string a0_1] 23 (0, 0)) (by (with_reducible repeat (first | refine blk_drewN ?_ _ | refine blk_drew ?_ | refine blk_alloc ?_ _)); exact BK183.out) hb); have n1_ := Aside0.mk (below_step (by repeat (first | (with_reducible first | exact HB.out | apply below_alloc | apply pw_below_drewN | apply below_drew1 | refine below_set ?_ GE183.out) | exact HB.out)) hb); have n2_ := Aside0.mk (hbox); have n3_ := Aside0.mk ((by rw [hg]; exact (below_size (by repeat (first | (with_reducible first | exact HB.out | apply below_alloc | apply pw_below_drewN | apply below_drew1 | refine below_set ?_ GE183.out) | exact HB.out))) : w.heap.size ≤ gb184)); have n4_ := Aside0.mk ((by rw [hg]; exact (below_size (by repeat (first | (with_reducible first | exact HB.out | apply below_alloc | apply pw_below_drewN | apply below_drew1 | refine below_set ?_ GE183.out) | exact HB.out))) : w.heap.size ≤ gb184)); have n5_ := Aside0.mk ((by rw [hg]; exact Nat.ne_of_lt (blk_lt (g := gb183) (o := .cells #[.int .i64 a0_0, .string a0_1] 23 (0, 0)) (by (with_reducible repeat (first | refine blk_drewN ?_ _ | refine blk_drew ?_ | refine blk_alloc ?_ _)); exact BK183.out)) : gb183 ≠ gb184)); have n6_ := Aside0.mk ((by rw [hg]; exact Nat.ne_of_gt (blk_lt (g := gb183) (o := .cells #[.int .i64 a0_0, .string a0_1] 23 (0, 0)) (by (with_reducible repeat (first | refine blk_drewN ?_ _ | refine blk_drew ?_ | refine blk_alloc ?_ _)); exact BK183.out)) : gb184 ≠ gb183)); clear BK183; clear HB; have BK183 := n0_; have HB := n1_; have BK184 := n2_; have GW184 := n3_; have GE184 := n4_; have NB183_184 := n5_; have NB184_183 := n6_; clear n0_ n1_ n2_ n3_ n4_ n5_ n6_; clear hb hbox hg; have hnb45 := NB183_184.out; have hnc45 := NB184_183.out; have hcz46_0 : w44.cell? ⟨gb183, 0, none⟩ = some (.int .i64 a0_0) := (blk_cell BK183.out 0).trans rfl; have hcz46_1 : w44.cell? ⟨gb183, 1, none⟩ = some (.string a0_1) := (blk_cell BK183.out 1).trans rfl; have hfz46_0 := blk_frozen BK183.out 0; have hfz46_1 := blk_frozen BK183.out 1) | ((with_reducible refine gate_callee (f := 16) rfl ?_); refine goesL_ (some 4) rfl rfl Try.func16 (by kernel_rfl) rfl #[.agg #[.int .i64 a0_0, .string a0_1]] rfl (by (try simp only [List.map_toArray, List.map_cons, List.map_nil]); first | done | rfl | (simp only [List.length_drop, List.length_take]; rfl)) ?_; (with_reducible refine (calamusref16_Right.calls a0_0 a0_1 false _ A2.out).mono ?_); rintro e w47 ⟨rfl, hb⟩; refine ⟨_, rfl, ?_⟩; have n0_ := Aside0.mk (blk_below (g := gb183) (o := .cells #[.int .i64 a0_0, .string a0_1] 23 (0, 0)) (by (with_reducible repeat (first | refine blk_drewN ?_ _ | refine blk_drew ?_ | refine blk_alloc ?_ _)); exact BK183.out) hb); have n1_ := Aside0.mk (blk_below (g := gb184) (o := .cells #[.int .i64 0, .string (⟨#[]⟩ : ByteArray)] 23 (0, 0)) (by (with_reducible repeat (first | refine blk_drewN ?_ _ | refine blk_drew ?_ | refine blk_alloc ?_ _)); exact BK184.out) hb); have n2_ := Aside0.mk (below_step (by repeat (first | (with_reducible first | exact HB.out | apply below_alloc | apply pw_below_drewN | apply below_drew1 | refine below_set ?_ GE183.out | refine below_set ?_ GE184.out) | exact HB.out)) hb); clear BK183; clear BK184; clear HB; have BK183 := n0_; have BK184 := n1_; have HB := n2_; clear n0_ n1_ n2_; (try clear hb); (try clear hb2); (try clear hk); (try clear hi); have hcz48_0 : w47.cell? ⟨gb184, 0, none⟩ = some (.int .i64 0) := (blk_cell BK184.out 0).trans rfl; have hcz48_1 : w47.cell? ⟨gb184, 1, none⟩ = some (.string (⟨#[]⟩ : ByteArray)) := (blk_cell BK184.out 1).trans rfl; have hfz48_0 := blk_frozen BK184.out 0; have hfz48_1 := blk_frozen BK184.out 1))
    refine bodyPost_ret (results_cell_row rfl _ _ gb184 23 #[.int .i64 0, .string (⟨#[]⟩ : ByteArray)] (0, 0) _ rfl (by (with_reducible repeat (first | refine blk_drewN ?_ _ | refine blk_drew ?_ | refine blk_alloc ?_ _)); refine blk_put (cs := #[.int .i64 0, .string (⟨#[]⟩ : ByteArray)]) ?_ 1 _ rfl; (with_reducible repeat (first | refine blk_drewN ?_ _ | refine blk_drew ?_ | refine blk_alloc ?_ _)); refine blk_put (cs := #[.int .i64 0, .string (⟨#[]⟩ : ByteArray)]) ?_ 0 _ rfl; (with_reducible repeat (first | refine blk_drewN ?_ _ | refine blk_drew ?_ | refine blk_alloc ?_ _)); exact BK184.out) Try.underlying23 rfl (by kernel_rfl)) rfl ?_
    exact ⟨by first | rfl | (simp [errW_none, errW_some] <;> rfl) | (simp [*, errW_none, errW_some] <;> rfl), by repeat (first | (with_reducible first | exact HB.out | apply below_alloc | apply pw_below_drewN | apply below_drew1 | refine below_set ?_ GE183.out | refine below_set ?_ GE184.out) | exact HB.out)⟩

/-! ### calamuslaw16_SeekKinds -/
def calamuslaw16_SeekKinds.f (a0_0 : Int) (a0_1 : ByteArray) : Option (Bool) := (seek_Right.f a0_0 a0_1).bind fun t187 => ((calamusref16_Right.f a0_0 a0_1).bind fun t188 => (if (t187 == t188) = true then ((seek_Turn.f a0_0 a0_1).bind fun bt189 => ((calamusref16_Turn.f a0_0 a0_1).bind fun bt191 => (if (bt189.1 == bt191.1 && (bt189.2.toList == bt191.2.toList)) = true then ((calamuslaw16_lives.f).bind fun t193 => (some t193)) else (some false)))) else (some false)))
def calamuslaw16_SeekKinds.T1 : Bool × List (List Nat × List Nat) := (true, [([], []), ([0], [0]), ([], []), ([2, 1], [2]), ([1, 3], [1, 3]), ([4, 3], [4]), ([5], [5]), ([6, 5, 5], [5, 6]), ([5], [5]), ([8, 7, 5], [5, 8]), ([7, 9, 5], [5, 7, 9]), ([5, 10], [5, 10]), ([11, 9], [11]), ([12, 12], [12]), ([12, 13], [12, 13]), ([14, 13, 0, 1, 2, 3, 4, 5, 6, 7, 8, 9, 10, 11, 12, 13, 14], [14])])
def calamuslaw16_SeekKinds.B1 : List Nat := [0, 1, 0, 7, 15, 31, 63, 127, 63, 511, 1023, 2047, 4095, 8191, 16383, 32767]
theorem calamuslaw16_SeekKinds.tab1 : rtab .any (opsOf Try.f5 1) = calamuslaw16_SeekKinds.T1 := by kernel_rfl
theorem calamuslaw16_SeekKinds.bits1 : waitsOk calamuslaw16_SeekKinds.T1.2 calamuslaw16_SeekKinds.B1 = true := by kernel_rfl
set_option maxHeartbeats 8000000 in
set_option maxRecDepth 100000 in
theorem calamuslaw16_SeekKinds.calls (a0_0 : Int) (a0_1 : ByteArray) (r : Bool) (w : World) (h : calamuslaw16_SeekKinds.f a0_0 a0_1 = some r) :
    Calls Try.prog 5 #[.agg #[.int .i64 a0_0, .string a0_1]] w fun e w' => e = .returned (.bool r) ∧ Below w.heap.size w w' := by
  have hu23 := Try.underlying23
  have HB := Aside0.mk (Below.refl w.heap.size w)
  have H : ((seek_Right.f a0_0 a0_1).bind fun t187 => ((calamusref16_Right.f a0_0 a0_1).bind fun t188 => (if (t187 == t188) = true then ((seek_Turn.f a0_0 a0_1).bind fun bt189 => ((calamusref16_Turn.f a0_0 a0_1).bind fun bt191 => (if (bt189.1 == bt191.1 && (bt189.2.toList == bt191.2.toList)) = true then ((calamuslaw16_lives.f).bind fun t193 => (some t193)) else (some false)))) else (some false)))) = some r := h
  clear h
  replace H := Option.bind_eq_some_iff.mp H
  obtain ⟨t187, A20, H⟩ := H
  replace H : ((calamusref16_Right.f a0_0 a0_1).bind fun t188 => (if (t187 == t188) = true then ((seek_Turn.f a0_0 a0_1).bind fun bt189 => ((calamusref16_Turn.f a0_0 a0_1).bind fun bt191 => (if (bt189.1 == bt191.1 && (bt189.2.toList == bt191.2.toList)) = true then ((calamuslaw16_lives.f).bind fun t193 => (some t193)) else (some false)))) else (some false))) = some r := H
  have A2 := Aside0.mk A20
  clear A20
  replace H := Option.bind_eq_some_iff.mp H
  obtain ⟨t188, A30, H⟩ := H
  replace H : (if (t187 == t188) = true then ((seek_Turn.f a0_0 a0_1).bind fun bt189 => ((calamusref16_Turn.f a0_0 a0_1).bind fun bt191 => (if (bt189.1 == bt191.1 && (bt189.2.toList == bt191.2.toList)) = true then ((calamuslaw16_lives.f).bind fun t193 => (some t193)) else (some false)))) else (some false)) = some r := H
  have A3 := Aside0.mk A30
  clear A30
  by_cases c4 : (t187 == t188) = true
  · rw [if_pos c4] at H
    have c4b0 : (t187 == t188) = true := c4
    (try (have c4b1 : decide (t187 = t188) = true := by simpa using c4))
    (try (have c4b2 : (t187 == t188) = true := by simpa using c4))
    clear c4
    replace H := Option.bind_eq_some_iff.mp H
    obtain ⟨⟨t189, t190⟩, A50, H⟩ := H
    replace H : ((calamusref16_Turn.f a0_0 a0_1).bind fun bt191 => (if (t189 == bt191.1 && (t190.toList == bt191.2.toList)) = true then ((calamuslaw16_lives.f).bind fun t193 => (some t193)) else (some false))) = some r := H
    have A5 := Aside0.mk A50
    clear A50
    replace H := Option.bind_eq_some_iff.mp H
    obtain ⟨⟨t191, t192⟩, A60, H⟩ := H
    replace H : (if (t189 == t191 && (t190.toList == t192.toList)) = true then ((calamuslaw16_lives.f).bind fun t193 => (some t193)) else (some false)) = some r := H
    have A6 := Aside0.mk A60
    clear A60
    by_cases c7 : (t189 == t191 && (t190.toList == t192.toList)) = true
    · rw [if_pos c7] at H
      have c7b0 : (t189 == t191 && (t190.toList == t192.toList)) = true := c7
      (try (have c7b1 : decide (t189 = t191 && (t190.toList == t192.toList)) = true := by simpa using c7))
      (try (have c7b2 : (t189 == t191 && (t190.toList == t192.toList)) = true := by simpa using c7))
      clear c7
      replace H := Option.bind_eq_some_iff.mp H
      obtain ⟨t193, A80, H⟩ := H
      replace H : (some t193) = some r := H
      have A8 := Aside0.mk A80
      clear A80
      obtain rfl := Option.some.inj H
      go_enter Try.func5, Try.ntmps5
      try go_wp2_with (first | ((with_reducible refine gate_dst (N := 1) rfl ?_); refine box_event ?hg (N := 1) ?hd (cs := #[.int .i64 a0_0, .string a0_1]) (t := 23) ?hr ?_; (case hd => rfl); (case hg => rfl); (case hr => first | (go_simp; done) | (go_simp; rfl)); intro gb186 hg w9 hbox hb; have n0_ := Aside0.mk (below_step (by repeat (first | (with_reducible first | exact HB.out | apply below_alloc | apply pw_below_drewN | apply below_drew1) | exact HB.out)) hb); have n1_ := Aside0.mk (hbox); have n2_ := Aside0.mk ((by rw [hg]; exact (below_size (by repeat (first | (with_reducible first | exact HB.out | apply below_alloc | apply pw_below_drewN | apply below_drew1) | exact HB.out))) : w.heap.size ≤ gb186)); have n3_ := Aside0.mk ((by rw [hg]; exact (below_size (by repeat (first | (with_reducible first | exact HB.out | apply below_alloc | apply pw_below_drewN | apply below_drew1) | exact HB.out))) : w.heap.size ≤ gb186)); clear HB; have HB := n0_; have BK186 := n1_; have GW186 := n2_; have GE186 := n3_; clear n0_ n1_ n2_ n3_; clear hb hbox hg))
      have n0_ := Aside0.mk (blk_drew BK186.out)
      have n1_ := Aside0.mk (below_drew1 HB.out)
      clear BK186
      clear HB
      have BK186 := n0_
      have HB := n1_
      clear n0_ n1_
      refine start_ (n := 16) (S := fun w' => w'.cell? ⟨gb186, 0, none⟩ = some (.int .i64 a0_0) ∧ w'.cell? ⟨gb186, 1, none⟩ = some (.string a0_1)) (ds := []) #[false, false, false, false, false, false, false, false, false, false, false, false, false, false, false, false] (by kernel_rfl) rfl rfl ⟨(blk_cell BK186.out 0).trans rfl, (blk_cell BK186.out 1).trans rfl⟩ (fun hHeld => ?_); refine with_tabW calamuslaw16_SeekKinds.tab1 calamuslaw16_SeekKinds.bits1 (fun HT_ HW_ => ?_)
      generalize w9.drew = w10 at BK186 HB hHeld ⊢
      refine take_ (i := 0) (N := some 3) (v := ?_) (a' := ?_) #[true, false, false, false, false, false, false, false, false, false, false, false, false, false, false, false] rfl rfl (take_ofW HT_.out HW_.out (by kernel_rfl)) (fun _ _ _ h => h) (Or.inl ⟨by rfl, ?_⟩) hHeld ?_ ?_
      rotate_left
      · rintro w' ⟨s0, s1⟩
        go_simp
        with_reducible rfl
      rotate_left
      · simp only [Act.put, List.setIfInBounds_toArray, List.set_cons_zero, List.set_cons_succ, i64_w, i32_w]
        rfl
      refine take_ (i := 2) (N := some 5) (v := ?_) (a' := ?_) #[true, false, true, false, false, false, false, false, false, false, false, false, false, false, false, false] rfl rfl (take_ofW HT_.out HW_.out (by kernel_rfl)) (fun _ _ _ h => h) (Or.inl ⟨by rfl, ?_⟩) hHeld ?_ ?_
      rotate_left
      · rintro w' ⟨s0, s1⟩
        go_simp
        with_reducible rfl
      rotate_left
      · simp only [Act.put, List.setIfInBounds_toArray, List.set_cons_zero, List.set_cons_succ, i64_w, i32_w]
        rfl
      refine one_ (i := 1) (N := some 4) #[true, true, true, false, false, false, false, false, false, false, false, false, false, false, false, false] rfl rfl (one_of HT_.out (by kernel_rfl)) (by decide) (fun K hK => ?_)
      refine goes_ Try.func15 (by kernel_rfl) rfl #[.agg #[.int .i64 a0_0, .string a0_1]] (by rfl) rfl rfl (by (try simp only [List.map_toArray, List.map_cons, List.map_nil]); first | done | rfl | (simp only [List.length_drop, List.length_take]; rfl)) ?_
      with_reducible refine (seek_Right.calls a0_0 a0_1 t187 _ A2.out).mono ?_
      rintro e w11 ⟨rfl, hb⟩
      refine ⟨_, rfl, ?_⟩
      have n0_ := Aside0.mk (blk_below (g := gb186) (o := .cells #[.int .i64 a0_0, .string a0_1] 23 (0, 0)) (by (with_reducible repeat (first | refine blk_drewN ?_ _ | refine blk_drew ?_ | refine blk_alloc ?_ _)); exact BK186.out) hb)
      have n1_ := Aside0.mk (below_step (by repeat (first | (with_reducible first | exact HB.out | apply below_alloc | apply pw_below_drewN | apply below_drew1 | refine below_set ?_ GE186.out) | exact HB.out)) hb)
      clear BK186
      clear HB
      have BK186 := n0_
      have HB := n1_
      clear n0_ n1_
      (try clear hb)
      (try clear hb2)
      (try clear hk)
      (try clear hi)
      refine hK.out _ _ ⟨(blk_cell BK186.out 0).trans rfl, (blk_cell BK186.out 1).trans rfl⟩ (fun hHeld => ?_)
      clear hK K
      refine norm_ (a' := ?_) ?_ ?_
      rotate_left
      · show Act.put _ (some 4) _ = _
        simp only [Act.put, List.setIfInBounds_toArray, List.set_cons_zero, List.set_cons_succ, i64_w, i32_w]
        rfl
      refine one_ (i := 3) (N := some 6) #[true, true, true, true, false, false, false, false, false, false, false, false, false, false, false, false] rfl rfl (one_of HT_.out (by kernel_rfl)) (by decide) (fun K hK => ?_)
      refine goes_ Try.func16 (by kernel_rfl) rfl #[.agg #[.int .i64 a0_0, .string a0_1]] (by rfl) rfl rfl (by (try simp only [List.map_toArray, List.map_cons, List.map_nil]); first | done | rfl | (simp only [List.length_drop, List.length_take]; rfl)) ?_
      with_reducible refine (calamusref16_Right.calls a0_0 a0_1 t188 _ A3.out).mono ?_
      rintro e w12 ⟨rfl, hb⟩
      refine ⟨_, rfl, ?_⟩
      have n0_ := Aside0.mk (blk_below (g := gb186) (o := .cells #[.int .i64 a0_0, .string a0_1] 23 (0, 0)) (by (with_reducible repeat (first | refine blk_drewN ?_ _ | refine blk_drew ?_ | refine blk_alloc ?_ _)); exact BK186.out) hb)
      have n1_ := Aside0.mk (below_step (by repeat (first | (with_reducible first | exact HB.out | apply below_alloc | apply pw_below_drewN | apply below_drew1 | refine below_set ?_ GE186.out) | exact HB.out)) hb)
      clear BK186
      clear HB
      have BK186 := n0_
      have HB := n1_
      clear n0_ n1_
      (try clear hb)
      (try clear hb2)
      (try clear hk)
      (try clear hi)
      refine hK.out _ _ ⟨(blk_cell BK186.out 0).trans rfl, (blk_cell BK186.out 1).trans rfl⟩ (fun hHeld => ?_)
      clear hK K
      refine norm_ (a' := ?_) ?_ ?_
      rotate_left
      · show Act.put _ (some 6) _ = _
        simp only [Act.put, List.setIfInBounds_toArray, List.set_cons_zero, List.set_cons_succ, i64_w, i32_w]
        rfl
      refine pure_ (i := 4) (N := some 7) (v := ?_) (a' := ?_) #[true, true, true, true, true, false, false, false, false, false, false, false, false, false, false, false] rfl rfl (any_of HT_.out (by kernel_rfl)) (fun _ _ _ h => h) (Or.inl ⟨by rfl, ?_⟩) ?_ ?_
      rotate_left
      · intro w'
        go_simp
        with_reducible rfl
      rotate_left
      · simp only [Act.put, List.setIfInBounds_toArray, List.set_cons_zero, List.set_cons_succ, i64_w, i32_w]
        rfl
      refine pure_ (i := 5) (N := some 8) (v := ?_) (a' := ?_) #[true, true, true, true, true, true, false, false, false, false, false, false, false, false, false, false] rfl rfl (any_of HT_.out (by kernel_rfl)) (fun _ _ _ h => h) (Or.inl ⟨by rfl, ?_⟩) ?_ ?_
      rotate_left
      · intro w'
        go_simp
        with_reducible rfl
      rotate_left
      · simp only [Act.put, List.setIfInBounds_toArray, List.set_cons_zero, List.set_cons_succ, i64_w, i32_w]
        rfl
      refine take_ (i := 6) (N := some 9) (v := ?_) (a' := ?_) #[true, true, true, true, true, true, true, false, false, false, false, false, false, false, false, false] rfl rfl (take_ofW HT_.out HW_.out (by kernel_rfl)) (fun _ _ _ h => h) (Or.inl ⟨by rfl, ?_⟩) hHeld ?_ ?_
      rotate_left
      · rintro w' ⟨s0, s1⟩
        go_simp
        with_reducible rfl
      rotate_left
      · simp only [Act.put, List.setIfInBounds_toArray, List.set_cons_zero, List.set_cons_succ, i64_w, i32_w]
        rfl
      refine take_ (i := 8) (N := some 11) (v := ?_) (a' := ?_) #[true, true, true, true, true, true, true, false, true, false, false, false, false, false, false, false] rfl rfl (take_ofW HT_.out HW_.out (by kernel_rfl)) (fun _ _ _ h => h) (Or.inl ⟨by rfl, ?_⟩) hHeld ?_ ?_
      rotate_left
      · rintro w' ⟨s0, s1⟩
        go_simp
        with_reducible rfl
      rotate_left
      · simp only [Act.put, List.setIfInBounds_toArray, List.set_cons_zero, List.set_cons_succ, i64_w, i32_w]
        rfl
      refine one_ (i := 7) (N := some 10) #[true, true, true, true, true, true, true, true, true, false, false, false, false, false, false, false] rfl rfl (one_of HT_.out (by kernel_rfl)) (by decide) (fun K hK => ?_)
      refine goes_ Try.func17 (by kernel_rfl) rfl #[.agg #[.int .i64 a0_0, .string a0_1]] (by rfl) rfl rfl (by (try simp only [List.map_toArray, List.map_cons, List.map_nil]); first | done | rfl | (simp only [List.length_drop, List.length_take]; rfl)) ?_
      with_reducible refine (seek_Turn.calls a0_0 a0_1 t189 t190 _ A5.out).mono ?_
      rintro e w13 ⟨rfl, hb⟩
      refine ⟨_, rfl, ?_⟩
      have n0_ := Aside0.mk (blk_below (g := gb186) (o := .cells #[.int .i64 a0_0, .string a0_1] 23 (0, 0)) (by (with_reducible repeat (first | refine blk_drewN ?_ _ | refine blk_drew ?_ | refine blk_alloc ?_ _)); exact BK186.out) hb)
      have n1_ := Aside0.mk (below_step (by repeat (first | (with_reducible first | exact HB.out | apply below_alloc | apply pw_below_drewN | apply below_drew1 | refine below_set ?_ GE186.out) | exact HB.out)) hb)
      clear BK186
      clear HB
      have BK186 := n0_
      have HB := n1_
      clear n0_ n1_
      (try clear hb)
      (try clear hb2)
      (try clear hk)
      (try clear hi)
      refine hK.out _ _ ⟨(blk_cell BK186.out 0).trans rfl, (blk_cell BK186.out 1).trans rfl⟩ (fun hHeld => ?_)
      clear hK K
      refine norm_ (a' := ?_) ?_ ?_
      rotate_left
      · show Act.put _ (some 10) _ = _
        simp only [Act.put, List.setIfInBounds_toArray, List.set_cons_zero, List.set_cons_succ, i64_w, i32_w]
        rfl
      refine one_ (i := 9) (N := some 12) #[true, true, true, true, true, true, true, true, true, true, false, false, false, false, false, false] rfl rfl (one_of HT_.out (by kernel_rfl)) (by decide) (fun K hK => ?_)
      refine goes_ Try.func18 (by kernel_rfl) rfl #[.agg #[.int .i64 a0_0, .string a0_1]] (by rfl) rfl rfl (by (try simp only [List.map_toArray, List.map_cons, List.map_nil]); first | done | rfl | (simp only [List.length_drop, List.length_take]; rfl)) ?_
      with_reducible refine (calamusref16_Turn.calls a0_0 a0_1 t191 t192 _ A6.out).mono ?_
      rintro e w14 ⟨rfl, hb⟩
      refine ⟨_, rfl, ?_⟩
      have n0_ := Aside0.mk (blk_below (g := gb186) (o := .cells #[.int .i64 a0_0, .string a0_1] 23 (0, 0)) (by (with_reducible repeat (first | refine blk_drewN ?_ _ | refine blk_drew ?_ | refine blk_alloc ?_ _)); exact BK186.out) hb)
      have n1_ := Aside0.mk (below_step (by repeat (first | (with_reducible first | exact HB.out | apply below_alloc | apply pw_below_drewN | apply below_drew1 | refine below_set ?_ GE186.out) | exact HB.out)) hb)
      clear BK186
      clear HB
      have BK186 := n0_
      have HB := n1_
      clear n0_ n1_
      (try clear hb)
      (try clear hb2)
      (try clear hk)
      (try clear hi)
      refine hK.out _ _ ⟨(blk_cell BK186.out 0).trans rfl, (blk_cell BK186.out 1).trans rfl⟩ (fun hHeld => ?_)
      clear hK K
      refine norm_ (a' := ?_) ?_ ?_
      rotate_left
      · show Act.put _ (some 12) _ = _
        simp only [Act.put, List.setIfInBounds_toArray, List.set_cons_zero, List.set_cons_succ, i64_w, i32_w]
        rfl
      refine pure_ (i := 10) (N := some 13) (v := ?_) (a' := ?_) #[true, true, true, true, true, true, true, true, true, true, true, false, false, false, false, false] rfl rfl (any_of HT_.out (by kernel_rfl)) (fun _ _ _ h => h) (Or.inl ⟨by rfl, ?_⟩) ?_ ?_
      rotate_left
      · intro w'
        go_simp
        with_reducible rfl
      rotate_left
      · simp only [Act.put, List.setIfInBounds_toArray, List.set_cons_zero, List.set_cons_succ, i64_w, i32_w]
        rfl
      refine pure_ (i := 11) (N := some 14) (v := ?_) (a' := ?_) #[true, true, true, true, true, true, true, true, true, true, true, true, false, false, false, false] rfl rfl (any_of HT_.out (by kernel_rfl)) (fun _ _ _ h => h) (Or.inl ⟨by rfl, ?_⟩) ?_ ?_
      rotate_left
      · intro w'
        go_simp
        with_reducible rfl
      rotate_left
      · simp only [Act.put, List.setIfInBounds_toArray, List.set_cons_zero, List.set_cons_succ, i64_w, i32_w]
        rfl
      refine pure_ (i := 12) (N := some 15) (v := ?_) (a' := ?_) #[true, true, true, true, true, true, true, true, true, true, true, true, true, false, false, false] rfl rfl (any_of HT_.out (by kernel_rfl)) (fun _ _ _ h => h) (Or.inl ⟨by rfl, ?_⟩) ?_ ?_
      rotate_left
      · intro w'
        go_simp
        with_reducible rfl
      rotate_left
      · simp only [Act.put, List.setIfInBounds_toArray, List.set_cons_zero, List.set_cons_succ, i64_w, i32_w]
        rfl
      refine one_ (i := 13) (N := some 16) #[true, true, true, true, true, true, true, true, true, true, true, true, true, true, false, false] rfl rfl (one_of HT_.out (by kernel_rfl)) (by decide) (fun K hK => ?_)
      refine goes_ Try.func7 (by kernel_rfl) rfl #[] (by rfl) rfl rfl (by (try simp only [List.map_toArray, List.map_cons, List.map_nil]); first | done | rfl | (simp only [List.length_drop, List.length_take]; rfl)) ?_
      with_reducible refine (calamuslaw16_lives.calls  t193 _ A8.out).mono ?_
      rintro e w15 ⟨rfl, hb⟩
      refine ⟨_, rfl, ?_⟩
      have n0_ := Aside0.mk (blk_below (g := gb186) (o := .cells #[.int .i64 a0_0, .string a0_1] 23 (0, 0)) (by (with_reducible repeat (first | refine blk_drewN ?_ _ | refine blk_drew ?_ | refine blk_alloc ?_ _)); exact BK186.out) hb)
      have n1_ := Aside0.mk (below_step (by repeat (first | (with_reducible first | exact HB.out | apply below_alloc | apply pw_below_drewN | apply below_drew1 | refine below_set ?_ GE186.out) | exact HB.out)) hb)
      clear BK186
      clear HB
      have BK186 := n0_
      have HB := n1_
      clear n0_ n1_
      (try clear hb)
      (try clear hb2)
      (try clear hk)
      (try clear hi)
      refine hK.out _ _ ⟨(blk_cell BK186.out 0).trans rfl, (blk_cell BK186.out 1).trans rfl⟩ (fun hHeld => ?_)
      clear hK K
      refine norm_ (a' := ?_) ?_ ?_
      rotate_left
      · show Act.put _ (some 16) _ = _
        simp only [Act.put, List.setIfInBounds_toArray, List.set_cons_zero, List.set_cons_succ, i64_w, i32_w]
        rfl
      refine pure_ (i := 14) (N := some 17) (v := ?_) (a' := ?_) #[true, true, true, true, true, true, true, true, true, true, true, true, true, true, true, false] rfl rfl (any_of HT_.out (by kernel_rfl)) (fun _ _ _ h => h) (Or.inl ⟨by rfl, ?_⟩) ?_ ?_
      rotate_left
      · intro w'
        go_simp
        with_reducible rfl
      rotate_left
      · simp only [Act.put, List.setIfInBounds_toArray, List.set_cons_zero, List.set_cons_succ, i64_w, i32_w]
        rfl
      refine pure_ (i := 15) (N := some 2) (v := ?_) (a' := ?_) #[true, true, true, true, true, true, true, true, true, true, true, true, true, true, true, true] rfl rfl (any_of HT_.out (by kernel_rfl)) (fun _ _ _ h => h) (Or.inl ⟨by rfl, ?_⟩) ?_ ?_
      rotate_left
      · intro w'
        go_simp
        with_reducible rfl
      rotate_left
      · simp only [Act.put, List.setIfInBounds_toArray, List.set_cons_zero, List.set_cons_succ, i64_w, i32_w]
        rfl
      refine done_ (done_of HT_.out (by kernel_rfl)) ?_
      try go_wp2
      go_ret
      exact ⟨by first | rfl | (simp [errW_none, errW_some] <;> rfl) | (simp [*, errW_none, errW_some] <;> rfl), by repeat (first | (with_reducible first | exact HB.out | apply below_alloc | apply pw_below_drewN | apply below_drew1 | refine below_set ?_ GE186.out) | exact HB.out)⟩
    · rw [if_neg c7] at H
      have c7b0 : (t189 == t191 && (t190.toList == t192.toList)) = false := by simpa using c7
      (try (have c7b1 : decide (t189 = t191 && (t190.toList == t192.toList)) = false := by simpa using c7))
      (try (have c7b2 : (t189 == t191 && (t190.toList == t192.toList)) = false := by simpa using c7))
      (try (have c7b3 : ¬ (t189 = t191 && (t190.toList == t192.toList)) := by simpa using c7))
      clear c7
      obtain rfl := Option.some.inj H
      go_enter Try.func5, Try.ntmps5
      try go_wp2_with (first | ((with_reducible refine gate_dst (N := 1) rfl ?_); refine box_event ?hg (N := 1) ?hd (cs := #[.int .i64 a0_0, .string a0_1]) (t := 23) ?hr ?_; (case hd => rfl); (case hg => rfl); (case hr => first | (go_simp; done) | (go_simp; rfl)); intro gb186 hg w16 hbox hb; have n0_ := Aside0.mk (below_step (by repeat (first | (with_reducible first | exact HB.out | apply below_alloc | apply pw_below_drewN | apply below_drew1) | exact HB.out)) hb); have n1_ := Aside0.mk (hbox); have n2_ := Aside0.mk ((by rw [hg]; exact (below_size (by repeat (first | (with_reducible first | exact HB.out | apply below_alloc | apply pw_below_drewN | apply below_drew1) | exact HB.out))) : w.heap.size ≤ gb186)); have n3_ := Aside0.mk ((by rw [hg]; exact (below_size (by repeat (first | (with_reducible first | exact HB.out | apply below_alloc | apply pw_below_drewN | apply below_drew1) | exact HB.out))) : w.heap.size ≤ gb186)); clear HB; have HB := n0_; have BK186 := n1_; have GW186 := n2_; have GE186 := n3_; clear n0_ n1_ n2_ n3_; clear hb hbox hg))
      have n0_ := Aside0.mk (blk_drew BK186.out)
      have n1_ := Aside0.mk (below_drew1 HB.out)
      clear BK186
      clear HB
      have BK186 := n0_
      have HB := n1_
      clear n0_ n1_
      refine start_ (n := 16) (S := fun w' => w'.cell? ⟨gb186, 0, none⟩ = some (.int .i64 a0_0) ∧ w'.cell? ⟨gb186, 1, none⟩ = some (.string a0_1)) (ds := []) #[false, false, false, false, false, false, false, false, false, false, false, false, false, false, false, false] (by kernel_rfl) rfl rfl ⟨(blk_cell BK186.out 0).trans rfl, (blk_cell BK186.out 1).trans rfl⟩ (fun hHeld => ?_); refine with_tabW calamuslaw16_SeekKinds.tab1 calamuslaw16_SeekKinds.bits1 (fun HT_ HW_ => ?_)
      generalize w16.drew = w17 at BK186 HB hHeld ⊢
      refine take_ (i := 0) (N := some 3) (v := ?_) (a' := ?_) #[true, false, false, false, false, false, false, false, false, false, false, false, false, false, false, false] rfl rfl (take_ofW HT_.out HW_.out (by kernel_rfl)) (fun _ _ _ h => h) (Or.inl ⟨by rfl, ?_⟩) hHeld ?_ ?_
      rotate_left
      · rintro w' ⟨s0, s1⟩
        go_simp
        with_reducible rfl
      rotate_left
      · simp only [Act.put, List.setIfInBounds_toArray, List.set_cons_zero, List.set_cons_succ, i64_w, i32_w]
        rfl
      refine take_ (i := 2) (N := some 5) (v := ?_) (a' := ?_) #[true, false, true, false, false, false, false, false, false, false, false, false, false, false, false, false] rfl rfl (take_ofW HT_.out HW_.out (by kernel_rfl)) (fun _ _ _ h => h) (Or.inl ⟨by rfl, ?_⟩) hHeld ?_ ?_
      rotate_left
      · rintro w' ⟨s0, s1⟩
        go_simp
        with_reducible rfl
      rotate_left
      · simp only [Act.put, List.setIfInBounds_toArray, List.set_cons_zero, List.set_cons_succ, i64_w, i32_w]
        rfl
      refine one_ (i := 1) (N := some 4) #[true, true, true, false, false, false, false, false, false, false, false, false, false, false, false, false] rfl rfl (one_of HT_.out (by kernel_rfl)) (by decide) (fun K hK => ?_)
      refine goes_ Try.func15 (by kernel_rfl) rfl #[.agg #[.int .i64 a0_0, .string a0_1]] (by rfl) rfl rfl (by (try simp only [List.map_toArray, List.map_cons, List.map_nil]); first | done | rfl | (simp only [List.length_drop, List.length_take]; rfl)) ?_
      with_reducible refine (seek_Right.calls a0_0 a0_1 t187 _ A2.out).mono ?_
      rintro e w18 ⟨rfl, hb⟩
      refine ⟨_, rfl, ?_⟩
      have n0_ := Aside0.mk (blk_below (g := gb186) (o := .cells #[.int .i64 a0_0, .string a0_1] 23 (0, 0)) (by (with_reducible repeat (first | refine blk_drewN ?_ _ | refine blk_drew ?_ | refine blk_alloc ?_ _)); exact BK186.out) hb)
      have n1_ := Aside0.mk (below_step (by repeat (first | (with_reducible first | exact HB.out | apply below_alloc | apply pw_below_drewN | apply below_drew1 | refine below_set ?_ GE186.out) | exact HB.out)) hb)
      clear BK186
      clear HB
      have BK186 := n0_
      have HB := n1_
      clear n0_ n1_
      (try clear hb)
      (try clear hb2)
      (try clear hk)
      (try clear hi)
      refine hK.out _ _ ⟨(blk_cell BK186.out 0).trans rfl, (blk_cell BK186.out 1).trans rfl⟩ (fun hHeld => ?_)
      clear hK K
      refine norm_ (a' := ?_) ?_ ?_
      rotate_left
      · show Act.put _ (some 4) _ = _
        simp only [Act.put, List.setIfInBounds_toArray, List.set_cons_zero, List.set_cons_succ, i64_w, i32_w]
        rfl
      refine one_ (i := 3) (N := some 6) #[true, true, true, true, false, false, false, false, false, false, false, false, false, false, false, false] rfl rfl (one_of HT_.out (by kernel_rfl)) (by decide) (fun K hK => ?_)
      refine goes_ Try.func16 (by kernel_rfl) rfl #[.agg #[.int .i64 a0_0, .string a0_1]] (by rfl) rfl rfl (by (try simp only [List.map_toArray, List.map_cons, List.map_nil]); first | done | rfl | (simp only [List.length_drop, List.length_take]; rfl)) ?_
      with_reducible refine (calamusref16_Right.calls a0_0 a0_1 t188 _ A3.out).mono ?_
      rintro e w19 ⟨rfl, hb⟩
      refine ⟨_, rfl, ?_⟩
      have n0_ := Aside0.mk (blk_below (g := gb186) (o := .cells #[.int .i64 a0_0, .string a0_1] 23 (0, 0)) (by (with_reducible repeat (first | refine blk_drewN ?_ _ | refine blk_drew ?_ | refine blk_alloc ?_ _)); exact BK186.out) hb)
      have n1_ := Aside0.mk (below_step (by repeat (first | (with_reducible first | exact HB.out | apply below_alloc | apply pw_below_drewN | apply below_drew1 | refine below_set ?_ GE186.out) | exact HB.out)) hb)
      clear BK186
      clear HB
      have BK186 := n0_
      have HB := n1_
      clear n0_ n1_
      (try clear hb)
      (try clear hb2)
      (try clear hk)
      (try clear hi)
      refine hK.out _ _ ⟨(blk_cell BK186.out 0).trans rfl, (blk_cell BK186.out 1).trans rfl⟩ (fun hHeld => ?_)
      clear hK K
      refine norm_ (a' := ?_) ?_ ?_
      rotate_left
      · show Act.put _ (some 6) _ = _
        simp only [Act.put, List.setIfInBounds_toArray, List.set_cons_zero, List.set_cons_succ, i64_w, i32_w]
        rfl
      refine pure_ (i := 4) (N := some 7) (v := ?_) (a' := ?_) #[true, true, true, true, true, false, false, false, false, false, false, false, false, false, false, false] rfl rfl (any_of HT_.out (by kernel_rfl)) (fun _ _ _ h => h) (Or.inl ⟨by rfl, ?_⟩) ?_ ?_
      rotate_left
      · intro w'
        go_simp
        with_reducible rfl
      rotate_left
      · simp only [Act.put, List.setIfInBounds_toArray, List.set_cons_zero, List.set_cons_succ, i64_w, i32_w]
        rfl
      refine pure_ (i := 5) (N := some 8) (v := ?_) (a' := ?_) #[true, true, true, true, true, true, false, false, false, false, false, false, false, false, false, false] rfl rfl (any_of HT_.out (by kernel_rfl)) (fun _ _ _ h => h) (Or.inl ⟨by rfl, ?_⟩) ?_ ?_
      rotate_left
      · intro w'
        go_simp
        with_reducible rfl
      rotate_left
      · simp only [Act.put, List.setIfInBounds_toArray, List.set_cons_zero, List.set_cons_succ, i64_w, i32_w]
        rfl
      refine take_ (i := 6) (N := some 9) (v := ?_) (a' := ?_) #[true, true, true, true, true, true, true, false, false, false, false, false, false, false, false, false] rfl rfl (take_ofW HT_.out HW_.out (by kernel_rfl)) (fun _ _ _ h => h) (Or.inl ⟨by rfl, ?_⟩) hHeld ?_ ?_
      rotate_left
      · rintro w' ⟨s0, s1⟩
        go_simp
        with_reducible rfl
      rotate_left
      · simp only [Act.put, List.setIfInBounds_toArray, List.set_cons_zero, List.set_cons_succ, i64_w, i32_w]
        rfl
      refine take_ (i := 8) (N := some 11) (v := ?_) (a' := ?_) #[true, true, true, true, true, true, true, false, true, false, false, false, false, false, false, false] rfl rfl (take_ofW HT_.out HW_.out (by kernel_rfl)) (fun _ _ _ h => h) (Or.inl ⟨by rfl, ?_⟩) hHeld ?_ ?_
      rotate_left
      · rintro w' ⟨s0, s1⟩
        go_simp
        with_reducible rfl
      rotate_left
      · simp only [Act.put, List.setIfInBounds_toArray, List.set_cons_zero, List.set_cons_succ, i64_w, i32_w]
        rfl
      refine one_ (i := 7) (N := some 10) #[true, true, true, true, true, true, true, true, true, false, false, false, false, false, false, false] rfl rfl (one_of HT_.out (by kernel_rfl)) (by decide) (fun K hK => ?_)
      refine goes_ Try.func17 (by kernel_rfl) rfl #[.agg #[.int .i64 a0_0, .string a0_1]] (by rfl) rfl rfl (by (try simp only [List.map_toArray, List.map_cons, List.map_nil]); first | done | rfl | (simp only [List.length_drop, List.length_take]; rfl)) ?_
      with_reducible refine (seek_Turn.calls a0_0 a0_1 t189 t190 _ A5.out).mono ?_
      rintro e w20 ⟨rfl, hb⟩
      refine ⟨_, rfl, ?_⟩
      have n0_ := Aside0.mk (blk_below (g := gb186) (o := .cells #[.int .i64 a0_0, .string a0_1] 23 (0, 0)) (by (with_reducible repeat (first | refine blk_drewN ?_ _ | refine blk_drew ?_ | refine blk_alloc ?_ _)); exact BK186.out) hb)
      have n1_ := Aside0.mk (below_step (by repeat (first | (with_reducible first | exact HB.out | apply below_alloc | apply pw_below_drewN | apply below_drew1 | refine below_set ?_ GE186.out) | exact HB.out)) hb)
      clear BK186
      clear HB
      have BK186 := n0_
      have HB := n1_
      clear n0_ n1_
      (try clear hb)
      (try clear hb2)
      (try clear hk)
      (try clear hi)
      refine hK.out _ _ ⟨(blk_cell BK186.out 0).trans rfl, (blk_cell BK186.out 1).trans rfl⟩ (fun hHeld => ?_)
      clear hK K
      refine norm_ (a' := ?_) ?_ ?_
      rotate_left
      · show Act.put _ (some 10) _ = _
        simp only [Act.put, List.setIfInBounds_toArray, List.set_cons_zero, List.set_cons_succ, i64_w, i32_w]
        rfl
      refine one_ (i := 9) (N := some 12) #[true, true, true, true, true, true, true, true, true, true, false, false, false, false, false, false] rfl rfl (one_of HT_.out (by kernel_rfl)) (by decide) (fun K hK => ?_)
      refine goes_ Try.func18 (by kernel_rfl) rfl #[.agg #[.int .i64 a0_0, .string a0_1]] (by rfl) rfl rfl (by (try simp only [List.map_toArray, List.map_cons, List.map_nil]); first | done | rfl | (simp only [List.length_drop, List.length_take]; rfl)) ?_
      with_reducible refine (calamusref16_Turn.calls a0_0 a0_1 t191 t192 _ A6.out).mono ?_
      rintro e w21 ⟨rfl, hb⟩
      refine ⟨_, rfl, ?_⟩
      have n0_ := Aside0.mk (blk_below (g := gb186) (o := .cells #[.int .i64 a0_0, .string a0_1] 23 (0, 0)) (by (with_reducible repeat (first | refine blk_drewN ?_ _ | refine blk_drew ?_ | refine blk_alloc ?_ _)); exact BK186.out) hb)
      have n1_ := Aside0.mk (below_step (by repeat (first | (with_reducible first | exact HB.out | apply below_alloc | apply pw_below_drewN | apply below_drew1 | refine below_set ?_ GE186.out) | exact HB.out)) hb)
      clear BK186
      clear HB
      have BK186 := n0_
      have HB := n1_
      clear n0_ n1_
      (try clear hb)
      (try clear hb2)
      (try clear hk)
      (try clear hi)
      refine hK.out _ _ ⟨(blk_cell BK186.out 0).trans rfl, (blk_cell BK186.out 1).trans rfl⟩ (fun hHeld => ?_)
      clear hK K
      refine norm_ (a' := ?_) ?_ ?_
      rotate_left
      · show Act.put _ (some 12) _ = _
        simp only [Act.put, List.setIfInBounds_toArray, List.set_cons_zero, List.set_cons_succ, i64_w, i32_w]
        rfl
      refine pure_ (i := 10) (N := some 13) (v := ?_) (a' := ?_) #[true, true, true, true, true, true, true, true, true, true, true, false, false, false, false, false] rfl rfl (any_of HT_.out (by kernel_rfl)) (fun _ _ _ h => h) (Or.inl ⟨by rfl, ?_⟩) ?_ ?_
      rotate_left
      · intro w'
        go_simp
        with_reducible rfl
      rotate_left
      · simp only [Act.put, List.setIfInBounds_toArray, List.set_cons_zero, List.set_cons_succ, i64_w, i32_w]
        rfl
      refine pure_ (i := 11) (N := some 14) (v := ?_) (a' := ?_) #[true, true, true, true, true, true, true, true, true, true, true, true, false, false, false, false] rfl rfl (any_of HT_.out (by kernel_rfl)) (fun _ _ _ h => h) (Or.inl ⟨by rfl, ?_⟩) ?_ ?_
      rotate_left
      · intro w'
        go_simp
        with_reducible rfl
      rotate_left
      · simp only [Act.put, List.setIfInBounds_toArray, List.set_cons_zero, List.set_cons_succ, i64_w, i32_w]
        rfl
      refine pure_ (i := 12) (N := some 15) (v := ?_) (a' := ?_) #[true, true, true, true, true, true, true, true, true, true, true, true, true, false, false, false] rfl rfl (any_of HT_.out (by kernel_rfl)) (fun _ _ _ h => h) (Or.inl ⟨by rfl, ?_⟩) ?_ ?_
      rotate_left
      · intro w'
        go_simp
        with_reducible rfl
      rotate_left
      · simp only [Act.put, List.setIfInBounds_toArray, List.set_cons_zero, List.set_cons_succ, i64_w, i32_w]
        rfl
      refine pure_ (i := 13) (N := some 16) (v := undef) (a' := ?_) #[true, true, true, true, true, true, true, true, true, true, true, true, true, true, false, false] rfl rfl (any_of HT_.out (by kernel_rfl)) (fun _ _ _ h => h) (Or.inr ⟨by rfl, rfl⟩) ?_ ?_
      rotate_left
      · simp only [Act.put, List.setIfInBounds_toArray, List.set_cons_zero, List.set_cons_succ, i64_w, i32_w]
        rfl
      refine pure_ (i := 14) (N := some 17) (v := ?_) (a' := ?_) #[true, true, true, true, true, true, true, true, true, true, true, true, true, true, true, false] rfl rfl (any_of HT_.out (by kernel_rfl)) (fun _ _ _ h => h) (Or.inl ⟨by rfl, ?_⟩) ?_ ?_
      rotate_left
      · intro w'
        go_simp
        with_reducible rfl
      rotate_left
      · simp only [Act.put, List.setIfInBounds_toArray, List.set_cons_zero, List.set_cons_succ, i64_w, i32_w]
        rfl
      refine pure_ (i := 15) (N := some 2) (v := ?_) (a' := ?_) #[true, true, true, true, true, true, true, true, true, true, true, true, true, true, true, true] rfl rfl (any_of HT_.out (by kernel_rfl)) (fun _ _ _ h => h) (Or.inl ⟨by rfl, ?_⟩) ?_ ?_
      rotate_left
      · intro w'
        go_simp
        with_reducible rfl
      rotate_left
      · simp only [Act.put, List.setIfInBounds_toArray, List.set_cons_zero, List.set_cons_succ, i64_w, i32_w]
        rfl
      refine done_ (done_of HT_.out (by kernel_rfl)) ?_
      try go_wp2
      go_ret
      exact ⟨by first | rfl | (simp [errW_none, errW_some] <;> rfl) | (simp [*, errW_none, errW_some] <;> rfl), by repeat (first | (with_reducible first | exact HB.out | apply below_alloc | apply pw_below_drewN | apply below_drew1 | refine below_set ?_ GE186.out) | exact HB.out)⟩
  · rw [if_neg c4] at H
    have c4b0 : (t187 == t188) = false := by simpa using c4
    (try (have c4b1 : decide (t187 = t188) = false := by simpa using c4))
    (try (have c4b2 : (t187 == t188) = false := by simpa using c4))
    (try (have c4b3 : ¬ (t187 = t188) := by simpa using c4))
    clear c4
    obtain rfl := Option.some.inj H
    go_enter Try.func5, Try.ntmps5
    try go_wp2_with (first | ((with_reducible refine gate_dst (N := 1) rfl ?_); refine box_event ?hg (N := 1) ?hd (cs := #[.int .i64 a0_0, .string a0_1]) (t := 23) ?hr ?_; (case hd => rfl); (case hg => rfl); (case hr => first | (go_simp; done) | (go_simp; rfl)); intro gb186 hg w22 hbox hb; have n0_ := Aside0.mk (below_step (by repeat (first | (with_reducible first | exact HB.out | apply below_alloc | apply pw_below_drewN | apply below_drew1) | exact HB.out)) hb); have n1_ := Aside0.mk (hbox); have n2_ := Aside0.mk ((by rw [hg]; exact (below_size (by repeat (first | (with_reducible first | exact HB.out | apply below_alloc | apply pw_below_drewN | apply below_drew1) | exact HB.out))) : w.heap.size ≤ gb186)); have n3_ := Aside0.mk ((by rw [hg]; exact (below_size (by repeat (first | (with_reducible first | exact HB.out | apply below_alloc | apply pw_below_drewN | apply below_drew1) | exact HB.out))) : w.heap.size ≤ gb186)); clear HB; have HB := n0_; have BK186 := n1_; have GW186 := n2_; have GE186 := n3_; clear n0_ n1_ n2_ n3_; clear hb hbox hg))
    have n0_ := Aside0.mk (blk_drew BK186.out)
    have n1_ := Aside0.mk (below_drew1 HB.out)
    clear BK186
    clear HB
    have BK186 := n0_
    have HB := n1_
    clear n0_ n1_
    refine start_ (n := 16) (S := fun w' => w'.cell? ⟨gb186, 0, none⟩ = some (.int .i64 a0_0) ∧ w'.cell? ⟨gb186, 1, none⟩ = some (.string a0_1)) (ds := []) #[false, false, false, false, false, false, false, false, false, false, false, false, false, false, false, false] (by kernel_rfl) rfl rfl ⟨(blk_cell BK186.out 0).trans rfl, (blk_cell BK186.out 1).trans rfl⟩ (fun hHeld => ?_); refine with_tabW calamuslaw16_SeekKinds.tab1 calamuslaw16_SeekKinds.bits1 (fun HT_ HW_ => ?_)
    generalize w22.drew = w23 at BK186 HB hHeld ⊢
    refine take_ (i := 0) (N := some 3) (v := ?_) (a' := ?_) #[true, false, false, false, false, false, false, false, false, false, false, false, false, false, false, false] rfl rfl (take_ofW HT_.out HW_.out (by kernel_rfl)) (fun _ _ _ h => h) (Or.inl ⟨by rfl, ?_⟩) hHeld ?_ ?_
    rotate_left
    · rintro w' ⟨s0, s1⟩
      go_simp
      with_reducible rfl
    rotate_left
    · simp only [Act.put, List.setIfInBounds_toArray, List.set_cons_zero, List.set_cons_succ, i64_w, i32_w]
      rfl
    refine take_ (i := 2) (N := some 5) (v := ?_) (a' := ?_) #[true, false, true, false, false, false, false, false, false, false, false, false, false, false, false, false] rfl rfl (take_ofW HT_.out HW_.out (by kernel_rfl)) (fun _ _ _ h => h) (Or.inl ⟨by rfl, ?_⟩) hHeld ?_ ?_
    rotate_left
    · rintro w' ⟨s0, s1⟩
      go_simp
      with_reducible rfl
    rotate_left
    · simp only [Act.put, List.setIfInBounds_toArray, List.set_cons_zero, List.set_cons_succ, i64_w, i32_w]
      rfl
    refine one_ (i := 1) (N := some 4) #[true, true, true, false, false, false, false, false, false, false, false, false, false, false, false, false] rfl rfl (one_of HT_.out (by kernel_rfl)) (by decide) (fun K hK => ?_)
    refine goes_ Try.func15 (by kernel_rfl) rfl #[.agg #[.int .i64 a0_0, .string a0_1]] (by rfl) rfl rfl (by (try simp only [List.map_toArray, List.map_cons, List.map_nil]); first | done | rfl | (simp only [List.length_drop, List.length_take]; rfl)) ?_
    with_reducible refine (seek_Right.calls a0_0 a0_1 t187 _ A2.out).mono ?_
    rintro e w24 ⟨rfl, hb⟩
    refine ⟨_, rfl, ?_⟩
    have n0_ := Aside0.mk (blk_below (g := gb186) (o := .cells #[.int .i64 a0_0, .string a0_1] 23 (0, 0)) (by (with_reducible repeat (first | refine blk_drewN ?_ _ | refine blk_drew ?_ | refine blk_alloc ?_ _)); exact BK186.out) hb)
    have n1_ := Aside0.mk (below_step (by repeat (first | (with_reducible first | exact HB.out | apply below_alloc | apply pw_below_drewN | apply below_drew1 | refine below_set ?_ GE186.out) | exact HB.out)) hb)
    clear BK186
    clear HB
    have BK186 := n0_
    have HB := n1_
    clear n0_ n1_
    (try clear hb)
    (try clear hb2)
    (try clear hk)
    (try clear hi)
    refine hK.out _ _ ⟨(blk_cell BK186.out 0).trans rfl, (blk_cell BK186.out 1).trans rfl⟩ (fun hHeld => ?_)
    clear hK K
    refine norm_ (a' := ?_) ?_ ?_
    rotate_left
    · show Act.put _ (some 4) _ = _
      simp only [Act.put, List.setIfInBounds_toArray, List.set_cons_zero, List.set_cons_succ, i64_w, i32_w]
      rfl
    refine one_ (i := 3) (N := some 6) #[true, true, true, true, false, false, false, false, false, false, false, false, false, false, false, false] rfl rfl (one_of HT_.out (by kernel_rfl)) (by decide) (fun K hK => ?_)
    refine goes_ Try.func16 (by kernel_rfl) rfl #[.agg #[.int .i64 a0_0, .string a0_1]] (by rfl) rfl rfl (by (try simp only [List.map_toArray, List.map_cons, List.map_nil]); first | done | rfl | (simp only [List.length_drop, List.length_take]; rfl)) ?_
    with_reducible refine (calamusref16_Right.calls a0_0 a0_1 t188 _ A3.out).mono ?_
    rintro e w25 ⟨rfl, hb⟩
    refine ⟨_, rfl, ?_⟩
    have n0_ := Aside0.mk (blk_below (g := gb186) (o := .cells #[.int .i64 a0_0, .string a0_1] 23 (0, 0)) (by (with_reducible repeat (first | refine blk_drewN ?_ _ | refine blk_drew ?_ | refine blk_alloc ?_ _)); exact BK186.out) hb)
    have n1_ := Aside0.mk (below_step (by repeat (first | (with_reducible first | exact HB.out | apply below_alloc | apply pw_below_drewN | apply below_drew1 | refine below_set ?_ GE186.out) | exact HB.out)) hb)
    clear BK186
    clear HB
    have BK186 := n0_
    have HB := n1_
    clear n0_ n1_
    (try clear hb)
    (try clear hb2)
    (try clear hk)
    (try clear hi)
    refine hK.out _ _ ⟨(blk_cell BK186.out 0).trans rfl, (blk_cell BK186.out 1).trans rfl⟩ (fun hHeld => ?_)
    clear hK K
    refine norm_ (a' := ?_) ?_ ?_
    rotate_left
    · show Act.put _ (some 6) _ = _
      simp only [Act.put, List.setIfInBounds_toArray, List.set_cons_zero, List.set_cons_succ, i64_w, i32_w]
      rfl
    refine pure_ (i := 4) (N := some 7) (v := ?_) (a' := ?_) #[true, true, true, true, true, false, false, false, false, false, false, false, false, false, false, false] rfl rfl (any_of HT_.out (by kernel_rfl)) (fun _ _ _ h => h) (Or.inl ⟨by rfl, ?_⟩) ?_ ?_
    rotate_left
    · intro w'
      go_simp
      with_reducible rfl
    rotate_left
    · simp only [Act.put, List.setIfInBounds_toArray, List.set_cons_zero, List.set_cons_succ, i64_w, i32_w]
      rfl
    refine pure_ (i := 5) (N := some 8) (v := ?_) (a' := ?_) #[true, true, true, true, true, true, false, false, false, false, false, false, false, false, false, false] rfl rfl (any_of HT_.out (by kernel_rfl)) (fun _ _ _ h => h) (Or.inl ⟨by rfl, ?_⟩) ?_ ?_
    rotate_left
    · intro w'
      go_simp
      with_reducible rfl
    rotate_left
    · simp only [Act.put, List.setIfInBounds_toArray, List.set_cons_zero, List.set_cons_succ, i64_w, i32_w]
      rfl
    refine pure_ (i := 6) (N := some 9) (v := undef) (a' := ?_) #[true, true, true, true, true, true, true, false, false, false, false, false, false, false, false, false] rfl rfl (any_of HT_.out (by kernel_rfl)) (fun _ _ _ h => h) (Or.inr ⟨by rfl, rfl⟩) ?_ ?_
    rotate_left
    · simp only [Act.put, List.setIfInBounds_toArray, List.set_cons_zero, List.set_cons_succ, i64_w, i32_w]
      rfl
    refine pure_ (i := 7) (N := some 10) (v := undef) (a' := ?_) #[true, true, true, true, true, true, true, true, false, false, false, false, false, false, false, false] rfl rfl (any_of HT_.out (by kernel_rfl)) (fun _ _ _ h => h) (Or.inr ⟨by rfl, rfl⟩) ?_ ?_
    rotate_left
    · simp only [Act.put, List.setIfInBounds_toArray, List.set_cons_zero, List.set_cons_succ, i64_w, i32_w]
      rfl
    refine pure_ (i := 8) (N := some 11) (v := undef) (a' := ?_) #[true, true, true, true, true, true, true, true, true, false, false, false, false, false, false, false] rfl rfl (any_of HT_.out (by kernel_rfl)) (fun _ _ _ h => h) (Or.inr ⟨by rfl, rfl⟩) ?_ ?_
    rotate_left
    · simp only [Act.put, List.setIfInBounds_toArray, List.set_cons_zero, List.set_cons_succ, i64_w, i32_w]
      rfl
    refine pure_ (i := 9) (N := some 12) (v := undef) (a' := ?_) #[true, true, true, true, true, true, true, true, true, true, false, false, false, false, false, false] rfl rfl (any_of HT_.out (by kernel_rfl)) (fun _ _ _ h => h) (Or.inr ⟨by rfl, rfl⟩) ?_ ?_
    rotate_left
    · simp only [Act.put, List.setIfInBounds_toArray, List.set_cons_zero, List.set_cons_succ, i64_w, i32_w]
      rfl
    refine pure_ (i := 10) (N := some 13) (v := undef) (a' := ?_) #[true, true, true, true, true, true, true, true, true, true, true, false, false, false, false, false] rfl rfl (any_of HT_.out (by kernel_rfl)) (fun _ _ _ h => h) (Or.inr ⟨by rfl, rfl⟩) ?_ ?_
    rotate_left
    · simp only [Act.put, List.setIfInBounds_toArray, List.set_cons_zero, List.set_cons_succ, i64_w, i32_w]
      rfl
    refine pure_ (i := 11) (N := some 14) (v := ?_) (a' := ?_) #[true, true, true, true, true, true, true, true, true, true, true, true, false, false, false, false] rfl rfl (any_of HT_.out (by kernel_rfl)) (fun _ _ _ h => h) (Or.inl ⟨by rfl, ?_⟩) ?_ ?_
    rotate_left
    · intro w'
      go_simp
      with_reducible rfl
    rotate_left
    · simp only [Act.put, List.setIfInBounds_toArray, List.set_cons_zero, List.set_cons_succ, i64_w, i32_w]
      rfl
    refine pure_ (i := 12) (N := some 15) (v := ?_) (a' := ?_) #[true, true, true, true, true, true, true, true, true, true, true, true, true, false, false, false] rfl rfl (any_of HT_.out (by kernel_rfl)) (fun _ _ _ h => h) (Or.inl ⟨by rfl, ?_⟩) ?_ ?_
    rotate_left
    · intro w'
      go_simp
      with_reducible rfl
    rotate_left
    · simp only [Act.put, List.setIfInBounds_toArray, List.set_cons_zero, List.set_cons_succ, i64_w, i32_w]
      rfl
    refine pure_ (i := 13) (N := some 16) (v := undef) (a' := ?_) #[true, true, true, true, true, true, true, true, true, true, true, true, true, true, false, false] rfl rfl (any_of HT_.out (by kernel_rfl)) (fun _ _ _ h => h) (Or.inr ⟨by rfl, rfl⟩) ?_ ?_
    rotate_left
    · simp only [Act.put, List.setIfInBounds_toArray, List.set_cons_zero, List.set_cons_succ, i64_w, i32_w]
      rfl
    refine pure_ (i := 14) (N := some 17) (v := ?_) (a' := ?_) #[true, true, true, true, true, true, true, true, true, true, true, true, true, true, true, false] rfl rfl (any_of HT_.out (by kernel_rfl)) (fun _ _ _ h => h) (Or.inl ⟨by rfl, ?_⟩) ?_ ?_
    rotate_left
    · intro w'
      go_simp
      with_reducible rfl
    rotate_left
    · simp only [Act.put, List.setIfInBounds_toArray, List.set_cons_zero, List.set_cons_succ, i64_w, i32_w]
      rfl
    refine pure_ (i := 15) (N := some 2) (v := ?_) (a' := ?_) #[true, true, true, true, true, true, true, true, true, true, true, true, true, true, true, true] rfl rfl (any_of HT_.out (by kernel_rfl)) (fun _ _ _ h => h) (Or.inl ⟨by rfl, ?_⟩) ?_ ?_
    rotate_left
    · intro w'
      go_simp
      with_reducible rfl
    rotate_left
    · simp only [Act.put, List.setIfInBounds_toArray, List.set_cons_zero, List.set_cons_succ, i64_w, i32_w]
      rfl
    refine done_ (done_of HT_.out (by kernel_rfl)) ?_
    try go_wp2
    go_ret
    exact ⟨by first | rfl | (simp [errW_none, errW_some] <;> rfl) | (simp [*, errW_none, errW_some] <;> rfl), by repeat (first | (with_reducible first | exact HB.out | apply below_alloc | apply pw_below_drewN | apply below_drew1 | refine below_set ?_ GE186.out) | exact HB.out)⟩

end Go.Proofs.Ytbilknmcikmcoaa.Q
/- The statements SeekKinds and SeekGoes in plain words. -/
namespace Go.Proofs.Ytbilknmcikmcoaa
open Go.RowKit
set_option linter.unusedVariables false
set_option linter.unusedSimpArgs false
open Go.RowKit Go.Proofs.Ytbilknmcikmcoaa.Q Go.Proofs.YtbilknmcikmcoaaW.PrintWords Go.Proofs.YtbilknmcikmcoaaW.PrintMore
theorem lives16_a : seekI (ls ⟨#[97, 98, 99, 97, 98]⟩) 0 102 (ls ⟨#[98]⟩) 2 = (4, true) := by decide +kernel
theorem lives16_b : seekI (ls ⟨#[97, 98, 99, 97, 98]⟩) 0 116 (ls ⟨#[98]⟩) 2 = (3, true) := by decide +kernel
theorem lives16 : calamuslaw16_lives.f = some true := by
  unfold calamuslaw16_lives.f
  rw [seek_Go.eq _ _ _ _ _ (by decide), seek_Go.eq _ _ _ _ _ (by decide), lives16_a, lives16_b]
  rfl
theorem lives16' : Ev (fun _ => calamuslaw16_lives.f.bind fun t => some t) true := ⟨0, fun _ _ => by rw [lives16]; rfl⟩
theorem turn_val (k : Int) (r : ByteArray) (hr : r.size ≤ 140737488351232) : seek_Turn.f k r = some (if rightB k (ls r) = true then (turnK k, r) else (0, ⟨#[]⟩)) := by
  unfold seek_Turn.f
  rw [seek_Right.eq _ _ hr]
  simp only [Option.bind_some]
  split
  · rename_i h; rw [turn_bits k ((right_eq k (ls r)).1 h).1]
  · rfl
theorem rturn_val (k : Int) (r : ByteArray) (hr : r.size ≤ 140737488351232) : calamusref16_Turn.f k r = some (if rightB k (ls r) = true then (turnK k, r) else (0, ⟨#[]⟩)) := by
  unfold calamusref16_Turn.f
  rw [calamusref16_Right.eq _ _ hr]
  simp only [Option.bind_some]
  split
  · rename_i h
    rcases ((right_eq k (ls r)).1 h).1 with rfl | rfl | rfl | rfl <;> rfl
  · rfl
theorem SeekKinds_p (k : Int) (r : ByteArray) (hk : -9223372036854775808 ≤ k ∧ k ≤ 9223372036854775807) (hr : r.size ≤ 140737488351232) : ∃ _ : Nat, calamuslaw16_SeekKinds.f k r = some true := by
  refine ⟨0, ?_⟩
  unfold calamuslaw16_SeekKinds.f
  rw [seek_Right.eq _ _ hr, calamusref16_Right.eq _ _ hr, turn_val k r hr, rturn_val k r hr]
  simp [lives16]
theorem hits_to {l r : List UInt8} {a i n : Nat} (ha : a ≤ i) (hin : i < n) (hp : placeB l i = true) (hg : ∀ j : Nat, i < j → j < n → placeB l j = false) : hits l r a (n - a) = hits l r a (i - a) ++ if runeL l i = r then [i] else [] := by
  have e : n - a = (i - a + 1) + (n - i - 1) := by omega
  rw [e, hits_cut l r a (n - i - 1) (i - a + 1) (fun j h1 h2 => hg j (by omega) (by omega)), hits_last, show a + (i - a) = i by omega]
  unfold hitB
  rw [hp]
  simp
theorem fw_step {l r : List UInt8} {p i n : Nat} (hin : i < n) (hp : placeB l p = true) (hi : placeB l i = true) (hg : ∀ j : Nat, i < j → j < n → placeB l j = false) : hits l r (p + 1) (n - (p + 1)) = hits l r (p + 1) (i - (p + 1)) ++ if p < i ∧ runeL l i = r then [i] else [] := by
  by_cases h : p < i
  · rw [hits_to (by omega) hin hi hg]; simp [h]
  · rw [show i - (p + 1) = 0 by omega, hits_zero, if_neg (fun hc => h hc.1)]
    by_cases he : i = p
    · subst he
      have := hits_cut l r (i + 1) (n - (i + 1)) 0 (fun j h1 h2 => hg j (by omega) (by omega))
      rw [Nat.zero_add] at this
      rw [this, hits_zero]; rfl
    · have : n ≤ p := by
        rcases Nat.lt_or_ge p n with h2 | h2
        · rw [hg p (by omega) h2] at hp; cases hp
        · exact h2
      rw [show n - (p + 1) = 0 by omega, hits_zero]; rfl
theorem bw_step {l r : List UInt8} {a p i n : Nat} (ha : a ≤ i) (hin : i < n) (hp : placeB l p = true) (hi : placeB l i = true) (hg : ∀ j : Nat, i < j → j < n → placeB l j = false) : hits l r a (min n p - a) = hits l r a (min i p - a) ++ if i < p ∧ runeL l i = r then [i] else [] := by
  by_cases h : i < p
  · have : n ≤ p := by
      rcases Nat.lt_or_ge p n with h2 | h2
      · rw [hg p (by omega) h2] at hp; cases hp
      · exact h2
    rw [Nat.min_eq_left this, Nat.min_eq_left (by omega), hits_to ha hin hi hg]; simp [h]
  · rw [Nat.min_eq_right (by omega), Nat.min_eq_right (by omega), if_neg (fun hc => h hc.1), List.append_nil]
def intL (L : List Nat) : List Int := L.map (fun x : Nat => (x : Int))
def accL (l r : List UInt8) (k : Int) (a p i : Nat) : List Int :=
  if k = 70 ∨ k = 84 then intL (hits l r a (min i p - a)).reverse else intL (hits l r (p + 1) (i - (p + 1)))
theorem acc_len (l r : List UInt8) (k : Int) (a p i : Nat) : (accL l r k a p i).length ≤ i + p := by
  unfold accL intL
  split
  · have := hits_le l r a (min i p - a); simp; omega
  · have := hits_le l r (p + 1) (i - (p + 1)); simp; omega
theorem rgo_l0 (t : ByteArray) (p a e : Nat) (k : Int) (r : ByteArray) (M line : Int) (ht : t.size ≤ 1000) (hr : r.size ≤ 140737488351232) (hk : k = 102 ∨ k = 70 ∨ k = 116 ∨ k = 84) (hp : placeB (ls t) p = true) (hpe : placeB (ls t) e = true) (he : e ≤ t.size) (hl : endI (ls t) line = e) (R : Int × Bool)
    (hR : Ev (fun n => calamusref16_Go.l0 n t p M line (accL (ls t) (ls r) k a p e) e k r) R) :
    ∀ (d i : Nat), e - i ≤ d → placeB (ls t) i = true → a ≤ i → i ≤ e → Ev (fun n => calamusref16_Go.l0 n t p M line (accL (ls t) (ls r) k a p i) i k r) R := by
  intro d
  induction d with
  | zero =>
    intro i hd hi ha hle
    obtain rfl : i = e := by omega
    exact hR
  | succ d ih =>
    intro i hd hi ha hle
    by_cases hie : i = e
    · subst hie; exact hR
    · have hlt : i < e := by omega
      have hps : p ≤ t.size := by have := (valid_at hp).2.1; rw [ls_len] at this; exact this
      obtain ⟨m, h1, h2, h3, h4, h5⟩ := next_gap hi (show i < (ls t).length by rw [ls_len]; omega)
      have hme : m ≤ e := by
        rcases Nat.lt_or_ge e m with h6 | h6
        · rw [h5 e hlt h6] at hpe; cases hpe
        · exact h6
      have hal := acc_len (ls t) (ls r) k a p i
      have hn := ih m (by omega) h4 (by omega) hme
      have hfw := fw_step (r := ls r) (p := p) h2 hp hi h5
      have hbw := bw_step (r := ls r) (a := a) (p := p) ha h2 hp hi h5
      have hnx : calamusref03_Next.f t i = some (m : Int) := by rw [calamusref03_Next.eq t i (by omega), h1]
      refine Ev.step (fun _ => (by rw [calamusref16_Go.l0])) ?_
      rw [calamusref04_End.eq t line (by omega), hl, calamusref03_Rune.eq t i (by omega), hnx]
      simp only [Option.bind_some]
      refine Ev.pos (by omega) (Ev.ite (fun hru => ?_) (fun hru => ?_))
      · have hru2 : runeL (ls t) i = ls r := by rw [toList_ls, toList_ls] at hru; exact hru
        have jt : (k = 102 ∨ k = 116) → Ev (fun n => calamusref16_Go.j3 n t p M line (accL (ls t) (ls r) k a p i) i (decide ((i : Int) > p)) k r) R := by
          intro hk2
          have hk3 : ¬ (k = 70 ∨ k = 84) := by omega
          refine Ev.step (fun _ => (by rw [calamusref16_Go.j3])) ?_
          rw [hnx]
          simp only [Option.bind_some]
          refine Ev.ite (fun h => ?_) (fun h => ?_)
          · have hpi : p < i := by simpa using h
            refine Ev.pos (by omega) (Ev.neg (show ¬ k = 70 by omega) (Ev.neg (show ¬ k = 84 by omega) ?_))
            have ea : accL (ls t) (ls r) k a p m = accL (ls t) (ls r) k a p i ++ [(i : Int)] := by
              unfold accL; rw [if_neg hk3, if_neg hk3, hfw, if_pos ⟨hpi, hru2⟩]; simp [intL]
            rw [ea] at hn; exact hn
          · have hpi : ¬ p < i := by simpa using h
            refine Ev.neg (show ¬ k = 70 by omega) (Ev.neg (show ¬ k = 84 by omega) ?_)
            have ea : accL (ls t) (ls r) k a p m = accL (ls t) (ls r) k a p i := by
              unfold accL; rw [if_neg hk3, if_neg hk3, hfw, if_neg (fun hc => hpi hc.1)]; simp [intL]
            rw [ea] at hn; exact hn
        have jb : (k = 70 ∨ k = 84) → Ev (fun n => calamusref16_Go.j3 n t p M line (accL (ls t) (ls r) k a p i) i false k r) R := by
          intro hk2
          refine Ev.step (fun _ => (by rw [calamusref16_Go.j3])) ?_
          rw [hnx]
          simp only [Option.bind_some]
          refine Ev.neg (by decide) ?_
          have yes : i < p → accL (ls t) (ls r) k a p m = [(i : Int)] ++ accL (ls t) (ls r) k a p i := by
            intro h
            unfold accL; rw [if_pos hk2, if_pos hk2, hbw, if_pos ⟨h, hru2⟩]; simp [intL]
          have no : ¬ i < p → accL (ls t) (ls r) k a p m = accL (ls t) (ls r) k a p i := by
            intro h
            unfold accL; rw [if_pos hk2, if_pos hk2, hbw, if_neg (fun hc => h hc.1)]; simp
          have hls : ([(i : Int)] : List Int).length + (accL (ls t) (ls r) k a p i).length < 17592186044416 := by simp; omega
          refine Ev.ite (fun h7 => ?_) (fun h7 => ?_)
          · refine Ev.ite (fun h => ?_) (fun h => ?_)
            · rw [yes (by omega)] at hn; exact Ev.pos hls hn
            · rw [no (by omega)] at hn; exact hn
          · refine Ev.pos (show k = 84 by omega) (Ev.ite (fun h => ?_) (fun h => ?_))
            · rw [yes (by omega)] at hn; exact Ev.pos hls hn
            · rw [no (by omega)] at hn; exact hn
        refine Ev.ite (fun h7 => jt (.inl h7)) (fun h7 => Ev.ite (fun h8 => jt (.inr h8)) (fun h8 => jb (by omega)))
      · have hru2 : ¬ runeL (ls t) i = ls r := by rw [toList_ls, toList_ls] at hru; exact hru
        have ea : accL (ls t) (ls r) k a p m = accL (ls t) (ls r) k a p i := by
          unfold accL; rw [hfw, hbw, if_neg (show ¬ (p < i ∧ runeL (ls t) i = ls r) from fun hc => hru2 hc.2), if_neg (show ¬ (i < p ∧ runeL (ls t) i = ls r) from fun hc => hru2 hc.2)]; simp
        rw [ea] at hn; exact hn
theorem rgo_ev (t : ByteArray) (p k : Int) (r : ByteArray) (n : Int) (ht : t.size ≤ 1000) (hr : r.size ≤ 140737488351232) (hn : -9223372036854775808 ≤ n ∧ n ≤ 9223372036854775807) : Ev (fun m => calamusref16_Go.f m t p k r n) (seekI (ls t) p k (ls r) n) := by
  unfold calamusref16_Go.f
  rw [calamusref16_Right.eq _ _ hr, calamusref03_Place.eq t p (by omega)]
  simp only [Option.bind_some]
  rcases Bool.eq_false_or_eq_true (rightB k (ls r)) with hb | hb
  · refine Ev.pos hb ?_
    rcases Bool.eq_false_or_eq_true (placeB (ls t) p) with hp | hp
    · rw [hp]
      have hkk := ((right_eq k (ls r)).1 hb).1
      obtain ⟨q, rfl, hq⟩ : ∃ q : Nat, p = q ∧ q ≤ t.size := by
        rcases place_cases t p with h | ⟨q, rfl, hq, _⟩
        · rw [hp] at h; cases h
        · exact ⟨q, rfl, hq⟩
      obtain ⟨e, q1, q2, q3, q4, q5, q6, q7⟩ := line_at hp
      rw [ls_len] at q5
      have fin : ∀ M : Int, M = max n 1 → Ev (fun m => calamusref16_Go.j1 m t q M k r) (seekI (ls t) q k (ls r) n) := by
        intro M hM
        refine Ev.step (fun _ => (by rw [calamusref16_Go.j1])) ?_
        rw [calamusref04_Of.eq t q (by omega)]
        simp only [Option.bind_some]
        rw [calamusref04_Start.eq t _ (by omega), q1]
        simp only [Option.bind_some]
        have e0 : ([] : List Int) = accL (ls t) (ls r) k (lst (ls t) q) q (lst (ls t) q) := by
          unfold accL
          split
          · rw [show min (lst (ls t) q) q - lst (ls t) q = 0 by omega, hits_zero]; rfl
          · rw [show lst (ls t) q - (q + 1) = 0 by omega, hits_zero]; rfl
        rw [e0]
        refine rgo_l0 t q (lst (ls t) q) e k r M _ ht hr hkk hp q7 q5 q2 _ ?_ e (lst (ls t) q) (by omega) q6 (Nat.le_refl _) (by omega)
        refine Ev.step (fun _ => (by rw [calamusref16_Go.l0])) ?_
        rw [calamusref04_End.eq t _ (by omega), q2]
        simp only [Option.bind_some]
        refine Ev.neg (by omega) ?_
        have hal := acc_len (ls t) (ls r) k (lst (ls t) q) q e
        obtain ⟨L, hL, hL2⟩ : ∃ L : List Nat, accL (ls t) (ls r) k (lst (ls t) q) q e = intL L ∧ seekO (ls t) q k (ls r) n = nthO L M := by
          unfold accL seekO
          split
          · exact ⟨_, rfl, by rw [hM, Nat.min_eq_right q4]⟩
          · exact ⟨_, rfl, by rw [hM, q2, Int.toNat_natCast]⟩
        have hsk : seekI (ls t) q k (ls r) n = match nthO L M with
          | none => (0, false)
          | some x => (if k = 116 then prevI (ls t) x else if k = 84 then nextI (ls t) x else x, true) := by
          unfold seekI; rw [if_pos ⟨hb, hp⟩, Int.toNat_natCast, hL2]
          cases nthO L M <;> rfl
        rw [hL] at hal ⊢
        have hll : (intL L).length = L.length := by simp [intL]
        rw [hsk]
        by_cases hM2 : M > ((intL L).length : Int)
        · have : nthO L M = none := by unfold nthO; rw [List.getElem?_eq_none_iff]; omega
          rw [this]
          exact Ev.pos hM2 (Ev.ret rfl)
        · obtain ⟨c, rfl⟩ : ∃ c : Nat, M = (c : Int) + 1 := ⟨(M - 1).toNat, by omega⟩
          have hc : c < L.length := by omega
          have : nthO L ((c : Int) + 1) = some L[c] := by unfold nthO; rw [show ((c : Int) + 1 - 1).toNat = c by omega, List.getElem?_eq_getElem hc]
          rw [this, show (c : Int) + 1 - 1 = c by omega, w64 (n := (c : Int)) (by omega) (by omega), rd_nat (intL L) c (by omega), show (intL L)[c]'(by omega) = (L[c] : Int) by simp [intL]]
          refine Ev.neg hM2 (Ev.pos (by omega) (Ev.pos (by omega) ?_))
          rw [calamusref03_Prev.eq t _ (by omega), calamusref03_Next.eq t _ (by omega)]
          simp only [Option.bind_some]
          rcases hkk with rfl | rfl | rfl | rfl
          · exact Ev.neg (by decide) (Ev.neg (by decide) (Ev.ret rfl))
          · exact Ev.neg (by decide) (Ev.neg (by decide) (Ev.ret rfl))
          · exact Ev.pos rfl (Ev.neg (by decide) (Ev.ret rfl))
          · exact Ev.neg (by decide) (Ev.pos rfl (Ev.ret rfl))
      refine Ev.step (fun _ => (by rw [calamusref16_Go.j0])) ?_
      refine Ev.neg (by decide) (Ev.ite (fun h => fin 1 (by omega)) (fun h => fin n (by omega)))
    · rw [hp, seek_no (.inr hp)]
      refine Ev.step (fun _ => (by rw [calamusref16_Go.j0])) ?_
      exact Ev.pos rfl (Ev.ret rfl)
  · refine Ev.neg (by rw [hb]; decide) ?_
    rw [seek_no (.inl hb)]
    refine Ev.step (fun _ => (by rw [calamusref16_Go.j0])) ?_
    exact Ev.pos rfl (Ev.ret rfl)
theorem SeekGoes_p (t : ByteArray) (p k : Int) (r : ByteArray) (n : Int) (ht : t.size ≤ 140737488351232) (hp : -9223372036854775808 ≤ p ∧ p ≤ 9223372036854775807) (hk : -9223372036854775808 ≤ k ∧ k ≤ 9223372036854775807) (hr : r.size ≤ 140737488351232) (hn : -9223372036854775808 ≤ n ∧ n ≤ 9223372036854775807) : ∃ m, calamuslaw16_SeekGoes.f m t p k r n = some true := by
  refine Ev.at ?_
  unfold calamuslaw16_SeekGoes.f
  refine Ev.ite (fun _ => lives16') (fun h => ?_)
  refine Ev.call (seek_Go.eq t p k r n ⟨by omega, hr, hn⟩) (Ev.bind (rgo_ev t p k r n (by omega) hr hn) (Ev.pos rfl (Ev.pos (by simp) lives16')))
end Go.Proofs.Ytbilknmcikmcoaa
/- The lines one behind the other: plain facts. -/
namespace Go.Proofs.Ytbilknmcikmcoaa
open Go.RowKit
set_option linter.unusedVariables false
set_option linter.unusedSimpArgs false
theorem lnsF_next : ∀ (r : List UInt8) (st i : Nat) (l : List UInt8), l.drop i = r → i + r.length = l.length → ∀ j, j + 1 < (lnsF r st i).length → ∃ x y, (lnsF r st i)[j]? = some x ∧ (lnsF r st i)[j + 1]? = some y ∧ y.1 = x.2 + 1 ∧ byL l x.2 = 10 ∧ x.2 < l.length
  | [], st, i, l, _, _, j, h => by simp [lnsF] at h
  | b :: r, st, i, l, hd, hl, j, h => by
    have hi : i < l.length := by simp at hl; omega
    have hd' : l.drop (i + 1) = r := by rw [← List.drop_drop, hd]; rfl
    have hb : l[i] = b := by have := List.drop_eq_getElem_cons hi; rw [hd] at this; simpa using (List.cons.inj this).1.symm
    by_cases e : b = 10
    · rw [lnsF, if_pos e] at h ⊢
      cases j with
      | zero =>
        obtain ⟨e', q, h1, _, _⟩ := lnsF_head r (i + 1) (i + 1)
        refine ⟨(st, i), (i + 1, e'), rfl, by rw [h1]; rfl, rfl, by rw [byL_ten hi, hb]; exact e, hi⟩
      | succ j =>
        obtain ⟨x, y, h1, h2, h3⟩ := lnsF_next r (i + 1) (i + 1) l hd' (by simp at hl; omega) j (by simpa using h)
        exact ⟨x, y, by simpa using h1, by simpa using h2, h3⟩
    · rw [lnsF, if_neg e] at h ⊢
      exact lnsF_next r st (i + 1) l hd' (by simp at hl; omega) j h
theorem lnsF_last : ∀ (r : List UInt8) (st i : Nat), ∃ x, (lnsF r st i)[(lnsF r st i).length - 1]? = some x ∧ x.2 = i + r.length
  | [], st, i => ⟨(st, i), by simp [lnsF], by simp⟩
  | b :: r, st, i => by
    rw [lnsF]
    split
    · obtain ⟨x, h1, h2⟩ := lnsF_last r (i + 1) (i + 1)
      have : (lnsF r (i + 1) (i + 1)).length ≠ 0 := by rw [lnsF_len]; omega
      refine ⟨x, ?_, by simp; omega⟩
      rw [List.length_cons, Nat.add_sub_cancel, List.getElem?_cons, if_neg this]; exact h1
    · obtain ⟨x, h1, h2⟩ := lnsF_last r st (i + 1)
      exact ⟨x, h1, by simp; omega⟩
theorem lnsF_fds : ∀ (r : List UInt8) (st i : Nat) (l : List UInt8), l.drop i = r → i + r.length = l.length → fds l i = fds l st → ∀ j x, (lnsF r st i)[j]? = some x → fds l x.1 = fds l st + j ∧ fds l x.2 = fds l st + j
  | [], st, i, l, _, _, hf, j, x, h => by
    cases j with
    | zero => simp [lnsF] at h; subst h; exact ⟨rfl, hf⟩
    | succ j => simp [lnsF] at h
  | b :: r, st, i, l, hd, hl, hf, j, x, h => by
    have hi : i < l.length := by simp at hl; omega
    have hd' : l.drop (i + 1) = r := by rw [← List.drop_drop, hd]; rfl
    have hb : l[i] = b := by have := List.drop_eq_getElem_cons hi; rw [hd] at this; simpa using (List.cons.inj this).1.symm
    have hs := fds_succ l i hi
    have hbi : byL l i = 10 ↔ b = 10 := by rw [byL_ten hi, hb]
    rw [lnsF] at h
    split at h
    · rename_i e
      rw [if_pos (hbi.2 e)] at hs
      cases j with
      | zero => simp at h; subst h; exact ⟨rfl, hf⟩
      | succ j =>
        obtain ⟨h1, h2⟩ := lnsF_fds r (i + 1) (i + 1) l hd' (by simp at hl; omega) rfl j x (by simpa using h)
        constructor <;> omega
    · rename_i e
      rw [if_neg (fun h => e (hbi.1 h))] at hs
      obtain ⟨h1, h2⟩ := lnsF_fds r st (i + 1) l hd' (by simp at hl; omega) (by omega) j x h
      exact ⟨h1, h2⟩
def pre (l : List UInt8) (j : Nat) : Nat := if j = 0 then 0 else ((lns l).getD (j - 1) (0, 0)).2
theorem pre_all (l : List UInt8) : pre l (tens l + 1) = l.length := by
  obtain ⟨x, h1, h2⟩ := lnsF_last l 0 0
  unfold pre
  rw [if_neg (by omega), List.getD_eq_getElem?_getD]
  have : lns l = lnsF l 0 0 := rfl
  rw [← this, lns_len] at h1
  rw [h1]; simpa using h2
theorem whole_at {l : List UInt8} {j : Nat} (hv : validL l = true) (hj : j < tens l + 1) : ∃ f e : Nat, startI l j = f ∧ endI l j = e ∧ f ≤ e ∧ e ≤ l.length ∧ ofI l f = j ∧ ofI l e = j ∧ l.take (pre l (j + 1)) = (if j = 0 then [] else l.take (pre l j) ++ [10]) ++ (l.drop f).take (e - f) := by
  have hlen : j < (lns l).length := by rw [lns_len]; exact hj
  obtain ⟨⟨f, e⟩, hx⟩ : ∃ x, (lns l)[j]? = some x := ⟨_, List.getElem?_eq_getElem hlen⟩
  have hle := lines_le l (f, e) (List.mem_of_getElem? hx)
  simp only at hle
  have hl : lineI l j = some (f, e) := by unfold lineI; rw [if_pos ⟨hv, by omega⟩, Int.toNat_natCast]; exact hx
  obtain ⟨d1, d2⟩ := lnsF_fds l 0 0 l rfl (by simp) rfl j (f, e) hx
  have d0 : fds l 0 = 0 := by simp [fds, tens]
  simp only [d0, Nat.zero_add] at d1 d2
  refine ⟨f, e, by unfold startI; rw [hl], by unfold endI; rw [hl], hle.1, hle.2, ?_, ?_, ?_⟩
  · rw [(start_of (p := f) (by omega) hv).1, d1]
  · rw [(start_of (p := e) (by omega) hv).1, d2]
  · have hp : pre l (j + 1) = e := by unfold pre; rw [if_neg (by omega), List.getD_eq_getElem?_getD, Nat.add_sub_cancel, hx]; rfl
    rw [hp]
    cases j with
    | zero =>
      obtain ⟨e', q, h1, _, _⟩ := lnsF_head l 0 0
      have : lns l = (0, e') :: q := h1
      rw [this] at hx
      simp at hx
      obtain ⟨rfl, rfl⟩ := hx
      simp
    | succ j =>
      obtain ⟨x, y, h1, h2, h3, h4, h5⟩ := lnsF_next l 0 0 l rfl (by simp) j hlen
      have hxx : (lns l)[j]? = some x := h1
      have hyy : (lns l)[j + 1]? = some y := h2
      rw [hx] at hyy
      have : y = (f, e) := by simpa using hyy.symm
      subst this
      have hp2 : pre l (j + 1) = x.2 := by unfold pre; rw [if_neg (by omega), List.getD_eq_getElem?_getD, Nat.add_sub_cancel, hxx]; rfl
      rw [hp2, if_neg (by omega)]
      simp only at h3
      rw [h3] at hle ⊢
      have h6 : l.take (x.2 + 1) = l.take x.2 ++ [10] := by
        rw [List.take_add_one, List.getElem?_eq_getElem h5]
        have := byL_ten h5
        rw [h4] at this; simp at this; simp [this]
      rw [← h6]
      have key := List.take_add (l := l) (i := x.2 + 1) (j := e - (x.2 + 1))
      rw [show x.2 + 1 + (e - (x.2 + 1)) = e by omega] at key
      exact key

end Go.Proofs.Ytbilknmcikmcoaa
/- Texts one behind the other; where a line ends: plain facts. -/
namespace Go.Proofs.Ytbilknmcikmcoaa
open Go.RowKit
set_option linter.unusedVariables false
set_option linter.unusedSimpArgs false
theorem valid_app : ∀ (m : Nat) (a b : List UInt8), a.length ≤ m → validL a = true → validL b = true → validL (a ++ b) = true
  | 0, a, b, hm, _, hb => by
    have : a = [] := List.length_eq_zero_iff.1 (by omega)
    subst this; exact hb
  | m + 1, a, b, hm, ha, hb => by
    by_cases h0 : a.length = 0
    · have : a = [] := List.length_eq_zero_iff.1 h0
      subst this; exact hb
    · have hz := valid_sz ha h0
      have hle := szL_le a
      have h1 := (sz_take a (szL a) (by omega) hle).2 rfl
      have h2 : (a ++ b).take (szL a) = a.take (szL a) := List.take_append_of_le_length hle
      have h3 : szL (a ++ b) = szL a := by
        refine (sz_take (a ++ b) (szL a) (by omega) (by rw [List.length_append]; omega)).1 ?_
        rw [h2]; exact h1
      have h4 : (a ++ b).drop (szL a) = a.drop (szL a) ++ b := List.drop_append_of_le_length hle
      rw [validL_step (by rw [List.length_append]; omega) (by rw [h3]; exact hz), h3, h4]
      refine valid_app m _ b (by rw [List.length_drop]; omega) ?_ hb
      rw [← validL_step h0 hz]; exact ha
theorem valid_append {a b : List UInt8} (ha : validL a = true) (hb : validL b = true) : validL (a ++ b) = true := valid_app a.length a b (Nat.le_refl _) ha hb
theorem place_le {l : List UInt8} {k : Nat} (h : placeB l k = true) : k ≤ l.length := (valid_at h).2.1
theorem place_valid {l : List UInt8} {p : Int} (h : placeB l p = true) : validL l = true := by
  unfold placeB at h; simp only [Bool.and_eq_true] at h; exact h.2
theorem place_take {l : List UInt8} {k : Nat} (h : placeB l k = true) : validL (l.take k) = true :=
  valid_tk _ l k (Nat.le_refl _) (place_valid h) (place_le h) (place_inn h)
theorem place_drop {l : List UInt8} {k : Nat} (h : placeB l k = true) : validL (l.drop k) = true := (valid_at h).1
theorem place_iff {l : List UInt8} {k : Nat} : placeB l k = true ↔ k ≤ l.length ∧ validL (l.take k) = true ∧ validL (l.drop k) = true := by
  constructor
  · intro h; exact ⟨place_le h, place_take h, place_drop h⟩
  · rintro ⟨h1, h2, h3⟩
    refine place_mk ?_ h1 ?_
    · have := valid_append h2 h3; rwa [List.take_append_drop] at this
    · by_cases he : k = l.length
      · exact .inl he
      · refine .inr ?_
        have := valid_first h3 (by rw [List.length_drop]; omega)
        rwa [byL_drop] at this
theorem place_app {a b : List UInt8} (ha : validL a = true) (hb : validL b = true) : placeB (a ++ b) (a.length : Nat) = true :=
  place_iff.2 ⟨by rw [List.length_append]; omega, by rw [List.take_left]; exact ha, by rw [List.drop_left]; exact hb⟩
theorem place_int {l : List UInt8} {p : Int} (h : placeB l p = true) : ∃ k : Nat, p = k ∧ k ≤ l.length := by
  have h' := h
  unfold placeB at h'
  simp only [Bool.and_eq_true, decide_eq_true_eq] at h'
  exact ⟨p.toNat, by omega, by omega⟩
theorem byL_app1 {a b : List UInt8} {k : Nat} (h : k < a.length) : byL (a ++ b) k = byL a k := by
  unfold byL; rw [List.getD_eq_getElem?_getD, List.getD_eq_getElem?_getD, List.getElem?_append_left h]
theorem byL_app2 {a b : List UInt8} {k : Nat} (h : a.length ≤ k) : byL (a ++ b) k = byL b (k - a.length) := by
  unfold byL; rw [List.getD_eq_getElem?_getD, List.getD_eq_getElem?_getD, List.getElem?_append_right h]
theorem end_gt {l : List UInt8} {p e : Nat} (h : placeB l p = true) (he : endI l (ofI l p) = e) : (p < e ↔ p < l.length ∧ byL l p ≠ 10) ∧ p ≤ e ∧ e ≤ l.length := by
  have hv := place_valid h
  have hp := place_le h
  obtain ⟨ho, -, -⟩ := start_of hp hv
  obtain ⟨a, ha, hl⟩ := lns_split l p hp
  have key : ∀ e', (lns l)[fds l p]? = some (lst l p, e') → e' = e := by
    intro e' h1
    have h2 : lineI l (ofI l p) = some (lst l p, e') := by
      unfold lineI
      rw [ho, if_pos ⟨hv, by omega⟩]
      simpa using h1
    have : endI l (ofI l p) = e' := by unfold endI; rw [h2]
    omega
  have key2 : ∀ e' r, lnsF (l.drop p) (lst l p) p = (lst l p, e') :: r → e' = e := by
    intro e' r h1
    refine key e' ?_
    rw [ha, h1, ← hl]; simp
  by_cases hc : p < l.length
  · have hs := lnsF_step l (lst l p) p hc
    by_cases ht : byL l p = 10
    · rw [if_pos ht] at hs
      have := key2 _ _ hs
      subst this
      exact ⟨⟨fun h => by omega, fun h => absurd ht h.2⟩, Nat.le_refl _, hp⟩
    · rw [if_neg ht] at hs
      obtain ⟨e', q, h1, h2, h3⟩ := lnsF_head (l.drop (p + 1)) (lst l p) (p + 1)
      rw [h1] at hs
      have := key2 _ _ hs
      subst this
      rw [List.length_drop] at h3
      exact ⟨⟨fun _ => ⟨hc, ht⟩, fun _ => by omega⟩, by omega, by omega⟩
  · have hs := lnsF_end l (lst l p) p (by omega)
    have := key2 _ _ hs
    subst this
    exact ⟨⟨fun h => by omega, fun h => absurd h.1 hc⟩, Nat.le_refl _, hp⟩
theorem line_fds {l : List UInt8} {p e : Nat} (h : placeB l p = true) (he : endI l (ofI l p) = e) : fds l (lst l p) = fds l p ∧ fds l e = fds l p := by
  have hv := place_valid h
  have hp := place_le h
  obtain ⟨ho, -, -⟩ := start_of hp hv
  obtain ⟨e', h1, -, -⟩ := line_of l p hp
  have h2 : lineI l (ofI l p) = some (lst l p, e') := by
    unfold lineI
    rw [ho, if_pos ⟨hv, by omega⟩]
    simpa using h1
  have h3 : endI l (ofI l p) = e' := by unfold endI; rw [h2]
  have : e' = e := by omega
  subst this
  have := lnsF_fds l 0 0 l rfl (by simp) rfl (fds l p) (lst l p, e') h1
  have hz : fds l 0 = 0 := by simp [fds, tens]
  rw [hz] at this
  dsimp only at this
  omega
theorem ofI_at {l : List UInt8} {p : Nat} (h : placeB l p = true) : ofI l p = fds l p := (start_of (place_le h) (place_valid h)).1
theorem fds_drop (l : List UInt8) (i : Nat) : fds l i + tens (l.drop i) = tens l := by
  unfold fds tens
  rw [← List.count_append, List.take_append_drop]
theorem tens_append (a b : List UInt8) : tens (a ++ b) = tens a + tens b := by unfold tens; rw [List.count_append]
theorem lst_zero_or {l : List UInt8} {p : Nat} : lst l p = 0 ∨ (0 < lst l p ∧ byL l (lst l p - 1) = 10) := by
  by_cases h : lst l p = 0
  · exact .inl h
  · exact .inr ⟨by omega, lst_ten l p (by omega)⟩
end Go.Proofs.Ytbilknmcikmcoaa
/- The statements SeekLeads and SeekBack in plain words: facts. -/
namespace Go.Proofs.Ytbilknmcikmcoaa
open Go.RowKit
set_option linter.unusedVariables false
set_option linter.unusedSimpArgs false
open Go.RowKit Go.Proofs.YtbilknmcikmcoaaW.PrintWords Go.Proofs.YtbilknmcikmcoaaW.PrintMore
theorem next_prev {l : List UInt8} {x : Nat} (h : placeB l x = true) (h0 : 0 < x) : ∃ y : Nat, prevI l x = y ∧ y < x ∧ placeB l y = true ∧ nextI l y = x ∧ ∀ f : Nat, placeB l f = true → f < x → f ≤ y := by
  obtain ⟨_, hle, hv⟩ := valid_at h
  obtain ⟨h1, h2, h3⟩ := prev_gap hv (x - 1) (by omega)
  obtain ⟨n, g1, g2, g3, g4, g5⟩ := next_gap h2 (by omega)
  refine ⟨_, prevI_at h h0, by omega, h2, ?_, fun f hf hlt => ?_⟩
  · rw [g1]
    have a1 : n ≤ x := by
      rcases Nat.lt_or_ge x n with hc | hc
      · rw [g5 x (by omega) hc] at h; cases h
      · exact hc
    have a2 : x ≤ n := by
      rcases Nat.lt_or_ge n x with hc | hc
      · rw [h3 n g2 (by omega)] at g4; cases g4
      · exact hc
    omega
  · rcases Nat.lt_or_ge (prevFrom l (x - 1)) f with hc | hc
    · rw [h3 f hc (by omega)] at hf; cases hf
    · exact hc
theorem prev_next {l : List UInt8} {x : Nat} (h : placeB l x = true) (hx : x < l.length) : ∃ n : Nat, nextI l x = n ∧ x < n ∧ n ≤ l.length ∧ placeB l n = true ∧ prevI l n = x ∧ ∀ f : Nat, placeB l f = true → x < f → n ≤ f := by
  obtain ⟨n, g1, g2, g3, g4, g5⟩ := next_gap h hx
  have gf : ∀ f : Nat, placeB l f = true → x < f → n ≤ f := fun f hf hlt => by
    rcases Nat.lt_or_ge f n with hc | hc
    · rw [g5 f hlt hc] at hf; cases hf
    · exact hc
  obtain ⟨y, k1, k2, k3, k4, k5⟩ := next_prev g4 (by omega)
  refine ⟨n, g1, g2, g3, g4, ?_, gf⟩
  have a1 := k5 x h g2
  have a2 : y ≤ x := by
    rcases Nat.lt_or_ge x y with hc | hc
    · have := gf y k3 hc; omega
    · exact hc
  rw [k1]; omega
theorem fds_up (l : List UInt8) (i : Nat) : ∀ d, i + d ≤ l.length → fds l i ≤ fds l (i + d)
  | 0, _ => Nat.le_refl _
  | d + 1, h => by
    have := fds_up l i d (by omega)
    rw [← Nat.add_assoc, fds_succ l (i + d) (by omega)]; omega
theorem in_line {l : List UInt8} {p e j : Nat} (hp : placeB l p = true) (he : endI l (ofI l p) = e) (h1 : lst l p ≤ j) (h2 : j ≤ e) : ofI l j = ofI l p ∧ lst l j = lst l p ∧ endI l (ofI l j) = e := by
  obtain ⟨_, hle, hv⟩ := valid_at hp
  obtain ⟨g1, g2⟩ := line_fds hp he
  obtain ⟨_, _, e3⟩ := end_gt hp he
  have a1 := fds_up l (lst l p) (j - lst l p) (by omega)
  have a2 := fds_up l j (e - j) (by omega)
  rw [show lst l p + (j - lst l p) = j by omega] at a1
  rw [show j + (e - j) = e by omega] at a2
  obtain ⟨s1, s2, _⟩ := start_of (p := j) (show j ≤ l.length by omega) hv
  obtain ⟨t1, t2, _⟩ := start_of hle hv
  have eo : ofI l j = ofI l p := by rw [s1, t1]; omega
  refine ⟨eo, ?_, by rw [eo]; exact he⟩
  rw [eo, t2] at s2; omega
theorem hits_add (l r : List UInt8) (i d1 d2 : Nat) : hits l r i (d1 + d2) = hits l r i d1 ++ hits l r (i + d1) d2 := by
  unfold hits; rw [← List.filter_append]; congr 1
  simp
theorem hits_sorted (l r : List UInt8) (i d : Nat) : (hits l r i d).Pairwise (· < ·) := by
  unfold hits; exact List.Pairwise.filter _ (List.pairwise_lt_range' ..)
theorem hit_at {l r : List UInt8} {x : Nat} (h : hitB l r x = true) : placeB l x = true ∧ runeL l x = r := by
  unfold hitB at h; simpa using h
theorem is_ne {r : List UInt8} (h : isL r = true) : r ≠ [] := by rintro rfl; simp [isL] at h
theorem hit_mem {l r : List UInt8} {i d x : Nat} (h1 : i ≤ x) (h2 : x < i + d) (hr : r ≠ []) (h : runeL l x = r) : x ∈ hits l r i d := by
  have hp : placeB l x = true := by
    unfold runeL at h
    split at h
    · rename_i hc; exact hc.1
    · exact absurd h.symm hr
  unfold hits
  refine List.mem_filter.2 ⟨List.mem_range'_1.2 ⟨h1, h2⟩, ?_⟩
  unfold hitB; rw [hp, h]; simp
def tgt (l : List UInt8) (k : Int) (x : Nat) : Int := if k = 116 then prevI l x else if k = 84 then nextI l x else x
theorem seek_shape {l r : List UInt8} {p e : Nat} {k : Int} (hb : rightB k r = true) (hp : placeB l p = true) (he : endI l (ofI l p) = e) (n : Int) :
    seekI l p k r n = match nthO (if k = 70 ∨ k = 84 then (hits l r (lst l p) (p - lst l p)).reverse else hits l r (p + 1) (e - (p + 1))) (max n 1) with
      | none => (0, false) | some x => (tgt l k x, true) := by
  unfold seekI seekO tgt
  rw [if_pos ⟨hb, hp⟩, Int.toNat_natCast, he, Int.toNat_natCast]
  by_cases hc : k = 70 ∨ k = 84
  · rw [if_pos hc, if_pos hc]; cases nthO (hits l r (lst l p) (p - lst l p)).reverse (max n 1) <;> rfl
  · rw [if_neg hc, if_neg hc]; cases nthO (hits l r (p + 1) (e - (p + 1))) (max n 1) <;> rfl
theorem nth_some {L : List Nat} {n : Int} {x : Nat} (h : nthO L (max n 1) = some x) : ∃ c : Nat, max n 1 = (c : Int) + 1 ∧ ∃ hc : c < L.length, L[c] = x := by
  unfold nthO at h
  obtain ⟨h1, h2⟩ := List.getElem?_eq_some_iff.1 h
  exact ⟨(max n 1 - 1).toNat, by omega, h1, h2⟩
theorem nth_mk {L : List Nat} {n : Int} {c : Nat} (hc : max n 1 = (c : Int) + 1) (h : c < L.length) : nthO L (max n 1) = some L[c] := by
  unfold nthO; rw [show (max n 1 - 1).toNat = c by omega, List.getElem?_eq_getElem h]
theorem nth_one (L : List Nat) : nthO L (max 1 1) = L[0]? := rfl
theorem nth_empty (n : Int) : nthO [] (max n 1) = none := rfl
theorem sorted_pos {L A B : List Nat} {x c : Nat} (hs : L.Pairwise (· ≠ ·)) (e : L = A ++ x :: B) (hc : c < L.length) (h : L[c] = x) : c = A.length := by
  subst e
  have hA : A.length < (A ++ x :: B).length := by simp
  have h2 : (A ++ x :: B)[A.length] = x := by simp
  have key := List.pairwise_iff_getElem.1 hs
  rcases Nat.lt_trichotomy c A.length with hl | hl | hl
  · exact absurd (h.trans h2.symm) (key c A.length hc hA hl)
  · exact hl
  · exact absurd (h2.trans h.symm) (key A.length c hA hc hl)
theorem ten_rune {l : List UInt8} {p : Nat} (hp : placeB l p = true) (hl : p < l.length) (h : byL l p = 10) : runeL l p = [10] := by
  obtain ⟨hz, hle⟩ := sz_at hp hl
  obtain ⟨_, h2, _, _⟩ := szL_pos hz
  rw [byL_drop, Nat.add_zero, h] at h2
  have h3 : szL (l.drop p) = 1 := by have : fSize 10 = 1 := by decide
                                     omega
  unfold runeL
  rw [if_pos ⟨hp, by omega⟩, Int.toNat_natCast, h3, List.drop_eq_getElem_cons hl]
  have h4 : l[p] = 10 := by rw [← byL_ten hl]; exact h
  rw [h4]; rfl
theorem rune_place {l r : List UInt8} {p : Int} (hr : r ≠ []) (h : runeL l p = r) : ∃ q : Nat, p = q ∧ q < l.length ∧ placeB l q = true := by
  unfold runeL at h
  split at h
  · rename_i hc
    obtain ⟨q, rfl, hq⟩ : ∃ q : Nat, p = q ∧ q ≤ l.length := by
      have := hc.1; unfold placeB at this; simp at this; exact ⟨p.toNat, by omega, by omega⟩
    exact ⟨q, rfl, by have := hc.2; omega, hc.1⟩
  · exact absurd h.symm hr
theorem back_core {l r : List UInt8} {p k n : Int} {x : Int} (hb : rightB k r = true) (hk : k = 102 ∨ k = 70) (hru : runeL l p = r) (h : seekI l p k r n = (x, true)) : seekI l x (turnK k) r n = (p, true) := by
  have hb' := (right_eq k r).1 hb
  have hil := ((right_is k r).1 hb).2.1
  have hne := is_ne hil
  obtain ⟨q, rfl, hq, hp⟩ := rune_place hne hru
  obtain ⟨e, q1, q2, q3, q4, q5, q6, q7⟩ := line_at hp
  have hqe : q < e := by
    have := (end_gt hp q2).1.2 ⟨hq, fun h10 => hb'.2.2 (by rw [← hru]; exact ten_rune hp hq h10)⟩
    exact this
  have hbt : rightB (turnK k) r = true := by
    refine (right_eq _ r).2 ⟨?_, hb'.2⟩
    rcases hk with rfl | rfl
    · right; left; rfl
    · left; rfl
  rw [seek_shape hb hp q2] at h
  rcases hk with rfl | rfl
  · rw [if_neg (by omega)] at h
    cases hL : nthO (hits l r (q + 1) (e - (q + 1))) (max n 1) with
    | none => rw [hL] at h; cases h
    | some y =>
      rw [hL] at h
      have hx : x = y := by simpa [tgt] using h.symm
      subst hx
      obtain ⟨c, hc, hlt, hy⟩ := nth_some hL
      obtain ⟨m1, m2, m3⟩ := hits_mem (hy ▸ List.getElem_mem hlt)
      obtain ⟨mp, mr⟩ := hit_at m3
      obtain ⟨i1, i2, i3⟩ := in_line (j := y) hp q2 (by omega) (by omega)
      rw [seek_shape hbt mp i3, i2, if_pos (show turnK 102 = 70 ∨ turnK 102 = 84 from .inl rfl)]
      have e1 : hits l r (q + 1) (e - (q + 1)) = hits l r (q + 1) (y - (q + 1)) ++ y :: hits l r (y + 1) (e - (y + 1)) := by
        rw [show e - (q + 1) = (y - (q + 1)) + (e - y) by omega, hits_add, show q + 1 + (y - (q + 1)) = y by omega, show e - y = (e - (y + 1)) + 1 by omega, hits_succ, if_pos m3]
      have hcA := sorted_pos ((hits_sorted l r _ _).imp (fun h => Nat.ne_of_lt h)) e1 hlt hy
      have e2 : hits l r (lst l q) (y - lst l q) = hits l r (lst l q) (q - lst l q) ++ q :: hits l r (q + 1) (y - (q + 1)) := by
        have hh : hitB l r q = true := by unfold hitB; rw [hp, hru]; simp
        rw [show y - lst l q = (q - lst l q) + (y - q) by omega, hits_add, show lst l q + (q - lst l q) = q by omega, show y - q = (y - (q + 1)) + 1 by omega, hits_succ, if_pos hh]
      have e3 : nthO (hits l r (lst l q) (y - lst l q)).reverse (max n 1) = some q := by
        unfold nthO
        rw [show (max n 1 - 1).toNat = (hits l r (q + 1) (y - (q + 1))).length by omega, e2]
        simp
      rw [e3]; rfl
  · rw [if_pos (by omega)] at h
    cases hL : nthO (hits l r (lst l q) (q - lst l q)).reverse (max n 1) with
    | none => rw [hL] at h; cases h
    | some y =>
      rw [hL] at h
      have hx : x = y := by simpa [tgt] using h.symm
      subst hx
      obtain ⟨c, hc, hlt, hy⟩ := nth_some hL
      obtain ⟨m1, m2, m3⟩ := hits_mem (List.mem_reverse.1 (hy ▸ List.getElem_mem hlt))
      obtain ⟨mp, mr⟩ := hit_at m3
      obtain ⟨i1, i2, i3⟩ := in_line (j := y) hp q2 (by omega) (by omega)
      rw [seek_shape hbt mp i3, if_neg (show ¬ (turnK 70 = 70 ∨ turnK 70 = 84) by decide)]
      have e1 : hits l r (lst l q) (q - lst l q) = hits l r (lst l q) (y - lst l q) ++ y :: hits l r (y + 1) (q - (y + 1)) := by
        rw [show q - lst l q = (y - lst l q) + (q - y) by omega, hits_add, show lst l q + (y - lst l q) = y by omega, show q - y = (q - (y + 1)) + 1 by omega, hits_succ, if_pos m3]
      have e1' : (hits l r (lst l q) (q - lst l q)).reverse = (hits l r (y + 1) (q - (y + 1))).reverse ++ y :: (hits l r (lst l q) (y - lst l q)).reverse := by rw [e1]; simp
      have hcA := sorted_pos (List.pairwise_reverse.2 ((hits_sorted l r _ _).imp (fun h => (Nat.ne_of_lt h).symm))) e1' hlt hy
      rw [List.length_reverse] at hcA
      have e2 : hits l r (y + 1) (e - (y + 1)) = hits l r (y + 1) (q - (y + 1)) ++ q :: hits l r (q + 1) (e - (q + 1)) := by
        have hh : hitB l r q = true := by unfold hitB; rw [hp, hru]; simp
        rw [show e - (y + 1) = (q - (y + 1)) + (e - q) by omega, hits_add, show y + 1 + (q - (y + 1)) = q by omega, show e - q = (e - (q + 1)) + 1 by omega, hits_succ, if_pos hh]
      have e3 : nthO (hits l r (y + 1) (e - (y + 1))) (max n 1) = some q := by
        unfold nthO
        rw [show (max n 1 - 1).toNat = (hits l r (y + 1) (q - (y + 1))).length by omega, e2]
        simp
      rw [e3]; rfl
end Go.Proofs.Ytbilknmcikmcoaa
-- Printed by this work's xp.py out of the translation. Lean checks it.
namespace Go.Proofs.Ytbilknmcikmcoaa.Q
open Go.RowKit Go.Proofs.YtbilknmcikmcoaaW.PrintWords Go.Proofs.YtbilknmcikmcoaaW.PrintLast Go.Proofs.YtbilknmcikmcoaaW.PrintMore
attribute [local go_sem] max2_int min2_int max_two min_two max_three min_three max_four min_four   -- for this text's walks alone
set_option linter.unusedVariables false
set_option linter.unusedSimpArgs false


/-! ### calamuslaw16_SeekLeads -/
mutual
def calamuslaw16_SeekLeads.j0 : Nat → ByteArray → Int → Int → Int → Bool → Bool → Int → ByteArray → Option (Bool)
  | 0, _, _, _, _, _, _, _, _ => none
  | k + 1, x0, x1, x9, x11, x12, x62, x162000, x162001 => if x62 = true then (some false) else (if x162000 = 116 then ((utf_Next.f x0 x9).bind fun t171 => (calamuslaw16_SeekLeads.j1 k x0 x1 x9 x11 x12 t171 x162000 x162001)) else (if x162000 = 84 then ((utf_Prev.f x0 x9).bind fun t172 => (calamuslaw16_SeekLeads.j1 k x0 x1 x9 x11 x12 t172 x162000 x162001)) else (calamuslaw16_SeekLeads.j1 k x0 x1 x9 x11 x12 x9 x162000 x162001)))
def calamuslaw16_SeekLeads.j1 : Nat → ByteArray → Int → Int → Int → Bool → Int → Int → ByteArray → Option (Bool)
  | 0, _, _, _, _, _, _, _, _ => none
  | k + 1, x0, x1, x9, x11, x12, x13, x162000, x162001 => (utf_Rune.f x0 x13).bind fun t173 => (if t173.toList = x162001.toList then (calamuslaw16_SeekLeads.l0 k x0 x1 x9 x11 x12 x13 (wrap64 ((mn x13 x1) + 1)) x162000 x162001) else (some false))
def calamuslaw16_SeekLeads.l0 : Nat → ByteArray → Int → Int → Int → Bool → Int → Int → Int → ByteArray → Option (Bool)
  | 0, _, _, _, _, _, _, _, _, _ => none
  | k + 1, x0, x1, x9, x11, x12, x13, x14, x162000, x162001 => if x14 < (mx x13 x1) then ((utf_Rune.f x0 x14).bind fun t174 => (if t174.toList = x162001.toList then (some false) else (calamuslaw16_SeekLeads.l0 k x0 x1 x9 x11 x12 x13 (wrap64 (x14 + 1)) x162000 x162001))) else (if x162000 = 102 then (if ((decide (x13 > x1)) == true) = true then (if x12 = true then (if x11 ≥ x9 then ((calamuslaw16_lives.f).bind fun t175 => (some t175)) else (some false)) else ((calamuslaw16_lives.f).bind fun t176 => (some t176))) else (some false)) else (if ((decide (x13 > x1)) == (x162000 == 116)) = true then (if x12 = true then (if x162000 = 116 then (if x11 ≥ x9 then ((calamuslaw16_lives.f).bind fun t177 => (some t177)) else (some false)) else (if x11 ≤ x9 then ((calamuslaw16_lives.f).bind fun t178 => (some t178)) else (some false))) else ((calamuslaw16_lives.f).bind fun t179 => (some t179))) else (some false)))
end
def calamuslaw16_SeekLeads.f (k : Nat) (a0 : ByteArray) (a1 : Int) (a2_0 : Int) (a2_1 : ByteArray) (a3 : Int) : Option (Bool) := if (a0.size : Int) > 300 then ((calamuslaw16_lives.f).bind fun t162 => (some t162)) else ((seek_Go.f a0 a1 a2_0 a2_1 1).bind fun bt163 => ((seek_Go.f a0 a1 a2_0 a2_1 a3).bind fun bt165 => (if bt163.2 = true then ((line_Of.f a0 bt163.1).bind fun t168 => ((line_Of.f a0 a1).bind fun t169 => (if t168 = t169 then ((utf_Place.f a0 bt163.1).bind fun t170 => (calamuslaw16_SeekLeads.j0 k a0 a1 bt163.1 bt165.1 bt165.2 (!t170) a2_0 a2_1)) else (calamuslaw16_SeekLeads.j0 k a0 a1 bt163.1 bt165.1 bt165.2 true a2_0 a2_1)))) else (if bt163.1 = 0 then (if bt165.1 = 0 then (if bt165.2 = true then (some false) else ((calamuslaw16_lives.f).bind fun t167 => (some t167))) else (some false)) else (some false)))))
theorem calamuslaw16_SeekLeads.mono_l : ∀ k, (∀ y0 y1 y2 y3 y4 y5 y6 y7, LeO (calamuslaw16_SeekLeads.j0 k y0 y1 y2 y3 y4 y5 y6 y7) (calamuslaw16_SeekLeads.j0 (k + 1) y0 y1 y2 y3 y4 y5 y6 y7)) ∧ (∀ y0 y1 y2 y3 y4 y5 y6 y7, LeO (calamuslaw16_SeekLeads.j1 k y0 y1 y2 y3 y4 y5 y6 y7) (calamuslaw16_SeekLeads.j1 (k + 1) y0 y1 y2 y3 y4 y5 y6 y7)) ∧ (∀ y0 y1 y2 y3 y4 y5 y6 y7 y8, LeO (calamuslaw16_SeekLeads.l0 k y0 y1 y2 y3 y4 y5 y6 y7 y8) (calamuslaw16_SeekLeads.l0 (k + 1) y0 y1 y2 y3 y4 y5 y6 y7 y8))
  | 0 => ⟨fun _ _ _ _ _ _ _ _ r h => by simp [calamuslaw16_SeekLeads.j0] at h, fun _ _ _ _ _ _ _ _ r h => by simp [calamuslaw16_SeekLeads.j1] at h, fun _ _ _ _ _ _ _ _ _ r h => by simp [calamuslaw16_SeekLeads.l0] at h⟩
  | k + 1 => by
    obtain ⟨ih0, ih1, ih2⟩ := calamuslaw16_SeekLeads.mono_l k
    refine ⟨?_, ?_, ?_⟩
    · intro y0 y1 y2 y3 y4 y5 y6 y7
      unfold calamuslaw16_SeekLeads.j0
      repeat' first
      | (with_reducible exact ih0 _ _ _ _ _ _ _ _)
      | (with_reducible exact ih1 _ _ _ _ _ _ _ _)
      | (with_reducible exact ih2 _ _ _ _ _ _ _ _ _)
      | (with_reducible exact LeO.refl _)
      | (with_reducible exact LeO.none _)
      | (with_reducible refine LeO.ite ?_ ?_)
      | (with_reducible refine LeO.bind ?_ (fun _ => ?_))
      | exact ih0 _ _ _ _ _ _ _ _
      | exact ih1 _ _ _ _ _ _ _ _
      | exact ih2 _ _ _ _ _ _ _ _ _
      | exact LeO.none _
      | refine LeO.ite ?_ ?_
      | refine LeO.bind ?_ (fun _ => ?_)
    · intro y0 y1 y2 y3 y4 y5 y6 y7
      unfold calamuslaw16_SeekLeads.j1
      repeat' first
      | (with_reducible exact ih0 _ _ _ _ _ _ _ _)
      | (with_reducible exact ih1 _ _ _ _ _ _ _ _)
      | (with_reducible exact ih2 _ _ _ _ _ _ _ _ _)
      | (with_reducible exact LeO.refl _)
      | (with_reducible exact LeO.none _)
      | (with_reducible refine LeO.ite ?_ ?_)
      | (with_reducible refine LeO.bind ?_ (fun _ => ?_))
      | exact ih0 _ _ _ _ _ _ _ _
      | exact ih1 _ _ _ _ _ _ _ _
      | exact ih2 _ _ _ _ _ _ _ _ _
      | exact LeO.none _
      | refine LeO.ite ?_ ?_
      | refine LeO.bind ?_ (fun _ => ?_)
    · intro y0 y1 y2 y3 y4 y5 y6 y7 y8
      unfold calamuslaw16_SeekLeads.l0
      repeat' first
      | (with_reducible exact ih0 _ _ _ _ _ _ _ _)
      | (with_reducible exact ih1 _ _ _ _ _ _ _ _)
      | (with_reducible exact ih2 _ _ _ _ _ _ _ _ _)
      | (with_reducible exact LeO.refl _)
      | (with_reducible exact LeO.none _)
      | (with_reducible refine LeO.ite ?_ ?_)
      | (with_reducible refine LeO.bind ?_ (fun _ => ?_))
      | exact ih0 _ _ _ _ _ _ _ _
      | exact ih1 _ _ _ _ _ _ _ _
      | exact ih2 _ _ _ _ _ _ _ _ _
      | exact LeO.none _
      | refine LeO.ite ?_ ?_
      | refine LeO.bind ?_ (fun _ => ?_)
theorem calamuslaw16_SeekLeads.mono : ∀ a0 a1 a2 a3 a4 k, LeO (calamuslaw16_SeekLeads.f k a0 a1 a2 a3 a4) (calamuslaw16_SeekLeads.f (k + 1) a0 a1 a2 a3 a4) := by
  intro a0 a1 a2 a3 a4 k
  obtain ⟨ih0, ih1, ih2⟩ := calamuslaw16_SeekLeads.mono_l k
  unfold calamuslaw16_SeekLeads.f
  repeat' first
      | (with_reducible exact ih0 _ _ _ _ _ _ _ _)
      | (with_reducible exact ih1 _ _ _ _ _ _ _ _)
      | (with_reducible exact ih2 _ _ _ _ _ _ _ _ _)
      | (with_reducible exact LeO.refl _)
      | (with_reducible exact LeO.none _)
      | (with_reducible refine LeO.ite ?_ ?_)
      | (with_reducible refine LeO.bind ?_ (fun _ => ?_))
      | exact ih0 _ _ _ _ _ _ _ _
      | exact ih1 _ _ _ _ _ _ _ _
      | exact ih2 _ _ _ _ _ _ _ _ _
      | exact LeO.none _
      | refine LeO.ite ?_ ?_
      | refine LeO.bind ?_ (fun _ => ?_)
set_option maxHeartbeats 8000000 in
set_option maxRecDepth 100000 in
theorem calamuslaw16_SeekLeads.calls (k : Nat) (a0 : ByteArray) (a1 : Int) (a2_0 : Int) (a2_1 : ByteArray) (a3 : Int) (r : Bool) (w : World) (h : calamuslaw16_SeekLeads.f k a0 a1 a2_0 a2_1 a3 = some r) :
    Calls Try.prog 4 #[.string a0, .int .i64 a1, .agg #[.int .i64 a2_0, .string a2_1], .int .i64 a3] w fun e w' => e = .returned (.bool r) ∧ Below w.heap.size w w' := by
  have hu23 := Try.underlying23
  have HB := Aside0.mk (Below.refl w.heap.size w)
  have H : (if (a0.size : Int) > 300 then ((calamuslaw16_lives.f).bind fun t162 => (some t162)) else ((seek_Go.f a0 a1 a2_0 a2_1 1).bind fun bt163 => ((seek_Go.f a0 a1 a2_0 a2_1 a3).bind fun bt165 => (if bt163.2 = true then ((line_Of.f a0 bt163.1).bind fun t168 => ((line_Of.f a0 a1).bind fun t169 => (if t168 = t169 then ((utf_Place.f a0 bt163.1).bind fun t170 => (calamuslaw16_SeekLeads.j0 k a0 a1 bt163.1 bt165.1 bt165.2 (!t170) a2_0 a2_1)) else (calamuslaw16_SeekLeads.j0 k a0 a1 bt163.1 bt165.1 bt165.2 true a2_0 a2_1)))) else (if bt163.1 = 0 then (if bt165.1 = 0 then (if bt165.2 = true then (some false) else ((calamuslaw16_lives.f).bind fun t167 => (some t167))) else (some false)) else (some false)))))) = some r := h
  clear h
  by_cases c5 : (a0.size : Int) > 300
  · rw [if_pos c5] at H
    have c5b0 : decide (300 < (a0.size : Int)) = true := decide_eq_true c5
    have c5b1 : decide (300 < a0.size) = true := decide_eq_true (by omega)
    clear c5
    replace H := Option.bind_eq_some_iff.mp H
    obtain ⟨t162, A60, H⟩ := H
    replace H : (some t162) = some r := H
    have A6 := Aside0.mk A60
    clear A60
    obtain rfl := Option.some.inj H
    go_enter Try.func4, Try.ntmps4
    go_wp2_with (first | ((with_reducible refine gate_dst (N := 6) rfl ?_); refine box_event ?hg (N := 6) ?hd (cs := #[.int .i64 a2_0, .string a2_1]) (t := 23) ?hr ?_; (case hd => rfl); (case hg => rfl); (case hr => first | (go_simp; done) | (go_simp; rfl)); intro gb161 hg w7 hbox hb; have n0_ := Aside0.mk (below_step (by repeat (first | (with_reducible first | exact HB.out | apply below_alloc | apply pw_below_drewN | apply below_drew1) | exact HB.out)) hb); have n1_ := Aside0.mk (hbox); have n2_ := Aside0.mk ((by rw [hg]; exact (below_size (by repeat (first | (with_reducible first | exact HB.out | apply below_alloc | apply pw_below_drewN | apply below_drew1) | exact HB.out))) : w.heap.size ≤ gb161)); have n3_ := Aside0.mk ((by rw [hg]; exact (below_size (by repeat (first | (with_reducible first | exact HB.out | apply below_alloc | apply pw_below_drewN | apply below_drew1) | exact HB.out))) : w.heap.size ≤ gb161)); clear HB; have HB := n0_; have BK161 := n1_; have GW161 := n2_; have GE161 := n3_; clear n0_ n1_ n2_ n3_; clear hb hbox hg) | ((with_reducible refine gate_callee (f := 7) rfl ?_); refine goesL_ (some 19) rfl rfl Try.func7 (by kernel_rfl) rfl #[] rfl (by (try simp only [List.map_toArray, List.map_cons, List.map_nil]); first | done | rfl | (simp only [List.length_drop, List.length_take]; rfl)) ?_; (with_reducible refine (calamuslaw16_lives.calls  t162 _ A6.out).mono ?_); rintro e w8 ⟨rfl, hb⟩; refine ⟨_, rfl, ?_⟩; have n0_ := Aside0.mk (blk_below (g := gb161) (o := .cells #[.int .i64 a2_0, .string a2_1] 23 (0, 0)) (by (with_reducible repeat (first | refine blk_drewN ?_ _ | refine blk_drew ?_ | refine blk_alloc ?_ _)); exact BK161.out) hb); have n1_ := Aside0.mk (below_step (by repeat (first | (with_reducible first | exact HB.out | apply below_alloc | apply pw_below_drewN | apply below_drew1 | refine below_set ?_ GE161.out) | exact HB.out)) hb); clear BK161; clear HB; have BK161 := n0_; have HB := n1_; clear n0_ n1_; (try clear hb); (try clear hb2); (try clear hk); (try clear hi)))
    go_ret
    exact ⟨by first | rfl | (simp [errW_none, errW_some] <;> rfl) | (simp [*, errW_none, errW_some] <;> rfl), by repeat (first | (with_reducible first | exact HB.out | apply below_alloc | apply pw_below_drewN | apply below_drew1 | refine below_set ?_ GE161.out) | exact HB.out)⟩
  · rw [if_neg c5] at H
    have c5b0 : decide (300 < (a0.size : Int)) = false := decide_eq_false c5
    have c5b1 : decide (300 < a0.size) = false := decide_eq_false (by omega)
    clear c5
    replace H := Option.bind_eq_some_iff.mp H
    obtain ⟨⟨t163, t164⟩, A90, H⟩ := H
    replace H : ((seek_Go.f a0 a1 a2_0 a2_1 a3).bind fun bt165 => (if t164 = true then ((line_Of.f a0 t163).bind fun t168 => ((line_Of.f a0 a1).bind fun t169 => (if t168 = t169 then ((utf_Place.f a0 t163).bind fun t170 => (calamuslaw16_SeekLeads.j0 k a0 a1 t163 bt165.1 bt165.2 (!t170) a2_0 a2_1)) else (calamuslaw16_SeekLeads.j0 k a0 a1 t163 bt165.1 bt165.2 true a2_0 a2_1)))) else (if t163 = 0 then (if bt165.1 = 0 then (if bt165.2 = true then (some false) else ((calamuslaw16_lives.f).bind fun t167 => (some t167))) else (some false)) else (some false)))) = some r := H
    have A9 := Aside0.mk A90
    clear A90
    replace H := Option.bind_eq_some_iff.mp H
    obtain ⟨⟨t165, t166⟩, A100, H⟩ := H
    replace H : (if t164 = true then ((line_Of.f a0 t163).bind fun t168 => ((line_Of.f a0 a1).bind fun t169 => (if t168 = t169 then ((utf_Place.f a0 t163).bind fun t170 => (calamuslaw16_SeekLeads.j0 k a0 a1 t163 t165 t166 (!t170) a2_0 a2_1)) else (calamuslaw16_SeekLeads.j0 k a0 a1 t163 t165 t166 true a2_0 a2_1)))) else (if t163 = 0 then (if t165 = 0 then (if t166 = true then (some false) else ((calamuslaw16_lives.f).bind fun t167 => (some t167))) else (some false)) else (some false))) = some r := H
    have A10 := Aside0.mk A100
    clear A100
    by_cases c11 : t164 = true
    · subst c11
      have H1 : ((line_Of.f a0 t163).bind fun t168 => ((line_Of.f a0 a1).bind fun t169 => (if t168 = t169 then ((utf_Place.f a0 t163).bind fun t170 => (calamuslaw16_SeekLeads.j0 k a0 a1 t163 t165 t166 (!t170) a2_0 a2_1)) else (calamuslaw16_SeekLeads.j0 k a0 a1 t163 t165 t166 true a2_0 a2_1)))) = some r := by rw [if_pos rfl] at H; exact H
      clear H
      have H := H1
      clear H1
      have HC12 := Aside0.mk H
      clear H
      go_enter Try.func4, Try.ntmps4
      go_upto_region 7 with (first | ((with_reducible refine gate_dst (N := 6) rfl ?_); refine box_event ?hg (N := 6) ?hd (cs := #[.int .i64 a2_0, .string a2_1]) (t := 23) ?hr ?_; (case hd => rfl); (case hg => rfl); (case hr => first | (go_simp; done) | (go_simp; rfl)); intro gb161 hg w13 hbox hb; have n0_ := Aside0.mk (below_step (by repeat (first | (with_reducible first | exact HB.out | apply below_alloc | apply pw_below_drewN | apply below_drew1) | exact HB.out)) hb); have n1_ := Aside0.mk (hbox); have n2_ := Aside0.mk ((by rw [hg]; exact (below_size (by repeat (first | (with_reducible first | exact HB.out | apply below_alloc | apply pw_below_drewN | apply below_drew1) | exact HB.out))) : w.heap.size ≤ gb161)); have n3_ := Aside0.mk ((by rw [hg]; exact (below_size (by repeat (first | (with_reducible first | exact HB.out | apply below_alloc | apply pw_below_drewN | apply below_drew1) | exact HB.out))) : w.heap.size ≤ gb161)); clear HB; have HB := n0_; have BK161 := n1_; have GW161 := n2_; have GE161 := n3_; clear n0_ n1_ n2_ n3_; clear hb hbox hg; have hcz14_0 : w13.cell? ⟨gb161, 0, none⟩ = some (.int .i64 a2_0) := (blk_cell BK161.out 0).trans rfl; have hcz14_1 : w13.cell? ⟨gb161, 1, none⟩ = some (.string a2_1) := (blk_cell BK161.out 1).trans rfl; have hfz14_0 := blk_frozen BK161.out 0; have hfz14_1 := blk_frozen BK161.out 1) | ((with_reducible refine gate_callee (f := 8) rfl ?_); refine goesL_ (some 24) rfl rfl Try.func8 (by kernel_rfl) rfl #[.string a0, .int .i64 a1, .agg #[.int .i64 a2_0, .string a2_1], .int .i64 1] rfl (by (try simp only [List.map_toArray, List.map_cons, List.map_nil]); first | done | rfl | (simp only [List.length_drop, List.length_take]; rfl)) ?_; (with_reducible refine (seek_Go.calls a0 a1 a2_0 a2_1 1 t163 true _ A9.out).mono ?_); rintro e w15 ⟨rfl, hb⟩; refine ⟨_, rfl, ?_⟩; have n0_ := Aside0.mk (blk_below (g := gb161) (o := .cells #[.int .i64 a2_0, .string a2_1] 23 (0, 0)) (by (with_reducible repeat (first | refine blk_drewN ?_ _ | refine blk_drew ?_ | refine blk_alloc ?_ _)); exact BK161.out) hb); have n1_ := Aside0.mk (below_step (by repeat (first | (with_reducible first | exact HB.out | apply below_alloc | apply pw_below_drewN | apply below_drew1 | refine below_set ?_ GE161.out) | exact HB.out)) hb); clear BK161; clear HB; have BK161 := n0_; have HB := n1_; clear n0_ n1_; (try clear hb); (try clear hb2); (try clear hk); (try clear hi); have hcz16_0 : w15.cell? ⟨gb161, 0, none⟩ = some (.int .i64 a2_0) := (blk_cell BK161.out 0).trans rfl; have hcz16_1 : w15.cell? ⟨gb161, 1, none⟩ = some (.string a2_1) := (blk_cell BK161.out 1).trans rfl; have hfz16_0 := blk_frozen BK161.out 0; have hfz16_1 := blk_frozen BK161.out 1) | ((with_reducible refine gate_callee (f := 8) rfl ?_); refine goesL_ (some 32) rfl rfl Try.func8 (by kernel_rfl) rfl #[.string a0, .int .i64 a1, .agg #[.int .i64 a2_0, .string a2_1], .int .i64 a3] rfl (by (try simp only [List.map_toArray, List.map_cons, List.map_nil]); first | done | rfl | (simp only [List.length_drop, List.length_take]; rfl)) ?_; (with_reducible refine (seek_Go.calls a0 a1 a2_0 a2_1 a3 t165 t166 _ A10.out).mono ?_); rintro e w17 ⟨rfl, hb⟩; refine ⟨_, rfl, ?_⟩; have n0_ := Aside0.mk (blk_below (g := gb161) (o := .cells #[.int .i64 a2_0, .string a2_1] 23 (0, 0)) (by (with_reducible repeat (first | refine blk_drewN ?_ _ | refine blk_drew ?_ | refine blk_alloc ?_ _)); exact BK161.out) hb); have n1_ := Aside0.mk (below_step (by repeat (first | (with_reducible first | exact HB.out | apply below_alloc | apply pw_below_drewN | apply below_drew1 | refine below_set ?_ GE161.out) | exact HB.out)) hb); clear BK161; clear HB; have BK161 := n0_; have HB := n1_; clear n0_ n1_; (try clear hb); (try clear hb2); (try clear hk); (try clear hi)))
      (try simp only [Act.put, List.setIfInBounds_toArray, List.set_cons_zero, List.set_cons_succ])
      go_cut [62] (fun v62 wc => ∃ (kq : Nat) (x62_11 : Bool), v62 = .bool x62_11 ∧ Aside0 (calamuslaw16_SeekLeads.j0 kq a0 a1 t163 t165 t166 x62_11 a2_0 a2_1 = some r) ∧ Aside0 (kq ≤ k) ∧ Aside0 (wc.heap[gb161]? = some (.cells #[.int .i64 a2_0, .string a2_1] 23 (0, 0))) ∧ Aside0 (Below w.heap.size w wc))
      case first =>
        have H := HC12.out
        clear HC12
        replace H := Option.bind_eq_some_iff.mp H
        obtain ⟨t168, A180, H⟩ := H
        replace H : ((line_Of.f a0 a1).bind fun t169 => (if t168 = t169 then ((utf_Place.f a0 t163).bind fun t170 => (calamuslaw16_SeekLeads.j0 k a0 a1 t163 t165 t166 (!t170) a2_0 a2_1)) else (calamuslaw16_SeekLeads.j0 k a0 a1 t163 t165 t166 true a2_0 a2_1))) = some r := H
        have A18 := Aside0.mk A180
        clear A180
        replace H := Option.bind_eq_some_iff.mp H
        obtain ⟨t169, A190, H⟩ := H
        replace H : (if t168 = t169 then ((utf_Place.f a0 t163).bind fun t170 => (calamuslaw16_SeekLeads.j0 k a0 a1 t163 t165 t166 (!t170) a2_0 a2_1)) else (calamuslaw16_SeekLeads.j0 k a0 a1 t163 t165 t166 true a2_0 a2_1)) = some r := H
        have A19 := Aside0.mk A190
        clear A190
        by_cases c20 : t168 = t169
        · rw [if_pos c20] at H
          have c20b0 : (t168 == t169) = true := beq_iff_eq.mpr c20
          have c20b1 : (t168 != t169) = false := bne_eq_false_iff_eq.mpr c20
          clear c20
          (first | rw [c20b0] | (simp only [i64_w, i32_w]; rw [c20b0]) | skip)
          replace H := Option.bind_eq_some_iff.mp H
          obtain ⟨t170, A210, H⟩ := H
          replace H : (calamuslaw16_SeekLeads.j0 k a0 a1 t163 t165 t166 (!t170) a2_0 a2_1) = some r := H
          have A21 := Aside0.mk A210
          clear A210
          have H' := Aside0.mk H
          clear H
          go_wp2_with (first | ((with_reducible refine gate_callee (f := 10) rfl ?_); refine goesL_ (some 52) rfl rfl Try.func10 (by kernel_rfl) rfl #[.string a0, .int .i64 t163] rfl (by (try simp only [List.map_toArray, List.map_cons, List.map_nil]); first | done | rfl | (simp only [List.length_drop, List.length_take]; rfl)) ?_; (with_reducible refine (line_Of.calls a0 t163 t168 _ A18.out).mono ?_); rintro e w22 ⟨rfl, hb⟩; refine ⟨_, rfl, ?_⟩; have n0_ := Aside0.mk (blk_below (g := gb161) (o := .cells #[.int .i64 a2_0, .string a2_1] 23 (0, 0)) (by (with_reducible repeat (first | refine blk_drewN ?_ _ | refine blk_drew ?_ | refine blk_alloc ?_ _)); exact BK161.out) hb); have n1_ := Aside0.mk (below_step (by repeat (first | (with_reducible first | exact HB.out | apply below_alloc | apply pw_below_drewN | apply below_drew1 | refine below_set ?_ GE161.out) | exact HB.out)) hb); clear BK161; clear HB; have BK161 := n0_; have HB := n1_; clear n0_ n1_; (try clear hb); (try clear hb2); (try clear hk); (try clear hi)) | ((with_reducible refine gate_callee (f := 10) rfl ?_); refine goesL_ (some 55) rfl rfl Try.func10 (by kernel_rfl) rfl #[.string a0, .int .i64 a1] rfl (by (try simp only [List.map_toArray, List.map_cons, List.map_nil]); first | done | rfl | (simp only [List.length_drop, List.length_take]; rfl)) ?_; (with_reducible refine (line_Of.calls a0 a1 t169 _ A19.out).mono ?_); rintro e w23 ⟨rfl, hb⟩; refine ⟨_, rfl, ?_⟩; have n0_ := Aside0.mk (blk_below (g := gb161) (o := .cells #[.int .i64 a2_0, .string a2_1] 23 (0, 0)) (by (with_reducible repeat (first | refine blk_drewN ?_ _ | refine blk_drew ?_ | refine blk_alloc ?_ _)); exact BK161.out) hb); have n1_ := Aside0.mk (below_step (by repeat (first | (with_reducible first | exact HB.out | apply below_alloc | apply pw_below_drewN | apply below_drew1 | refine below_set ?_ GE161.out) | exact HB.out)) hb); clear BK161; clear HB; have BK161 := n0_; have HB := n1_; clear n0_ n1_; (try clear hb); (try clear hb2); (try clear hk); (try clear hi)) | (go_at_call 11; (with_reducible refine (utf_Place.calls a0 t163 t170 _ A21.out).mono ?_); rintro e w24 ⟨rfl, hb⟩; have n0_ := Aside0.mk (blk_below (g := gb161) (o := .cells #[.int .i64 a2_0, .string a2_1] 23 (0, 0)) (by (with_reducible repeat (first | refine blk_drewN ?_ _ | refine blk_drew ?_ | refine blk_alloc ?_ _)); exact BK161.out) hb); have n1_ := Aside0.mk (below_step (by repeat (first | (with_reducible first | exact HB.out | apply below_alloc | apply pw_below_drewN | apply below_drew1 | refine below_set ?_ GE161.out) | exact HB.out)) hb); clear BK161; clear HB; have BK161 := n0_; have HB := n1_; clear n0_ n1_; (try clear hb); (try clear hb2); (try clear hk); (try clear hi)))
          go_meet
          case rel => exact ⟨_, (!t170), (by first | rfl | (simp; done) | (simp [*]; done)), H', ⟨by first | omega | exact Nat.le_refl _⟩, ⟨by (with_reducible repeat (first | refine blk_drewN ?_ _ | refine blk_drew ?_ | refine blk_alloc ?_ _)); exact BK161.out⟩, ⟨by repeat (first | (with_reducible first | exact HB.out | apply below_alloc | apply pw_below_drewN | apply below_drew1 | refine below_set ?_ GE161.out) | exact HB.out)⟩⟩
        · rw [if_neg c20] at H
          have c20b0 : (t168 == t169) = false := beq_eq_false_iff_ne.mpr c20
          have c20b1 : (t168 != t169) = true := bne_iff_ne.mpr c20
          (first | rw [c20b0] | (simp only [i64_w, i32_w]; rw [c20b0]) | skip)
          have H' := Aside0.mk H
          clear H
          go_wp2_with (first | ((with_reducible refine gate_callee (f := 10) rfl ?_); refine goesL_ (some 52) rfl rfl Try.func10 (by kernel_rfl) rfl #[.string a0, .int .i64 t163] rfl (by (try simp only [List.map_toArray, List.map_cons, List.map_nil]); first | done | rfl | (simp only [List.length_drop, List.length_take]; rfl)) ?_; (with_reducible refine (line_Of.calls a0 t163 t168 _ A18.out).mono ?_); rintro e w25 ⟨rfl, hb⟩; refine ⟨_, rfl, ?_⟩; have n0_ := Aside0.mk (blk_below (g := gb161) (o := .cells #[.int .i64 a2_0, .string a2_1] 23 (0, 0)) (by (with_reducible repeat (first | refine blk_drewN ?_ _ | refine blk_drew ?_ | refine blk_alloc ?_ _)); exact BK161.out) hb); have n1_ := Aside0.mk (below_step (by repeat (first | (with_reducible first | exact HB.out | apply below_alloc | apply pw_below_drewN | apply below_drew1 | refine below_set ?_ GE161.out) | exact HB.out)) hb); clear BK161; clear HB; have BK161 := n0_; have HB := n1_; clear n0_ n1_; (try clear hb); (try clear hb2); (try clear hk); (try clear hi)) | ((with_reducible refine gate_callee (f := 10) rfl ?_); refine goesL_ (some 55) rfl rfl Try.func10 (by kernel_rfl) rfl #[.string a0, .int .i64 a1] rfl (by (try simp only [List.map_toArray, List.map_cons, List.map_nil]); first | done | rfl | (simp only [List.length_drop, List.length_take]; rfl)) ?_; (with_reducible refine (line_Of.calls a0 a1 t169 _ A19.out).mono ?_); rintro e w26 ⟨rfl, hb⟩; refine ⟨_, rfl, ?_⟩; have n0_ := Aside0.mk (blk_below (g := gb161) (o := .cells #[.int .i64 a2_0, .string a2_1] 23 (0, 0)) (by (with_reducible repeat (first | refine blk_drewN ?_ _ | refine blk_drew ?_ | refine blk_alloc ?_ _)); exact BK161.out) hb); have n1_ := Aside0.mk (below_step (by repeat (first | (with_reducible first | exact HB.out | apply below_alloc | apply pw_below_drewN | apply below_drew1 | refine below_set ?_ GE161.out) | exact HB.out)) hb); clear BK161; clear HB; have BK161 := n0_; have HB := n1_; clear n0_ n1_; (try clear hb); (try clear hb2); (try clear hk); (try clear hi)))
          go_meet
          case rel => exact ⟨_, (true), (by first | rfl | (simp; done) | (simp [*]; done)), H', ⟨by first | omega | exact Nat.le_refl _⟩, ⟨by (with_reducible repeat (first | refine blk_drewN ?_ _ | refine blk_drew ?_ | refine blk_alloc ?_ _)); exact BK161.out⟩, ⟨by repeat (first | (with_reducible first | exact HB.out | apply below_alloc | apply pw_below_drewN | apply below_drew1 | refine below_set ?_ GE161.out) | exact HB.out)⟩⟩
      case rest =>
        clear HC12
        try clear c1
        try clear c2
        try clear p2
        try clear c4
        try clear c5
        try clear c5b0
        try clear c5b1
        try clear c7
        try clear c8
        try clear c10
        try clear c11
        try clear c20
        try clear c20b0
        try clear c20b1
        try clear hcz14_0
        try clear hcz14_1
        try clear hcz16_0
        try clear hcz16_1
        try clear hfz14_0
        try clear hfz14_1
        try clear hfz16_0
        try clear hfz16_1
        obtain ⟨kq, x62_11, rfl, HA, HJ11, BK161, HB⟩ := hcut
        cases kq with
        | zero => exact absurd HA.out (by simp [calamuslaw16_SeekLeads.j0])
        | succ kj11 =>
          have H := HA.out
          clear HA
          simp only [calamuslaw16_SeekLeads.j0] at H
          by_cases c27 : x62_11 = true
          · subst c27
            have H1 : (some false) = some r := by rw [if_pos rfl] at H; exact H
            clear H
            have H := H1
            clear H1
            obtain rfl := Option.some.inj H
            go_wp2
            go_ret
            exact ⟨by first | rfl | (simp [errW_none, errW_some] <;> rfl) | (simp [*, errW_none, errW_some] <;> rfl), by repeat (first | (with_reducible first | exact HB.out | apply below_alloc | apply pw_below_drewN | apply below_drew1 | refine below_set ?_ GE161.out) | exact HB.out)⟩
          · replace c27 := Bool.eq_false_iff.mpr c27
            subst c27
            have H1 : (if a2_0 = 116 then ((utf_Next.f a0 t163).bind fun t171 => (calamuslaw16_SeekLeads.j1 kj11 a0 a1 t163 t165 t166 t171 a2_0 a2_1)) else (if a2_0 = 84 then ((utf_Prev.f a0 t163).bind fun t172 => (calamuslaw16_SeekLeads.j1 kj11 a0 a1 t163 t165 t166 t172 a2_0 a2_1)) else (calamuslaw16_SeekLeads.j1 kj11 a0 a1 t163 t165 t166 t163 a2_0 a2_1))) = some r := by rw [if_neg (show ¬ (false = true) by decide)] at H; exact H
            clear H
            have H := H1
            clear H1
            have HC28 := Aside0.mk H
            clear H
            have hcz29_0 : wc.cell? ⟨gb161, 0, none⟩ = some (.int .i64 a2_0) := (blk_cell BK161.out 0).trans rfl
            have hcz29_1 : wc.cell? ⟨gb161, 1, none⟩ = some (.string a2_1) := (blk_cell BK161.out 1).trans rfl
            have hfz29_0 := blk_frozen BK161.out 0
            have hfz29_1 := blk_frozen BK161.out 1
            go_upto_block 0 with (fail)
            go_cut [13] (fun v13 wc => ∃ (kq : Nat) (x13_27 : Int), v13 = .int .i64 x13_27 ∧ Aside0 (calamuslaw16_SeekLeads.j1 kq a0 a1 t163 t165 t166 x13_27 a2_0 a2_1 = some r) ∧ Aside0 (kq ≤ kj11) ∧ Aside0 (wc.heap[gb161]? = some (.cells #[.int .i64 a2_0, .string a2_1] 23 (0, 0))) ∧ Aside0 (Below w.heap.size w wc))
            case first =>
              have H := HC28.out
              clear HC28
              by_cases c30 : a2_0 = 116
              · rw [if_pos c30] at H
                have c30b0 : (a2_0 == 116) = true := beq_iff_eq.mpr c30
                have c30b1 : (a2_0 != 116) = false := bne_eq_false_iff_eq.mpr c30
                clear c30
                (first | rw [c30b0] | (simp only [i64_w, i32_w]; rw [c30b0]) | skip)
                replace H := Option.bind_eq_some_iff.mp H
                obtain ⟨t171, A310, H⟩ := H
                replace H : (calamuslaw16_SeekLeads.j1 kj11 a0 a1 t163 t165 t166 t171 a2_0 a2_1) = some r := H
                have A31 := Aside0.mk A310
                clear A310
                have H' := Aside0.mk H
                clear H
                go_wp2_with (first | ((with_reducible refine gate_callee (f := 12) rfl ?_); refine goesL_ (some 70) rfl rfl Try.func12 (by kernel_rfl) rfl #[.string a0, .int .i64 t163] rfl (by (try simp only [List.map_toArray, List.map_cons, List.map_nil]); first | done | rfl | (simp only [List.length_drop, List.length_take]; rfl)) ?_; (with_reducible refine (utf_Next.calls a0 t163 t171 _ A31.out).mono ?_); rintro e w32 ⟨rfl, hb⟩; refine ⟨_, rfl, ?_⟩; have n0_ := Aside0.mk (blk_below (g := gb161) (o := .cells #[.int .i64 a2_0, .string a2_1] 23 (0, 0)) (by (with_reducible repeat (first | refine blk_drewN ?_ _ | refine blk_drew ?_ | refine blk_alloc ?_ _)); exact BK161.out) hb); have n1_ := Aside0.mk (below_step (by repeat (first | (with_reducible first | exact HB.out | apply below_alloc | apply pw_below_drewN | apply below_drew1 | refine below_set ?_ GE161.out) | exact HB.out)) hb); clear BK161; clear HB; have BK161 := n0_; have HB := n1_; clear n0_ n1_; (try clear hb); (try clear hb2); (try clear hk); (try clear hi)))
                go_meet
                case rel => exact ⟨_, (t171), (by first | rfl | (simp; done) | (simp [*]; done)), H', ⟨by have := HJ11.out; first | omega | exact Nat.le_refl _⟩, ⟨by (with_reducible repeat (first | refine blk_drewN ?_ _ | refine blk_drew ?_ | refine blk_alloc ?_ _)); exact BK161.out⟩, ⟨by repeat (first | (with_reducible first | exact HB.out | apply below_alloc | apply pw_below_drewN | apply below_drew1 | refine below_set ?_ GE161.out) | exact HB.out)⟩⟩
              · rw [if_neg c30] at H
                have c30b0 : (a2_0 == 116) = false := beq_eq_false_iff_ne.mpr c30
                have c30b1 : (a2_0 != 116) = true := bne_iff_ne.mpr c30
                (first | rw [c30b0] | (simp only [i64_w, i32_w]; rw [c30b0]) | skip)
                by_cases c33 : a2_0 = 84
                · rw [if_pos c33] at H
                  have c33b0 : (a2_0 == 84) = true := beq_iff_eq.mpr c33
                  have c33b1 : (a2_0 != 84) = false := bne_eq_false_iff_eq.mpr c33
                  clear c33
                  replace H := Option.bind_eq_some_iff.mp H
                  obtain ⟨t172, A340, H⟩ := H
                  replace H : (calamuslaw16_SeekLeads.j1 kj11 a0 a1 t163 t165 t166 t172 a2_0 a2_1) = some r := H
                  have A34 := Aside0.mk A340
                  clear A340
                  have H' := Aside0.mk H
                  clear H
                  go_wp2_with (first | ((with_reducible refine gate_callee (f := 13) rfl ?_); refine goesL_ (some 75) rfl rfl Try.func13 (by kernel_rfl) rfl #[.string a0, .int .i64 t163] rfl (by (try simp only [List.map_toArray, List.map_cons, List.map_nil]); first | done | rfl | (simp only [List.length_drop, List.length_take]; rfl)) ?_; (with_reducible refine (utf_Prev.calls a0 t163 t172 _ A34.out).mono ?_); rintro e w35 ⟨rfl, hb⟩; refine ⟨_, rfl, ?_⟩; have n0_ := Aside0.mk (blk_below (g := gb161) (o := .cells #[.int .i64 a2_0, .string a2_1] 23 (0, 0)) (by (with_reducible repeat (first | refine blk_drewN ?_ _ | refine blk_drew ?_ | refine blk_alloc ?_ _)); exact BK161.out) hb); have n1_ := Aside0.mk (below_step (by repeat (first | (with_reducible first | exact HB.out | apply below_alloc | apply pw_below_drewN | apply below_drew1 | refine below_set ?_ GE161.out) | exact HB.out)) hb); clear BK161; clear HB; have BK161 := n0_; have HB := n1_; clear n0_ n1_; (try clear hb); (try clear hb2); (try clear hk); (try clear hi)))
                  go_meet
                  case rel => exact ⟨_, (t172), (by first | rfl | (simp; done) | (simp [*]; done)), H', ⟨by have := HJ11.out; first | omega | exact Nat.le_refl _⟩, ⟨by (with_reducible repeat (first | refine blk_drewN ?_ _ | refine blk_drew ?_ | refine blk_alloc ?_ _)); exact BK161.out⟩, ⟨by repeat (first | (with_reducible first | exact HB.out | apply below_alloc | apply pw_below_drewN | apply below_drew1 | refine below_set ?_ GE161.out) | exact HB.out)⟩⟩
                · rw [if_neg c33] at H
                  have c33b0 : (a2_0 == 84) = false := beq_eq_false_iff_ne.mpr c33
                  have c33b1 : (a2_0 != 84) = true := bne_iff_ne.mpr c33
                  have H' := Aside0.mk H
                  clear H
                  go_wp2
                  go_meet
                  case rel => exact ⟨_, (t163), (by first | rfl | (simp; done) | (simp [*]; done)), H', ⟨by have := HJ11.out; first | omega | exact Nat.le_refl _⟩, ⟨by (with_reducible repeat (first | refine blk_drewN ?_ _ | refine blk_drew ?_ | refine blk_alloc ?_ _)); exact BK161.out⟩, ⟨by repeat (first | (with_reducible first | exact HB.out | apply below_alloc | apply pw_below_drewN | apply below_drew1 | refine below_set ?_ GE161.out) | exact HB.out)⟩⟩
            case rest =>
              clear HC28
              try clear c1
              try clear c2
              try clear p2
              try clear c3
              try clear c4
              try clear c5
              try clear c5b0
              try clear c5b1
              try clear c7
              try clear c8
              try clear c10
              try clear c11
              try clear c12
              try clear c13
              try clear c20
              try clear c20b0
              try clear c20b1
              try clear c27
              try clear c30
              try clear c30b0
              try clear c30b1
              try clear c33
              try clear c33b0
              try clear c33b1
              try clear hcz14_0
              try clear hcz14_1
              try clear hcz16_0
              try clear hcz16_1
              try clear hcz29_0
              try clear hcz29_1
              try clear hfz14_0
              try clear hfz14_1
              try clear hfz16_0
              try clear hfz16_1
              try clear hfz29_0
              try clear hfz29_1
              try clear p2
              obtain ⟨kq, x13_27, rfl, HA, HJ27, BK161, HB⟩ := hcut
              cases kq with
              | zero => exact absurd HA.out (by simp [calamuslaw16_SeekLeads.j1])
              | succ kj27 =>
                have H := HA.out
                clear HA
                simp only [calamuslaw16_SeekLeads.j1] at H
                replace H := Option.bind_eq_some_iff.mp H
                obtain ⟨t173, A360, H⟩ := H
                replace H : (if t173.toList = a2_1.toList then (calamuslaw16_SeekLeads.l0 kj27 a0 a1 t163 t165 t166 x13_27 (wrap64 ((mn x13_27 a1) + 1)) a2_0 a2_1) else (some false)) = some r := H
                have A36 := Aside0.mk A360
                clear A360
                by_cases c37 : t173.toList = a2_1.toList
                · rw [if_pos c37] at H
                  have c37b0 : (t173.toList == a2_1.toList) = true := beq_iff_eq.mpr c37
                  have c37b1 : (t173.toList != a2_1.toList) = false := bne_eq_false_iff_eq.mpr c37
                  clear c37
                  obtain ⟨ji38, hji38⟩ : ∃ j_ : Int, (mn x13_27 a1) = j_ := ⟨_, rfl⟩
                  replace H : (calamuslaw16_SeekLeads.l0 kj27 a0 a1 t163 t165 t166 x13_27 (wrap64 ((ji38) + 1)) a2_0 a2_1) = some r := by first | (rw [hji38] at H; exact H) | (simp only [hji38] at H ⊢; exact H)
                  (try rw [hji38] at A36)
                  have hji38_ : (if a1 < x13_27 then a1 else x13_27) = ji38 := hji38
                  have H' := Aside0.mk H
                  clear H
                  try go_wp2
                  have n0_ := Aside0.mk (blk_drew BK161.out)
                  have n1_ := Aside0.mk (below_drew1 HB.out)
                  clear BK161
                  clear HB
                  have BK161 := n0_
                  have HB := n1_
                  clear n0_ n1_
                  refine start_ (n := 6) (S := fun w' => w'.cell? ⟨gb161, 0, none⟩ = some (.int .i64 a2_0) ∧ w'.cell? ⟨gb161, 1, none⟩ = some (.string a2_1)) (ds := []) #[false, false, false, false, false, false] (by kernel_rfl) rfl rfl ⟨(blk_cell BK161.out 0).trans rfl, (blk_cell BK161.out 1).trans rfl⟩ (fun hHeld => ?_)
                  generalize wc.drew = w39 at BK161 HB hHeld ⊢
                  refine pure_ (i := 0) (N := some 76) (v := ?_) (a' := ?_) #[true, false, false, false, false, false] rfl rfl (by kernel_rfl) (fun _ _ _ h => h) (Or.inl ⟨by rfl, ?_⟩) ?_ ?_
                  rotate_left
                  · intro w'
                    go_simp
                    with_reducible rfl
                  rotate_left
                  · simp only [Act.put, List.setIfInBounds_toArray, List.set_cons_zero, List.set_cons_succ, i64_w, i32_w]
                    rfl
                  refine pure_ (i := 1) (N := some 77) (v := ?_) (a' := ?_) #[true, true, false, false, false, false] rfl rfl (by kernel_rfl) (fun _ _ _ h => h) (Or.inl ⟨by rfl, ?_⟩) ?_ ?_
                  rotate_left
                  · intro w'
                    go_simp
                    with_reducible rfl
                  rotate_left
                  · simp only [Act.put, List.setIfInBounds_toArray, List.set_cons_zero, List.set_cons_succ, i64_w, i32_w]
                    rfl
                  refine pure_ (i := 3) (N := some 79) (v := ?_) (a' := ?_) #[true, true, false, true, false, false] rfl rfl (by kernel_rfl) (fun _ _ _ h => h) (Or.inl ⟨by rfl, ?_⟩) ?_ ?_
                  rotate_left
                  · intro w'
                    go_simp
                    with_reducible rfl
                  rotate_left
                  · simp only [Act.put, List.setIfInBounds_toArray, List.set_cons_zero, List.set_cons_succ, i64_w, i32_w]
                    rfl
                  refine take_ (i := 4) (N := some 80) (v := ?_) (a' := ?_) #[true, true, false, true, true, false] rfl rfl (by kernel_rfl) (fun _ _ _ h => h) (Or.inl ⟨by rfl, ?_⟩) hHeld ?_ ?_
                  rotate_left
                  · rintro w' ⟨s0, s1⟩
                    go_simp
                    with_reducible rfl
                  rotate_left
                  · simp only [Act.put, List.setIfInBounds_toArray, List.set_cons_zero, List.set_cons_succ, i64_w, i32_w]
                    rfl
                  refine one_ (i := 2) (N := some 78) #[true, true, true, true, true, false] rfl rfl (by kernel_rfl) (by decide) (fun K hK => ?_)
                  refine goes_ Try.func14 (by kernel_rfl) rfl #[.string a0, .int .i64 x13_27] (by rfl) rfl rfl (by (try simp only [List.map_toArray, List.map_cons, List.map_nil]); first | done | rfl | (simp only [List.length_drop, List.length_take]; rfl)) ?_
                  with_reducible refine (utf_Rune.calls a0 x13_27 t173 _ A36.out).mono ?_
                  rintro e w40 ⟨rfl, hb⟩
                  refine ⟨_, rfl, ?_⟩
                  have n0_ := Aside0.mk (blk_below (g := gb161) (o := .cells #[.int .i64 a2_0, .string a2_1] 23 (0, 0)) (by (with_reducible repeat (first | refine blk_drewN ?_ _ | refine blk_drew ?_ | refine blk_alloc ?_ _)); exact BK161.out) hb)
                  have n1_ := Aside0.mk (below_step (by repeat (first | (with_reducible first | exact HB.out | apply below_alloc | apply pw_below_drewN | apply below_drew1 | refine below_set ?_ GE161.out) | exact HB.out)) hb)
                  clear BK161
                  clear HB
                  have BK161 := n0_
                  have HB := n1_
                  clear n0_ n1_
                  (try clear hb)
                  (try clear hb2)
                  (try clear hk)
                  (try clear hi)
                  refine hK.out _ _ ⟨(blk_cell BK161.out 0).trans rfl, (blk_cell BK161.out 1).trans rfl⟩ (fun hHeld => ?_)
                  clear hK K
                  refine norm_ (a' := ?_) ?_ ?_
                  rotate_left
                  · show Act.put _ (some 78) _ = _
                    simp only [Act.put, List.setIfInBounds_toArray, List.set_cons_zero, List.set_cons_succ, i64_w, i32_w]
                    rfl
                  refine pure_ (i := 5) (N := some 81) (v := ?_) (a' := ?_) #[true, true, true, true, true, true] rfl rfl (by kernel_rfl) (fun _ _ _ h => h) (Or.inl ⟨by rfl, ?_⟩) ?_ ?_
                  rotate_left
                  · intro w'
                    go_simp
                    with_reducible rfl
                  rotate_left
                  · simp only [Act.put, List.setIfInBounds_toArray, List.set_cons_zero, List.set_cons_succ, i64_w, i32_w]
                    rfl
                  refine done_ (by kernel_rfl) ?_
                  try go_wp2
                  go_loopg [14] kj27 (fun kq v14 w' => ∃ (x14_3 : Int), v14 = .int .i64 x14_3 ∧ Aside0 (calamuslaw16_SeekLeads.l0 kq a0 a1 t163 t165 t166 x13_27 x14_3 a2_0 a2_1 = some r) ∧ Aside0 (kq ≤ kj27) ∧ Aside0 (w'.heap[gb161]? = some (.cells #[.int .i64 a2_0, .string a2_1] 23 (0, 0))) ∧ Aside0 (Below w.heap.size w w'))
                  case atStart => exact ⟨(wrap64 ((ji38) + 1)), (by first | rfl | (simp; done) | (simp only [← hji38] <;> (first | rfl | simp)) | (simp [*]; done)), H', ⟨Nat.le_refl _⟩, ⟨by (with_reducible repeat (first | refine blk_drewN ?_ _ | refine blk_drew ?_ | refine blk_alloc ?_ _)); exact BK161.out⟩, ⟨by repeat (first | (with_reducible first | exact HB.out | apply below_alloc | apply pw_below_drewN | apply below_drew1 | refine below_set ?_ GE161.out) | exact HB.out)⟩⟩
                  case round =>
                    clear H'
                    try clear c1
                    try clear c2
                    try clear p2
                    try clear c3
                    try clear c4
                    try clear c5
                    try clear c5b0
                    try clear c5b1
                    try clear p6
                    try clear c7
                    try clear c8
                    try clear c10
                    try clear c11
                    try clear c12
                    try clear c13
                    try clear c14
                    try clear c20
                    try clear c20b0
                    try clear c20b1
                    try clear c27
                    try clear c30
                    try clear c30b0
                    try clear c30b1
                    try clear c33
                    try clear c33b0
                    try clear c33b1
                    try clear c37
                    try clear c37b0
                    try clear c37b1
                    try clear hcz14_0
                    try clear hcz14_1
                    try clear hcz16_0
                    try clear hcz16_1
                    try clear hcz29_0
                    try clear hcz29_1
                    try clear hfz14_0
                    try clear hfz14_1
                    try clear hfz16_0
                    try clear hfz16_1
                    try clear hfz29_0
                    try clear hfz29_1
                    try clear p2
                    obtain ⟨x14_3, rfl, HA, HK3, BK161, HB⟩ := hrel
                    cases gk with
                    | zero => exact absurd HA.out (by simp [calamuslaw16_SeekLeads.l0])
                    | succ k3 =>
                      have H := HA.out
                      clear HA
                      simp only [calamuslaw16_SeekLeads.l0] at H
                      obtain ⟨ji41, hji41⟩ : ∃ j_ : Int, (mx x13_27 a1) = j_ := ⟨_, rfl⟩
                      replace H : (if x14_3 < (ji41) then ((utf_Rune.f a0 x14_3).bind fun t174 => (if t174.toList = a2_1.toList then (some false) else (calamuslaw16_SeekLeads.l0 k3 a0 a1 t163 t165 t166 x13_27 (wrap64 (x14_3 + 1)) a2_0 a2_1))) else (if a2_0 = 102 then (if ((decide (x13_27 > a1)) == true) = true then (if t166 = true then (if t165 ≥ t163 then ((calamuslaw16_lives.f).bind fun t175 => (some t175)) else (some false)) else ((calamuslaw16_lives.f).bind fun t176 => (some t176))) else (some false)) else (if ((decide (x13_27 > a1)) == (a2_0 == 116)) = true then (if t166 = true then (if a2_0 = 116 then (if t165 ≥ t163 then ((calamuslaw16_lives.f).bind fun t177 => (some t177)) else (some false)) else (if t165 ≤ t163 then ((calamuslaw16_lives.f).bind fun t178 => (some t178)) else (some false))) else ((calamuslaw16_lives.f).bind fun t179 => (some t179))) else (some false)))) = some r := by first | (rw [hji41] at H; exact H) | (simp only [hji41] at H ⊢; exact H)
                      have hji41_ : (if x13_27 < a1 then a1 else x13_27) = ji41 := hji41
                      by_cases c42 : x14_3 < (ji41)
                      · rw [if_pos c42] at H
                        have c42b0 : decide (x14_3 < (ji41)) = true := decide_eq_true c42
                        clear c42
                        replace H := Option.bind_eq_some_iff.mp H
                        obtain ⟨t174, A430, H⟩ := H
                        replace H : (if t174.toList = a2_1.toList then (some false) else (calamuslaw16_SeekLeads.l0 k3 a0 a1 t163 t165 t166 x13_27 (wrap64 (x14_3 + 1)) a2_0 a2_1)) = some r := H
                        have A43 := Aside0.mk A430
                        clear A430
                        by_cases c44 : t174.toList = a2_1.toList
                        · rw [if_pos c44] at H
                          have c44b0 : (t174.toList == a2_1.toList) = true := beq_iff_eq.mpr c44
                          have c44b1 : (t174.toList != a2_1.toList) = false := bne_eq_false_iff_eq.mpr c44
                          clear c44
                          obtain rfl := Option.some.inj H
                          try go_wp2
                          have n0_ := Aside0.mk (blk_drew BK161.out)
                          have n1_ := Aside0.mk (below_drew1 HB.out)
                          clear BK161
                          clear HB
                          have BK161 := n0_
                          have HB := n1_
                          clear n0_ n1_
                          refine start_ (n := 6) (S := fun w' => w'.cell? ⟨gb161, 0, none⟩ = some (.int .i64 a2_0) ∧ w'.cell? ⟨gb161, 1, none⟩ = some (.string a2_1)) (ds := []) #[false, false, false, false, false, false] (by kernel_rfl) rfl rfl ⟨(blk_cell BK161.out 0).trans rfl, (blk_cell BK161.out 1).trans rfl⟩ (fun hHeld => ?_)
                          generalize wr.drew = w45 at BK161 HB hHeld ⊢
                          refine pure_ (i := 0) (N := some 93) (v := ?_) (a' := ?_) #[true, false, false, false, false, false] rfl rfl (by kernel_rfl) (fun _ _ _ h => h) (Or.inl ⟨by rfl, ?_⟩) ?_ ?_
                          rotate_left
                          · intro w'
                            go_simp
                            with_reducible rfl
                          rotate_left
                          · simp only [Act.put, List.setIfInBounds_toArray, List.set_cons_zero, List.set_cons_succ, i64_w, i32_w]
                            rfl
                          refine pure_ (i := 1) (N := some 94) (v := ?_) (a' := ?_) #[true, true, false, false, false, false] rfl rfl (by kernel_rfl) (fun _ _ _ h => h) (Or.inl ⟨by rfl, ?_⟩) ?_ ?_
                          rotate_left
                          · intro w'
                            go_simp
                            with_reducible rfl
                          rotate_left
                          · simp only [Act.put, List.setIfInBounds_toArray, List.set_cons_zero, List.set_cons_succ, i64_w, i32_w]
                            rfl
                          refine pure_ (i := 3) (N := some 96) (v := ?_) (a' := ?_) #[true, true, false, true, false, false] rfl rfl (by kernel_rfl) (fun _ _ _ h => h) (Or.inl ⟨by rfl, ?_⟩) ?_ ?_
                          rotate_left
                          · intro w'
                            go_simp
                            with_reducible rfl
                          rotate_left
                          · simp only [Act.put, List.setIfInBounds_toArray, List.set_cons_zero, List.set_cons_succ, i64_w, i32_w]
                            rfl
                          refine take_ (i := 4) (N := some 97) (v := ?_) (a' := ?_) #[true, true, false, true, true, false] rfl rfl (by kernel_rfl) (fun _ _ _ h => h) (Or.inl ⟨by rfl, ?_⟩) hHeld ?_ ?_
                          rotate_left
                          · rintro w' ⟨s0, s1⟩
                            go_simp
                            with_reducible rfl
                          rotate_left
                          · simp only [Act.put, List.setIfInBounds_toArray, List.set_cons_zero, List.set_cons_succ, i64_w, i32_w]
                            rfl
                          refine one_ (i := 2) (N := some 95) #[true, true, true, true, true, false] rfl rfl (by kernel_rfl) (by decide) (fun K hK => ?_)
                          refine goes_ Try.func14 (by kernel_rfl) rfl #[.string a0, .int .i64 x14_3] (by rfl) rfl rfl (by (try simp only [List.map_toArray, List.map_cons, List.map_nil]); first | done | rfl | (simp only [List.length_drop, List.length_take]; rfl)) ?_
                          with_reducible refine (utf_Rune.calls a0 x14_3 t174 _ A43.out).mono ?_
                          rintro e w46 ⟨rfl, hb⟩
                          refine ⟨_, rfl, ?_⟩
                          have n0_ := Aside0.mk (blk_below (g := gb161) (o := .cells #[.int .i64 a2_0, .string a2_1] 23 (0, 0)) (by (with_reducible repeat (first | refine blk_drewN ?_ _ | refine blk_drew ?_ | refine blk_alloc ?_ _)); exact BK161.out) hb)
                          have n1_ := Aside0.mk (below_step (by repeat (first | (with_reducible first | exact HB.out | apply below_alloc | apply pw_below_drewN | apply below_drew1 | refine below_set ?_ GE161.out) | exact HB.out)) hb)
                          clear BK161
                          clear HB
                          have BK161 := n0_
                          have HB := n1_
                          clear n0_ n1_
                          (try clear hb)
                          (try clear hb2)
                          (try clear hk)
                          (try clear hi)
                          refine hK.out _ _ ⟨(blk_cell BK161.out 0).trans rfl, (blk_cell BK161.out 1).trans rfl⟩ (fun hHeld => ?_)
                          clear hK K
                          refine norm_ (a' := ?_) ?_ ?_
                          rotate_left
                          · show Act.put _ (some 95) _ = _
                            simp only [Act.put, List.setIfInBounds_toArray, List.set_cons_zero, List.set_cons_succ, i64_w, i32_w]
                            rfl
                          refine pure_ (i := 5) (N := some 98) (v := ?_) (a' := ?_) #[true, true, true, true, true, true] rfl rfl (by kernel_rfl) (fun _ _ _ h => h) (Or.inl ⟨by rfl, ?_⟩) ?_ ?_
                          rotate_left
                          · intro w'
                            go_simp
                            with_reducible rfl
                          rotate_left
                          · simp only [Act.put, List.setIfInBounds_toArray, List.set_cons_zero, List.set_cons_succ, i64_w, i32_w]
                            rfl
                          refine done_ (by kernel_rfl) ?_
                          try go_wp2
                          go_ret
                          exact ⟨by first | rfl | (simp [errW_none, errW_some] <;> rfl) | (simp only [← hji38, ← hji41]; first | rfl | (simp [errW_none, errW_some] <;> rfl)) | (simp [*, errW_none, errW_some] <;> rfl), by repeat (first | (with_reducible first | exact HB.out | apply below_alloc | apply pw_below_drewN | apply below_drew1 | refine below_set ?_ GE161.out) | exact HB.out)⟩
                        · rw [if_neg c44] at H
                          have c44b0 : (t174.toList == a2_1.toList) = false := beq_eq_false_iff_ne.mpr c44
                          have c44b1 : (t174.toList != a2_1.toList) = true := bne_iff_ne.mpr c44
                          have H' := Aside0.mk H
                          clear H
                          try go_wp2
                          have n0_ := Aside0.mk (blk_drew BK161.out)
                          have n1_ := Aside0.mk (below_drew1 HB.out)
                          clear BK161
                          clear HB
                          have BK161 := n0_
                          have HB := n1_
                          clear n0_ n1_
                          refine start_ (n := 6) (S := fun w' => w'.cell? ⟨gb161, 0, none⟩ = some (.int .i64 a2_0) ∧ w'.cell? ⟨gb161, 1, none⟩ = some (.string a2_1)) (ds := []) #[false, false, false, false, false, false] (by kernel_rfl) rfl rfl ⟨(blk_cell BK161.out 0).trans rfl, (blk_cell BK161.out 1).trans rfl⟩ (fun hHeld => ?_)
                          generalize wr.drew = w47 at BK161 HB hHeld ⊢
                          refine pure_ (i := 0) (N := some 93) (v := ?_) (a' := ?_) #[true, false, false, false, false, false] rfl rfl (by kernel_rfl) (fun _ _ _ h => h) (Or.inl ⟨by rfl, ?_⟩) ?_ ?_
                          rotate_left
                          · intro w'
                            go_simp
                            with_reducible rfl
                          rotate_left
                          · simp only [Act.put, List.setIfInBounds_toArray, List.set_cons_zero, List.set_cons_succ, i64_w, i32_w]
                            rfl
                          refine pure_ (i := 1) (N := some 94) (v := ?_) (a' := ?_) #[true, true, false, false, false, false] rfl rfl (by kernel_rfl) (fun _ _ _ h => h) (Or.inl ⟨by rfl, ?_⟩) ?_ ?_
                          rotate_left
                          · intro w'
                            go_simp
                            with_reducible rfl
                          rotate_left
                          · simp only [Act.put, List.setIfInBounds_toArray, List.set_cons_zero, List.set_cons_succ, i64_w, i32_w]
                            rfl
                          refine pure_ (i := 3) (N := some 96) (v := ?_) (a' := ?_) #[true, true, false, true, false, false] rfl rfl (by kernel_rfl) (fun _ _ _ h => h) (Or.inl ⟨by rfl, ?_⟩) ?_ ?_
                          rotate_left
                          · intro w'
                            go_simp
                            with_reducible rfl
                          rotate_left
                          · simp only [Act.put, List.setIfInBounds_toArray, List.set_cons_zero, List.set_cons_succ, i64_w, i32_w]
                            rfl
                          refine take_ (i := 4) (N := some 97) (v := ?_) (a' := ?_) #[true, true, false, true, true, false] rfl rfl (by kernel_rfl) (fun _ _ _ h => h) (Or.inl ⟨by rfl, ?_⟩) hHeld ?_ ?_
                          rotate_left
                          · rintro w' ⟨s0, s1⟩
                            go_simp
                            with_reducible rfl
                          rotate_left
                          · simp only [Act.put, List.setIfInBounds_toArray, List.set_cons_zero, List.set_cons_succ, i64_w, i32_w]
                            rfl
                          refine one_ (i := 2) (N := some 95) #[true, true, true, true, true, false] rfl rfl (by kernel_rfl) (by decide) (fun K hK => ?_)
                          refine goes_ Try.func14 (by kernel_rfl) rfl #[.string a0, .int .i64 x14_3] (by rfl) rfl rfl (by (try simp only [List.map_toArray, List.map_cons, List.map_nil]); first | done | rfl | (simp only [List.length_drop, List.length_take]; rfl)) ?_
                          with_reducible refine (utf_Rune.calls a0 x14_3 t174 _ A43.out).mono ?_
                          rintro e w48 ⟨rfl, hb⟩
                          refine ⟨_, rfl, ?_⟩
                          have n0_ := Aside0.mk (blk_below (g := gb161) (o := .cells #[.int .i64 a2_0, .string a2_1] 23 (0, 0)) (by (with_reducible repeat (first | refine blk_drewN ?_ _ | refine blk_drew ?_ | refine blk_alloc ?_ _)); exact BK161.out) hb)
                          have n1_ := Aside0.mk (below_step (by repeat (first | (with_reducible first | exact HB.out | apply below_alloc | apply pw_below_drewN | apply below_drew1 | refine below_set ?_ GE161.out) | exact HB.out)) hb)
                          clear BK161
                          clear HB
                          have BK161 := n0_
                          have HB := n1_
                          clear n0_ n1_
                          (try clear hb)
                          (try clear hb2)
                          (try clear hk)
                          (try clear hi)
                          refine hK.out _ _ ⟨(blk_cell BK161.out 0).trans rfl, (blk_cell BK161.out 1).trans rfl⟩ (fun hHeld => ?_)
                          clear hK K
                          refine norm_ (a' := ?_) ?_ ?_
                          rotate_left
                          · show Act.put _ (some 95) _ = _
                            simp only [Act.put, List.setIfInBounds_toArray, List.set_cons_zero, List.set_cons_succ, i64_w, i32_w]
                            rfl
                          refine pure_ (i := 5) (N := some 98) (v := ?_) (a' := ?_) #[true, true, true, true, true, true] rfl rfl (by kernel_rfl) (fun _ _ _ h => h) (Or.inl ⟨by rfl, ?_⟩) ?_ ?_
                          rotate_left
                          · intro w'
                            go_simp
                            with_reducible rfl
                          rotate_left
                          · simp only [Act.put, List.setIfInBounds_toArray, List.set_cons_zero, List.set_cons_succ, i64_w, i32_w]
                            rfl
                          refine done_ (by kernel_rfl) ?_
                          try go_wp2
                          go_roundg k3
                          case measure => have := HJ11.out; have := HJ27.out; have := HK3.out; omega
                          case rel => exact ⟨(wrap64 (x14_3 + 1)), (by first | rfl | (simp; done) | (simp [*]; done)), H', ⟨by have := HJ11.out; have := HJ27.out; have := HK3.out; omega⟩, ⟨by (with_reducible repeat (first | refine blk_drewN ?_ _ | refine blk_drew ?_ | refine blk_alloc ?_ _)); exact BK161.out⟩, ⟨by repeat (first | (with_reducible first | exact HB.out | apply below_alloc | apply pw_below_drewN | apply below_drew1 | refine below_set ?_ GE161.out) | exact HB.out)⟩⟩
                      · rw [if_neg c42] at H
                        have c42b0 : decide (x14_3 < (ji41)) = false := decide_eq_false c42
                        clear c42
                        by_cases c49 : a2_0 = 102
                        · rw [if_pos c49] at H
                          have c49b0 : (a2_0 == 102) = true := beq_iff_eq.mpr c49
                          have c49b1 : (a2_0 != 102) = false := bne_eq_false_iff_eq.mpr c49
                          clear c49
                          by_cases c50 : ((decide (x13_27 > a1)) == true) = true
                          · rw [if_pos c50] at H
                            have c50b0 : ((decide (x13_27 > a1)) == true) = true := c50
                            (try (have c50b1 : decide ((decide (x13_27 > a1)) = true) = true := by simpa using c50))
                            (try (have c50b2 : ((decide (x13_27 > a1)) == true) = true := by simpa using c50))
                            clear c50
                            by_cases c51 : t166 = true
                            · subst c51
                              have H1 : (if t165 ≥ t163 then ((calamuslaw16_lives.f).bind fun t175 => (some t175)) else (some false)) = some r := by rw [if_pos rfl] at H; exact H
                              clear H
                              have H := H1
                              clear H1
                              by_cases c52 : t165 ≥ t163
                              · rw [if_pos c52] at H
                                have c52b0 : decide (t163 ≤ t165) = true := decide_eq_true c52
                                clear c52
                                replace H := Option.bind_eq_some_iff.mp H
                                obtain ⟨t175, A530, H⟩ := H
                                replace H : (some t175) = some r := H
                                have A53 := Aside0.mk A530
                                clear A530
                                obtain rfl := Option.some.inj H
                                have hcz54_0 : wr.cell? ⟨gb161, 0, none⟩ = some (.int .i64 a2_0) := (blk_cell BK161.out 0).trans rfl
                                have hcz54_1 : wr.cell? ⟨gb161, 1, none⟩ = some (.string a2_1) := (blk_cell BK161.out 1).trans rfl
                                have hfz54_0 := blk_frozen BK161.out 0
                                have hfz54_1 := blk_frozen BK161.out 1
                                go_wp2_with (first | (go_at_call 7; (with_reducible refine (calamuslaw16_lives.calls  t175 _ A53.out).mono ?_); rintro e w55 ⟨rfl, hb⟩; have n0_ := Aside0.mk (blk_below (g := gb161) (o := .cells #[.int .i64 a2_0, .string a2_1] 23 (0, 0)) (by (with_reducible repeat (first | refine blk_drewN ?_ _ | refine blk_drew ?_ | refine blk_alloc ?_ _)); exact BK161.out) hb); have n1_ := Aside0.mk (below_step (by repeat (first | (with_reducible first | exact HB.out | apply below_alloc | apply pw_below_drewN | apply below_drew1 | refine below_set ?_ GE161.out) | exact HB.out)) hb); clear BK161; clear HB; have BK161 := n0_; have HB := n1_; clear n0_ n1_; (try clear hb); (try clear hb2); (try clear hk); (try clear hi)))
                                go_ret
                                exact ⟨by first | rfl | (simp [errW_none, errW_some] <;> rfl) | (simp only [← hji38, ← hji41]; first | rfl | (simp [errW_none, errW_some] <;> rfl)) | (simp [*, errW_none, errW_some] <;> rfl), by repeat (first | (with_reducible first | exact HB.out | apply below_alloc | apply pw_below_drewN | apply below_drew1 | refine below_set ?_ GE161.out) | exact HB.out)⟩
                              · rw [if_neg c52] at H
                                have c52b0 : decide (t163 ≤ t165) = false := decide_eq_false c52
                                clear c52
                                obtain rfl := Option.some.inj H
                                have hcz56_0 : wr.cell? ⟨gb161, 0, none⟩ = some (.int .i64 a2_0) := (blk_cell BK161.out 0).trans rfl
                                have hcz56_1 : wr.cell? ⟨gb161, 1, none⟩ = some (.string a2_1) := (blk_cell BK161.out 1).trans rfl
                                have hfz56_0 := blk_frozen BK161.out 0
                                have hfz56_1 := blk_frozen BK161.out 1
                                go_wp2
                                go_ret
                                exact ⟨by first | rfl | (simp [errW_none, errW_some] <;> rfl) | (simp only [← hji38, ← hji41]; first | rfl | (simp [errW_none, errW_some] <;> rfl)) | (simp [*, errW_none, errW_some] <;> rfl), by repeat (first | (with_reducible first | exact HB.out | apply below_alloc | apply pw_below_drewN | apply below_drew1 | refine below_set ?_ GE161.out) | exact HB.out)⟩
                            · replace c51 := Bool.eq_false_iff.mpr c51
                              subst c51
                              have H1 : ((calamuslaw16_lives.f).bind fun t176 => (some t176)) = some r := by rw [if_neg (show ¬ (false = true) by decide)] at H; exact H
                              clear H
                              have H := H1
                              clear H1
                              replace H := Option.bind_eq_some_iff.mp H
                              obtain ⟨t176, A570, H⟩ := H
                              replace H : (some t176) = some r := H
                              have A57 := Aside0.mk A570
                              clear A570
                              obtain rfl := Option.some.inj H
                              have hcz58_0 : wr.cell? ⟨gb161, 0, none⟩ = some (.int .i64 a2_0) := (blk_cell BK161.out 0).trans rfl
                              have hcz58_1 : wr.cell? ⟨gb161, 1, none⟩ = some (.string a2_1) := (blk_cell BK161.out 1).trans rfl
                              have hfz58_0 := blk_frozen BK161.out 0
                              have hfz58_1 := blk_frozen BK161.out 1
                              go_wp2_with (first | (go_at_call 7; (with_reducible refine (calamuslaw16_lives.calls  t176 _ A57.out).mono ?_); rintro e w59 ⟨rfl, hb⟩; have n0_ := Aside0.mk (blk_below (g := gb161) (o := .cells #[.int .i64 a2_0, .string a2_1] 23 (0, 0)) (by (with_reducible repeat (first | refine blk_drewN ?_ _ | refine blk_drew ?_ | refine blk_alloc ?_ _)); exact BK161.out) hb); have n1_ := Aside0.mk (below_step (by repeat (first | (with_reducible first | exact HB.out | apply below_alloc | apply pw_below_drewN | apply below_drew1 | refine below_set ?_ GE161.out) | exact HB.out)) hb); clear BK161; clear HB; have BK161 := n0_; have HB := n1_; clear n0_ n1_; (try clear hb); (try clear hb2); (try clear hk); (try clear hi)))
                              go_ret
                              exact ⟨by first | rfl | (simp [errW_none, errW_some] <;> rfl) | (simp only [← hji38, ← hji41]; first | rfl | (simp [errW_none, errW_some] <;> rfl)) | (simp [*, errW_none, errW_some] <;> rfl), by repeat (first | (with_reducible first | exact HB.out | apply below_alloc | apply pw_below_drewN | apply below_drew1 | refine below_set ?_ GE161.out) | exact HB.out)⟩
                          · rw [if_neg c50] at H
                            have c50b0 : ((decide (x13_27 > a1)) == true) = false := by simpa using c50
                            (try (have c50b1 : decide ((decide (x13_27 > a1)) = true) = false := by simpa using c50))
                            (try (have c50b2 : ((decide (x13_27 > a1)) == true) = false := by simpa using c50))
                            (try (have c50b3 : ¬ ((decide (x13_27 > a1)) = true) := by simpa using c50))
                            clear c50
                            obtain rfl := Option.some.inj H
                            have hcz60_0 : wr.cell? ⟨gb161, 0, none⟩ = some (.int .i64 a2_0) := (blk_cell BK161.out 0).trans rfl
                            have hcz60_1 : wr.cell? ⟨gb161, 1, none⟩ = some (.string a2_1) := (blk_cell BK161.out 1).trans rfl
                            have hfz60_0 := blk_frozen BK161.out 0
                            have hfz60_1 := blk_frozen BK161.out 1
                            go_wp2
                            go_ret
                            exact ⟨by first | rfl | (simp [errW_none, errW_some] <;> rfl) | (simp only [← hji38, ← hji41]; first | rfl | (simp [errW_none, errW_some] <;> rfl)) | (simp [*, errW_none, errW_some] <;> rfl), by repeat (first | (with_reducible first | exact HB.out | apply below_alloc | apply pw_below_drewN | apply below_drew1 | refine below_set ?_ GE161.out) | exact HB.out)⟩
                        · rw [if_neg c49] at H
                          have c49b0 : (a2_0 == 102) = false := beq_eq_false_iff_ne.mpr c49
                          have c49b1 : (a2_0 != 102) = true := bne_iff_ne.mpr c49
                          by_cases c61 : ((decide (x13_27 > a1)) == (a2_0 == 116)) = true
                          · rw [if_pos c61] at H
                            have c61b0 : ((decide (x13_27 > a1)) == (a2_0 == 116)) = true := c61
                            (try (have c61b1 : decide ((decide (x13_27 > a1)) = (a2_0 == 116)) = true := by simpa using c61))
                            (try (have c61b2 : ((decide (x13_27 > a1)) == (a2_0 == 116)) = true := by simpa using c61))
                            clear c61
                            by_cases c62 : t166 = true
                            · subst c62
                              have H1 : (if a2_0 = 116 then (if t165 ≥ t163 then ((calamuslaw16_lives.f).bind fun t177 => (some t177)) else (some false)) else (if t165 ≤ t163 then ((calamuslaw16_lives.f).bind fun t178 => (some t178)) else (some false))) = some r := by rw [if_pos rfl] at H; exact H
                              clear H
                              have H := H1
                              clear H1
                              by_cases c63 : a2_0 = 116
                              · rw [if_pos c63] at H
                                have c63b0 : (a2_0 == 116) = true := beq_iff_eq.mpr c63
                                have c63b1 : (a2_0 != 116) = false := bne_eq_false_iff_eq.mpr c63
                                try have c63z : decide (a1 < x13_27) = true := by simpa [c63b0] using c61b0
                                clear c63
                                by_cases c64 : t165 ≥ t163
                                · rw [if_pos c64] at H
                                  have c64b0 : decide (t163 ≤ t165) = true := decide_eq_true c64
                                  clear c64
                                  replace H := Option.bind_eq_some_iff.mp H
                                  obtain ⟨t177, A650, H⟩ := H
                                  replace H : (some t177) = some r := H
                                  have A65 := Aside0.mk A650
                                  clear A650
                                  obtain rfl := Option.some.inj H
                                  have hcz66_0 : wr.cell? ⟨gb161, 0, none⟩ = some (.int .i64 a2_0) := (blk_cell BK161.out 0).trans rfl
                                  have hcz66_1 : wr.cell? ⟨gb161, 1, none⟩ = some (.string a2_1) := (blk_cell BK161.out 1).trans rfl
                                  have hfz66_0 := blk_frozen BK161.out 0
                                  have hfz66_1 := blk_frozen BK161.out 1
                                  go_wp2_with (first | (go_at_call 7; (with_reducible refine (calamuslaw16_lives.calls  t177 _ A65.out).mono ?_); rintro e w67 ⟨rfl, hb⟩; have n0_ := Aside0.mk (blk_below (g := gb161) (o := .cells #[.int .i64 a2_0, .string a2_1] 23 (0, 0)) (by (with_reducible repeat (first | refine blk_drewN ?_ _ | refine blk_drew ?_ | refine blk_alloc ?_ _)); exact BK161.out) hb); have n1_ := Aside0.mk (below_step (by repeat (first | (with_reducible first | exact HB.out | apply below_alloc | apply pw_below_drewN | apply below_drew1 | refine below_set ?_ GE161.out) | exact HB.out)) hb); clear BK161; clear HB; have BK161 := n0_; have HB := n1_; clear n0_ n1_; (try clear hb); (try clear hb2); (try clear hk); (try clear hi)))
                                  go_ret
                                  exact ⟨by first | rfl | (simp [errW_none, errW_some] <;> rfl) | (simp only [← hji38, ← hji41]; first | rfl | (simp [errW_none, errW_some] <;> rfl)) | (simp [*, errW_none, errW_some] <;> rfl), by repeat (first | (with_reducible first | exact HB.out | apply below_alloc | apply pw_below_drewN | apply below_drew1 | refine below_set ?_ GE161.out) | exact HB.out)⟩
                                · rw [if_neg c64] at H
                                  have c64b0 : decide (t163 ≤ t165) = false := decide_eq_false c64
                                  clear c64
                                  obtain rfl := Option.some.inj H
                                  have hcz68_0 : wr.cell? ⟨gb161, 0, none⟩ = some (.int .i64 a2_0) := (blk_cell BK161.out 0).trans rfl
                                  have hcz68_1 : wr.cell? ⟨gb161, 1, none⟩ = some (.string a2_1) := (blk_cell BK161.out 1).trans rfl
                                  have hfz68_0 := blk_frozen BK161.out 0
                                  have hfz68_1 := blk_frozen BK161.out 1
                                  go_wp2
                                  go_ret
                                  exact ⟨by first | rfl | (simp [errW_none, errW_some] <;> rfl) | (simp only [← hji38, ← hji41]; first | rfl | (simp [errW_none, errW_some] <;> rfl)) | (simp [*, errW_none, errW_some] <;> rfl), by repeat (first | (with_reducible first | exact HB.out | apply below_alloc | apply pw_below_drewN | apply below_drew1 | refine below_set ?_ GE161.out) | exact HB.out)⟩
                              · rw [if_neg c63] at H
                                have c63b0 : (a2_0 == 116) = false := beq_eq_false_iff_ne.mpr c63
                                have c63b1 : (a2_0 != 116) = true := bne_iff_ne.mpr c63
                                try have c63z : decide (a1 < x13_27) = false := by simpa [c63b0] using c61b0
                                by_cases c69 : t165 ≤ t163
                                · rw [if_pos c69] at H
                                  have c69b0 : decide (t165 ≤ t163) = true := decide_eq_true c69
                                  clear c69
                                  replace H := Option.bind_eq_some_iff.mp H
                                  obtain ⟨t178, A700, H⟩ := H
                                  replace H : (some t178) = some r := H
                                  have A70 := Aside0.mk A700
                                  clear A700
                                  obtain rfl := Option.some.inj H
                                  have hcz71_0 : wr.cell? ⟨gb161, 0, none⟩ = some (.int .i64 a2_0) := (blk_cell BK161.out 0).trans rfl
                                  have hcz71_1 : wr.cell? ⟨gb161, 1, none⟩ = some (.string a2_1) := (blk_cell BK161.out 1).trans rfl
                                  have hfz71_0 := blk_frozen BK161.out 0
                                  have hfz71_1 := blk_frozen BK161.out 1
                                  go_wp2_with (first | (go_at_call 7; (with_reducible refine (calamuslaw16_lives.calls  t178 _ A70.out).mono ?_); rintro e w72 ⟨rfl, hb⟩; have n0_ := Aside0.mk (blk_below (g := gb161) (o := .cells #[.int .i64 a2_0, .string a2_1] 23 (0, 0)) (by (with_reducible repeat (first | refine blk_drewN ?_ _ | refine blk_drew ?_ | refine blk_alloc ?_ _)); exact BK161.out) hb); have n1_ := Aside0.mk (below_step (by repeat (first | (with_reducible first | exact HB.out | apply below_alloc | apply pw_below_drewN | apply below_drew1 | refine below_set ?_ GE161.out) | exact HB.out)) hb); clear BK161; clear HB; have BK161 := n0_; have HB := n1_; clear n0_ n1_; (try clear hb); (try clear hb2); (try clear hk); (try clear hi)))
                                  go_ret
                                  exact ⟨by first | rfl | (simp [errW_none, errW_some] <;> rfl) | (simp only [← hji38, ← hji41]; first | rfl | (simp [errW_none, errW_some] <;> rfl)) | (simp [*, errW_none, errW_some] <;> rfl), by repeat (first | (with_reducible first | exact HB.out | apply below_alloc | apply pw_below_drewN | apply below_drew1 | refine below_set ?_ GE161.out) | exact HB.out)⟩
                                · rw [if_neg c69] at H
                                  have c69b0 : decide (t165 ≤ t163) = false := decide_eq_false c69
                                  clear c69
                                  obtain rfl := Option.some.inj H
                                  have hcz73_0 : wr.cell? ⟨gb161, 0, none⟩ = some (.int .i64 a2_0) := (blk_cell BK161.out 0).trans rfl
                                  have hcz73_1 : wr.cell? ⟨gb161, 1, none⟩ = some (.string a2_1) := (blk_cell BK161.out 1).trans rfl
                                  have hfz73_0 := blk_frozen BK161.out 0
                                  have hfz73_1 := blk_frozen BK161.out 1
                                  go_wp2
                                  go_ret
                                  exact ⟨by first | rfl | (simp [errW_none, errW_some] <;> rfl) | (simp only [← hji38, ← hji41]; first | rfl | (simp [errW_none, errW_some] <;> rfl)) | (simp [*, errW_none, errW_some] <;> rfl), by repeat (first | (with_reducible first | exact HB.out | apply below_alloc | apply pw_below_drewN | apply below_drew1 | refine below_set ?_ GE161.out) | exact HB.out)⟩
                            · replace c62 := Bool.eq_false_iff.mpr c62
                              subst c62
                              have H1 : ((calamuslaw16_lives.f).bind fun t179 => (some t179)) = some r := by rw [if_neg (show ¬ (false = true) by decide)] at H; exact H
                              clear H
                              have H := H1
                              clear H1
                              replace H := Option.bind_eq_some_iff.mp H
                              obtain ⟨t179, A740, H⟩ := H
                              replace H : (some t179) = some r := H
                              have A74 := Aside0.mk A740
                              clear A740
                              obtain rfl := Option.some.inj H
                              have hcz75_0 : wr.cell? ⟨gb161, 0, none⟩ = some (.int .i64 a2_0) := (blk_cell BK161.out 0).trans rfl
                              have hcz75_1 : wr.cell? ⟨gb161, 1, none⟩ = some (.string a2_1) := (blk_cell BK161.out 1).trans rfl
                              have hfz75_0 := blk_frozen BK161.out 0
                              have hfz75_1 := blk_frozen BK161.out 1
                              go_wp2_with (first | (go_at_call 7; (with_reducible refine (calamuslaw16_lives.calls  t179 _ A74.out).mono ?_); rintro e w76 ⟨rfl, hb⟩; have n0_ := Aside0.mk (blk_below (g := gb161) (o := .cells #[.int .i64 a2_0, .string a2_1] 23 (0, 0)) (by (with_reducible repeat (first | refine blk_drewN ?_ _ | refine blk_drew ?_ | refine blk_alloc ?_ _)); exact BK161.out) hb); have n1_ := Aside0.mk (below_step (by repeat (first | (with_reducible first | exact HB.out | apply below_alloc | apply pw_below_drewN | apply below_drew1 | refine below_set ?_ GE161.out) | exact HB.out)) hb); clear BK161; clear HB; have BK161 := n0_; have HB := n1_; clear n0_ n1_; (try clear hb); (try clear hb2); (try clear hk); (try clear hi)))
                              go_ret
                              exact ⟨by first | rfl | (simp [errW_none, errW_some] <;> rfl) | (simp only [← hji38, ← hji41]; first | rfl | (simp [errW_none, errW_some] <;> rfl)) | (simp [*, errW_none, errW_some] <;> rfl), by repeat (first | (with_reducible first | exact HB.out | apply below_alloc | apply pw_below_drewN | apply below_drew1 | refine below_set ?_ GE161.out) | exact HB.out)⟩
                          · rw [if_neg c61] at H
                            have c61b0 : ((decide (x13_27 > a1)) == (a2_0 == 116)) = false := by simpa using c61
                            (try (have c61b1 : decide ((decide (x13_27 > a1)) = (a2_0 == 116)) = false := by simpa using c61))
                            (try (have c61b2 : ((decide (x13_27 > a1)) == (a2_0 == 116)) = false := by simpa using c61))
                            (try (have c61b3 : ¬ ((decide (x13_27 > a1)) = (a2_0 == 116)) := by simpa using c61))
                            clear c61
                            obtain rfl := Option.some.inj H
                            have hcz77_0 : wr.cell? ⟨gb161, 0, none⟩ = some (.int .i64 a2_0) := (blk_cell BK161.out 0).trans rfl
                            have hcz77_1 : wr.cell? ⟨gb161, 1, none⟩ = some (.string a2_1) := (blk_cell BK161.out 1).trans rfl
                            have hfz77_0 := blk_frozen BK161.out 0
                            have hfz77_1 := blk_frozen BK161.out 1
                            go_wp2
                            go_ret
                            exact ⟨by first | rfl | (simp [errW_none, errW_some] <;> rfl) | (simp only [← hji38, ← hji41]; first | rfl | (simp [errW_none, errW_some] <;> rfl)) | (simp [*, errW_none, errW_some] <;> rfl), by repeat (first | (with_reducible first | exact HB.out | apply below_alloc | apply pw_below_drewN | apply below_drew1 | refine below_set ?_ GE161.out) | exact HB.out)⟩
                · rw [if_neg c37] at H
                  have c37b0 : (t173.toList == a2_1.toList) = false := beq_eq_false_iff_ne.mpr c37
                  have c37b1 : (t173.toList != a2_1.toList) = true := bne_iff_ne.mpr c37
                  obtain rfl := Option.some.inj H
                  try go_wp2
                  have n0_ := Aside0.mk (blk_drew BK161.out)
                  have n1_ := Aside0.mk (below_drew1 HB.out)
                  clear BK161
                  clear HB
                  have BK161 := n0_
                  have HB := n1_
                  clear n0_ n1_
                  refine start_ (n := 6) (S := fun w' => w'.cell? ⟨gb161, 0, none⟩ = some (.int .i64 a2_0) ∧ w'.cell? ⟨gb161, 1, none⟩ = some (.string a2_1)) (ds := []) #[false, false, false, false, false, false] (by kernel_rfl) rfl rfl ⟨(blk_cell BK161.out 0).trans rfl, (blk_cell BK161.out 1).trans rfl⟩ (fun hHeld => ?_)
                  generalize wc.drew = w78 at BK161 HB hHeld ⊢
                  refine pure_ (i := 0) (N := some 76) (v := ?_) (a' := ?_) #[true, false, false, false, false, false] rfl rfl (by kernel_rfl) (fun _ _ _ h => h) (Or.inl ⟨by rfl, ?_⟩) ?_ ?_
                  rotate_left
                  · intro w'
                    go_simp
                    with_reducible rfl
                  rotate_left
                  · simp only [Act.put, List.setIfInBounds_toArray, List.set_cons_zero, List.set_cons_succ, i64_w, i32_w]
                    rfl
                  refine pure_ (i := 1) (N := some 77) (v := ?_) (a' := ?_) #[true, true, false, false, false, false] rfl rfl (by kernel_rfl) (fun _ _ _ h => h) (Or.inl ⟨by rfl, ?_⟩) ?_ ?_
                  rotate_left
                  · intro w'
                    go_simp
                    with_reducible rfl
                  rotate_left
                  · simp only [Act.put, List.setIfInBounds_toArray, List.set_cons_zero, List.set_cons_succ, i64_w, i32_w]
                    rfl
                  refine pure_ (i := 3) (N := some 79) (v := ?_) (a' := ?_) #[true, true, false, true, false, false] rfl rfl (by kernel_rfl) (fun _ _ _ h => h) (Or.inl ⟨by rfl, ?_⟩) ?_ ?_
                  rotate_left
                  · intro w'
                    go_simp
                    with_reducible rfl
                  rotate_left
                  · simp only [Act.put, List.setIfInBounds_toArray, List.set_cons_zero, List.set_cons_succ, i64_w, i32_w]
                    rfl
                  refine take_ (i := 4) (N := some 80) (v := ?_) (a' := ?_) #[true, true, false, true, true, false] rfl rfl (by kernel_rfl) (fun _ _ _ h => h) (Or.inl ⟨by rfl, ?_⟩) hHeld ?_ ?_
                  rotate_left
                  · rintro w' ⟨s0, s1⟩
                    go_simp
                    with_reducible rfl
                  rotate_left
                  · simp only [Act.put, List.setIfInBounds_toArray, List.set_cons_zero, List.set_cons_succ, i64_w, i32_w]
                    rfl
                  refine one_ (i := 2) (N := some 78) #[true, true, true, true, true, false] rfl rfl (by kernel_rfl) (by decide) (fun K hK => ?_)
                  refine goes_ Try.func14 (by kernel_rfl) rfl #[.string a0, .int .i64 x13_27] (by rfl) rfl rfl (by (try simp only [List.map_toArray, List.map_cons, List.map_nil]); first | done | rfl | (simp only [List.length_drop, List.length_take]; rfl)) ?_
                  with_reducible refine (utf_Rune.calls a0 x13_27 t173 _ A36.out).mono ?_
                  rintro e w79 ⟨rfl, hb⟩
                  refine ⟨_, rfl, ?_⟩
                  have n0_ := Aside0.mk (blk_below (g := gb161) (o := .cells #[.int .i64 a2_0, .string a2_1] 23 (0, 0)) (by (with_reducible repeat (first | refine blk_drewN ?_ _ | refine blk_drew ?_ | refine blk_alloc ?_ _)); exact BK161.out) hb)
                  have n1_ := Aside0.mk (below_step (by repeat (first | (with_reducible first | exact HB.out | apply below_alloc | apply pw_below_drewN | apply below_drew1 | refine below_set ?_ GE161.out) | exact HB.out)) hb)
                  clear BK161
                  clear HB
                  have BK161 := n0_
                  have HB := n1_
                  clear n0_ n1_
                  (try clear hb)
                  (try clear hb2)
                  (try clear hk)
                  (try clear hi)
                  refine hK.out _ _ ⟨(blk_cell BK161.out 0).trans rfl, (blk_cell BK161.out 1).trans rfl⟩ (fun hHeld => ?_)
                  clear hK K
                  refine norm_ (a' := ?_) ?_ ?_
                  rotate_left
                  · show Act.put _ (some 78) _ = _
                    simp only [Act.put, List.setIfInBounds_toArray, List.set_cons_zero, List.set_cons_succ, i64_w, i32_w]
                    rfl
                  refine pure_ (i := 5) (N := some 81) (v := ?_) (a' := ?_) #[true, true, true, true, true, true] rfl rfl (by kernel_rfl) (fun _ _ _ h => h) (Or.inl ⟨by rfl, ?_⟩) ?_ ?_
                  rotate_left
                  · intro w'
                    go_simp
                    with_reducible rfl
                  rotate_left
                  · simp only [Act.put, List.setIfInBounds_toArray, List.set_cons_zero, List.set_cons_succ, i64_w, i32_w]
                    rfl
                  refine done_ (by kernel_rfl) ?_
                  try go_wp2
                  go_ret
                  exact ⟨by first | rfl | (simp [errW_none, errW_some] <;> rfl) | (simp [*, errW_none, errW_some] <;> rfl), by repeat (first | (with_reducible first | exact HB.out | apply below_alloc | apply pw_below_drewN | apply below_drew1 | refine below_set ?_ GE161.out) | exact HB.out)⟩
    · replace c11 := Bool.eq_false_iff.mpr c11
      subst c11
      have H1 : (if t163 = 0 then (if t165 = 0 then (if t166 = true then (some false) else ((calamuslaw16_lives.f).bind fun t167 => (some t167))) else (some false)) else (some false)) = some r := by rw [if_neg (show ¬ (false = true) by decide)] at H; exact H
      clear H
      have H := H1
      clear H1
      by_cases c80 : t163 = 0
      · rw [if_pos c80] at H
        have c80b0 : (t163 == 0) = true := beq_iff_eq.mpr c80
        have c80b1 : (t163 != 0) = false := bne_eq_false_iff_eq.mpr c80
        clear c80
        by_cases c81 : t165 = 0
        · rw [if_pos c81] at H
          have c81b0 : (t165 == 0) = true := beq_iff_eq.mpr c81
          have c81b1 : (t165 != 0) = false := bne_eq_false_iff_eq.mpr c81
          clear c81
          by_cases c82 : t166 = true
          · subst c82
            have H1 : (some false) = some r := by rw [if_pos rfl] at H; exact H
            clear H
            have H := H1
            clear H1
            obtain rfl := Option.some.inj H
            go_enter Try.func4, Try.ntmps4
            go_wp2_with (first | ((with_reducible refine gate_dst (N := 6) rfl ?_); refine box_event ?hg (N := 6) ?hd (cs := #[.int .i64 a2_0, .string a2_1]) (t := 23) ?hr ?_; (case hd => rfl); (case hg => rfl); (case hr => first | (go_simp; done) | (go_simp; rfl)); intro gb161 hg w83 hbox hb; have n0_ := Aside0.mk (below_step (by repeat (first | (with_reducible first | exact HB.out | apply below_alloc | apply pw_below_drewN | apply below_drew1) | exact HB.out)) hb); have n1_ := Aside0.mk (hbox); have n2_ := Aside0.mk ((by rw [hg]; exact (below_size (by repeat (first | (with_reducible first | exact HB.out | apply below_alloc | apply pw_below_drewN | apply below_drew1) | exact HB.out))) : w.heap.size ≤ gb161)); have n3_ := Aside0.mk ((by rw [hg]; exact (below_size (by repeat (first | (with_reducible first | exact HB.out | apply below_alloc | apply pw_below_drewN | apply below_drew1) | exact HB.out))) : w.heap.size ≤ gb161)); clear HB; have HB := n0_; have BK161 := n1_; have GW161 := n2_; have GE161 := n3_; clear n0_ n1_ n2_ n3_; clear hb hbox hg; have hcz84_0 : w83.cell? ⟨gb161, 0, none⟩ = some (.int .i64 a2_0) := (blk_cell BK161.out 0).trans rfl; have hcz84_1 : w83.cell? ⟨gb161, 1, none⟩ = some (.string a2_1) := (blk_cell BK161.out 1).trans rfl; have hfz84_0 := blk_frozen BK161.out 0; have hfz84_1 := blk_frozen BK161.out 1) | ((with_reducible refine gate_callee (f := 8) rfl ?_); refine goesL_ (some 24) rfl rfl Try.func8 (by kernel_rfl) rfl #[.string a0, .int .i64 a1, .agg #[.int .i64 a2_0, .string a2_1], .int .i64 1] rfl (by (try simp only [List.map_toArray, List.map_cons, List.map_nil]); first | done | rfl | (simp only [List.length_drop, List.length_take]; rfl)) ?_; (with_reducible refine (seek_Go.calls a0 a1 a2_0 a2_1 1 t163 false _ A9.out).mono ?_); rintro e w85 ⟨rfl, hb⟩; refine ⟨_, rfl, ?_⟩; have n0_ := Aside0.mk (blk_below (g := gb161) (o := .cells #[.int .i64 a2_0, .string a2_1] 23 (0, 0)) (by (with_reducible repeat (first | refine blk_drewN ?_ _ | refine blk_drew ?_ | refine blk_alloc ?_ _)); exact BK161.out) hb); have n1_ := Aside0.mk (below_step (by repeat (first | (with_reducible first | exact HB.out | apply below_alloc | apply pw_below_drewN | apply below_drew1 | refine below_set ?_ GE161.out) | exact HB.out)) hb); clear BK161; clear HB; have BK161 := n0_; have HB := n1_; clear n0_ n1_; (try clear hb); (try clear hb2); (try clear hk); (try clear hi); have hcz86_0 : w85.cell? ⟨gb161, 0, none⟩ = some (.int .i64 a2_0) := (blk_cell BK161.out 0).trans rfl; have hcz86_1 : w85.cell? ⟨gb161, 1, none⟩ = some (.string a2_1) := (blk_cell BK161.out 1).trans rfl; have hfz86_0 := blk_frozen BK161.out 0; have hfz86_1 := blk_frozen BK161.out 1) | ((with_reducible refine gate_callee (f := 8) rfl ?_); refine goesL_ (some 32) rfl rfl Try.func8 (by kernel_rfl) rfl #[.string a0, .int .i64 a1, .agg #[.int .i64 a2_0, .string a2_1], .int .i64 a3] rfl (by (try simp only [List.map_toArray, List.map_cons, List.map_nil]); first | done | rfl | (simp only [List.length_drop, List.length_take]; rfl)) ?_; (with_reducible refine (seek_Go.calls a0 a1 a2_0 a2_1 a3 t165 true _ A10.out).mono ?_); rintro e w87 ⟨rfl, hb⟩; refine ⟨_, rfl, ?_⟩; have n0_ := Aside0.mk (blk_below (g := gb161) (o := .cells #[.int .i64 a2_0, .string a2_1] 23 (0, 0)) (by (with_reducible repeat (first | refine blk_drewN ?_ _ | refine blk_drew ?_ | refine blk_alloc ?_ _)); exact BK161.out) hb); have n1_ := Aside0.mk (below_step (by repeat (first | (with_reducible first | exact HB.out | apply below_alloc | apply pw_below_drewN | apply below_drew1 | refine below_set ?_ GE161.out) | exact HB.out)) hb); clear BK161; clear HB; have BK161 := n0_; have HB := n1_; clear n0_ n1_; (try clear hb); (try clear hb2); (try clear hk); (try clear hi)))
            go_ret
            exact ⟨by first | rfl | (simp [errW_none, errW_some] <;> rfl) | (simp [*, errW_none, errW_some] <;> rfl), by repeat (first | (with_reducible first | exact HB.out | apply below_alloc | apply pw_below_drewN | apply below_drew1 | refine below_set ?_ GE161.out) | exact HB.out)⟩
          · replace c82 := Bool.eq_false_iff.mpr c82
            subst c82
            have H1 : ((calamuslaw16_lives.f).bind fun t167 => (some t167)) = some r := by rw [if_neg (show ¬ (false = true) by decide)] at H; exact H
            clear H
            have H := H1
            clear H1
            replace H := Option.bind_eq_some_iff.mp H
            obtain ⟨t167, A880, H⟩ := H
            replace H : (some t167) = some r := H
            have A88 := Aside0.mk A880
            clear A880
            obtain rfl := Option.some.inj H
            go_enter Try.func4, Try.ntmps4
            go_wp2_with (first | ((with_reducible refine gate_dst (N := 6) rfl ?_); refine box_event ?hg (N := 6) ?hd (cs := #[.int .i64 a2_0, .string a2_1]) (t := 23) ?hr ?_; (case hd => rfl); (case hg => rfl); (case hr => first | (go_simp; done) | (go_simp; rfl)); intro gb161 hg w89 hbox hb; have n0_ := Aside0.mk (below_step (by repeat (first | (with_reducible first | exact HB.out | apply below_alloc | apply pw_below_drewN | apply below_drew1) | exact HB.out)) hb); have n1_ := Aside0.mk (hbox); have n2_ := Aside0.mk ((by rw [hg]; exact (below_size (by repeat (first | (with_reducible first | exact HB.out | apply below_alloc | apply pw_below_drewN | apply below_drew1) | exact HB.out))) : w.heap.size ≤ gb161)); have n3_ := Aside0.mk ((by rw [hg]; exact (below_size (by repeat (first | (with_reducible first | exact HB.out | apply below_alloc | apply pw_below_drewN | apply below_drew1) | exact HB.out))) : w.heap.size ≤ gb161)); clear HB; have HB := n0_; have BK161 := n1_; have GW161 := n2_; have GE161 := n3_; clear n0_ n1_ n2_ n3_; clear hb hbox hg; have hcz90_0 : w89.cell? ⟨gb161, 0, none⟩ = some (.int .i64 a2_0) := (blk_cell BK161.out 0).trans rfl; have hcz90_1 : w89.cell? ⟨gb161, 1, none⟩ = some (.string a2_1) := (blk_cell BK161.out 1).trans rfl; have hfz90_0 := blk_frozen BK161.out 0; have hfz90_1 := blk_frozen BK161.out 1) | ((with_reducible refine gate_callee (f := 8) rfl ?_); refine goesL_ (some 24) rfl rfl Try.func8 (by kernel_rfl) rfl #[.string a0, .int .i64 a1, .agg #[.int .i64 a2_0, .string a2_1], .int .i64 1] rfl (by (try simp only [List.map_toArray, List.map_cons, List.map_nil]); first | done | rfl | (simp only [List.length_drop, List.length_take]; rfl)) ?_; (with_reducible refine (seek_Go.calls a0 a1 a2_0 a2_1 1 t163 false _ A9.out).mono ?_); rintro e w91 ⟨rfl, hb⟩; refine ⟨_, rfl, ?_⟩; have n0_ := Aside0.mk (blk_below (g := gb161) (o := .cells #[.int .i64 a2_0, .string a2_1] 23 (0, 0)) (by (with_reducible repeat (first | refine blk_drewN ?_ _ | refine blk_drew ?_ | refine blk_alloc ?_ _)); exact BK161.out) hb); have n1_ := Aside0.mk (below_step (by repeat (first | (with_reducible first | exact HB.out | apply below_alloc | apply pw_below_drewN | apply below_drew1 | refine below_set ?_ GE161.out) | exact HB.out)) hb); clear BK161; clear HB; have BK161 := n0_; have HB := n1_; clear n0_ n1_; (try clear hb); (try clear hb2); (try clear hk); (try clear hi); have hcz92_0 : w91.cell? ⟨gb161, 0, none⟩ = some (.int .i64 a2_0) := (blk_cell BK161.out 0).trans rfl; have hcz92_1 : w91.cell? ⟨gb161, 1, none⟩ = some (.string a2_1) := (blk_cell BK161.out 1).trans rfl; have hfz92_0 := blk_frozen BK161.out 0; have hfz92_1 := blk_frozen BK161.out 1) | ((with_reducible refine gate_callee (f := 8) rfl ?_); refine goesL_ (some 32) rfl rfl Try.func8 (by kernel_rfl) rfl #[.string a0, .int .i64 a1, .agg #[.int .i64 a2_0, .string a2_1], .int .i64 a3] rfl (by (try simp only [List.map_toArray, List.map_cons, List.map_nil]); first | done | rfl | (simp only [List.length_drop, List.length_take]; rfl)) ?_; (with_reducible refine (seek_Go.calls a0 a1 a2_0 a2_1 a3 t165 false _ A10.out).mono ?_); rintro e w93 ⟨rfl, hb⟩; refine ⟨_, rfl, ?_⟩; have n0_ := Aside0.mk (blk_below (g := gb161) (o := .cells #[.int .i64 a2_0, .string a2_1] 23 (0, 0)) (by (with_reducible repeat (first | refine blk_drewN ?_ _ | refine blk_drew ?_ | refine blk_alloc ?_ _)); exact BK161.out) hb); have n1_ := Aside0.mk (below_step (by repeat (first | (with_reducible first | exact HB.out | apply below_alloc | apply pw_below_drewN | apply below_drew1 | refine below_set ?_ GE161.out) | exact HB.out)) hb); clear BK161; clear HB; have BK161 := n0_; have HB := n1_; clear n0_ n1_; (try clear hb); (try clear hb2); (try clear hk); (try clear hi)) | (go_at_call 7; (with_reducible refine (calamuslaw16_lives.calls  t167 _ A88.out).mono ?_); rintro e w94 ⟨rfl, hb⟩; have n0_ := Aside0.mk (blk_below (g := gb161) (o := .cells #[.int .i64 a2_0, .string a2_1] 23 (0, 0)) (by (with_reducible repeat (first | refine blk_drewN ?_ _ | refine blk_drew ?_ | refine blk_alloc ?_ _)); exact BK161.out) hb); have n1_ := Aside0.mk (below_step (by repeat (first | (with_reducible first | exact HB.out | apply below_alloc | apply pw_below_drewN | apply below_drew1 | refine below_set ?_ GE161.out) | exact HB.out)) hb); clear BK161; clear HB; have BK161 := n0_; have HB := n1_; clear n0_ n1_; (try clear hb); (try clear hb2); (try clear hk); (try clear hi)))
            go_ret
            exact ⟨by first | rfl | (simp [errW_none, errW_some] <;> rfl) | (simp [*, errW_none, errW_some] <;> rfl), by repeat (first | (with_reducible first | exact HB.out | apply below_alloc | apply pw_below_drewN | apply below_drew1 | refine below_set ?_ GE161.out) | exact HB.out)⟩
        · rw [if_neg c81] at H
          have c81b0 : (t165 == 0) = false := beq_eq_false_iff_ne.mpr c81
          have c81b1 : (t165 != 0) = true := bne_iff_ne.mpr c81
          obtain rfl := Option.some.inj H
          go_enter Try.func4, Try.ntmps4
          go_wp2_with (first | ((with_reducible refine gate_dst (N := 6) rfl ?_); refine box_event ?hg (N := 6) ?hd (cs := #[.int .i64 a2_0, .string a2_1]) (t := 23) ?hr ?_; (case hd => rfl); (case hg => rfl); (case hr => first | (go_simp; done) | (go_simp; rfl)); intro gb161 hg w95 hbox hb; have n0_ := Aside0.mk (below_step (by repeat (first | (with_reducible first | exact HB.out | apply below_alloc | apply pw_below_drewN | apply below_drew1) | exact HB.out)) hb); have n1_ := Aside0.mk (hbox); have n2_ := Aside0.mk ((by rw [hg]; exact (below_size (by repeat (first | (with_reducible first | exact HB.out | apply below_alloc | apply pw_below_drewN | apply below_drew1) | exact HB.out))) : w.heap.size ≤ gb161)); have n3_ := Aside0.mk ((by rw [hg]; exact (below_size (by repeat (first | (with_reducible first | exact HB.out | apply below_alloc | apply pw_below_drewN | apply below_drew1) | exact HB.out))) : w.heap.size ≤ gb161)); clear HB; have HB := n0_; have BK161 := n1_; have GW161 := n2_; have GE161 := n3_; clear n0_ n1_ n2_ n3_; clear hb hbox hg; have hcz96_0 : w95.cell? ⟨gb161, 0, none⟩ = some (.int .i64 a2_0) := (blk_cell BK161.out 0).trans rfl; have hcz96_1 : w95.cell? ⟨gb161, 1, none⟩ = some (.string a2_1) := (blk_cell BK161.out 1).trans rfl; have hfz96_0 := blk_frozen BK161.out 0; have hfz96_1 := blk_frozen BK161.out 1) | ((with_reducible refine gate_callee (f := 8) rfl ?_); refine goesL_ (some 24) rfl rfl Try.func8 (by kernel_rfl) rfl #[.string a0, .int .i64 a1, .agg #[.int .i64 a2_0, .string a2_1], .int .i64 1] rfl (by (try simp only [List.map_toArray, List.map_cons, List.map_nil]); first | done | rfl | (simp only [List.length_drop, List.length_take]; rfl)) ?_; (with_reducible refine (seek_Go.calls a0 a1 a2_0 a2_1 1 t163 false _ A9.out).mono ?_); rintro e w97 ⟨rfl, hb⟩; refine ⟨_, rfl, ?_⟩; have n0_ := Aside0.mk (blk_below (g := gb161) (o := .cells #[.int .i64 a2_0, .string a2_1] 23 (0, 0)) (by (with_reducible repeat (first | refine blk_drewN ?_ _ | refine blk_drew ?_ | refine blk_alloc ?_ _)); exact BK161.out) hb); have n1_ := Aside0.mk (below_step (by repeat (first | (with_reducible first | exact HB.out | apply below_alloc | apply pw_below_drewN | apply below_drew1 | refine below_set ?_ GE161.out) | exact HB.out)) hb); clear BK161; clear HB; have BK161 := n0_; have HB := n1_; clear n0_ n1_; (try clear hb); (try clear hb2); (try clear hk); (try clear hi); have hcz98_0 : w97.cell? ⟨gb161, 0, none⟩ = some (.int .i64 a2_0) := (blk_cell BK161.out 0).trans rfl; have hcz98_1 : w97.cell? ⟨gb161, 1, none⟩ = some (.string a2_1) := (blk_cell BK161.out 1).trans rfl; have hfz98_0 := blk_frozen BK161.out 0; have hfz98_1 := blk_frozen BK161.out 1) | ((with_reducible refine gate_callee (f := 8) rfl ?_); refine goesL_ (some 32) rfl rfl Try.func8 (by kernel_rfl) rfl #[.string a0, .int .i64 a1, .agg #[.int .i64 a2_0, .string a2_1], .int .i64 a3] rfl (by (try simp only [List.map_toArray, List.map_cons, List.map_nil]); first | done | rfl | (simp only [List.length_drop, List.length_take]; rfl)) ?_; (with_reducible refine (seek_Go.calls a0 a1 a2_0 a2_1 a3 t165 t166 _ A10.out).mono ?_); rintro e w99 ⟨rfl, hb⟩; refine ⟨_, rfl, ?_⟩; have n0_ := Aside0.mk (blk_below (g := gb161) (o := .cells #[.int .i64 a2_0, .string a2_1] 23 (0, 0)) (by (with_reducible repeat (first | refine blk_drewN ?_ _ | refine blk_drew ?_ | refine blk_alloc ?_ _)); exact BK161.out) hb); have n1_ := Aside0.mk (below_step (by repeat (first | (with_reducible first | exact HB.out | apply below_alloc | apply pw_below_drewN | apply below_drew1 | refine below_set ?_ GE161.out) | exact HB.out)) hb); clear BK161; clear HB; have BK161 := n0_; have HB := n1_; clear n0_ n1_; (try clear hb); (try clear hb2); (try clear hk); (try clear hi)))
          go_ret
          exact ⟨by first | rfl | (simp [errW_none, errW_some] <;> rfl) | (simp [*, errW_none, errW_some] <;> rfl), by repeat (first | (with_reducible first | exact HB.out | apply below_alloc | apply pw_below_drewN | apply below_drew1 | refine below_set ?_ GE161.out) | exact HB.out)⟩
      · rw [if_neg c80] at H
        have c80b0 : (t163 == 0) = false := beq_eq_false_iff_ne.mpr c80
        have c80b1 : (t163 != 0) = true := bne_iff_ne.mpr c80
        obtain rfl := Option.some.inj H
        go_enter Try.func4, Try.ntmps4
        go_wp2_with (first | ((with_reducible refine gate_dst (N := 6) rfl ?_); refine box_event ?hg (N := 6) ?hd (cs := #[.int .i64 a2_0, .string a2_1]) (t := 23) ?hr ?_; (case hd => rfl); (case hg => rfl); (case hr => first | (go_simp; done) | (go_simp; rfl)); intro gb161 hg w100 hbox hb; have n0_ := Aside0.mk (below_step (by repeat (first | (with_reducible first | exact HB.out | apply below_alloc | apply pw_below_drewN | apply below_drew1) | exact HB.out)) hb); have n1_ := Aside0.mk (hbox); have n2_ := Aside0.mk ((by rw [hg]; exact (below_size (by repeat (first | (with_reducible first | exact HB.out | apply below_alloc | apply pw_below_drewN | apply below_drew1) | exact HB.out))) : w.heap.size ≤ gb161)); have n3_ := Aside0.mk ((by rw [hg]; exact (below_size (by repeat (first | (with_reducible first | exact HB.out | apply below_alloc | apply pw_below_drewN | apply below_drew1) | exact HB.out))) : w.heap.size ≤ gb161)); clear HB; have HB := n0_; have BK161 := n1_; have GW161 := n2_; have GE161 := n3_; clear n0_ n1_ n2_ n3_; clear hb hbox hg; have hcz101_0 : w100.cell? ⟨gb161, 0, none⟩ = some (.int .i64 a2_0) := (blk_cell BK161.out 0).trans rfl; have hcz101_1 : w100.cell? ⟨gb161, 1, none⟩ = some (.string a2_1) := (blk_cell BK161.out 1).trans rfl; have hfz101_0 := blk_frozen BK161.out 0; have hfz101_1 := blk_frozen BK161.out 1) | ((with_reducible refine gate_callee (f := 8) rfl ?_); refine goesL_ (some 24) rfl rfl Try.func8 (by kernel_rfl) rfl #[.string a0, .int .i64 a1, .agg #[.int .i64 a2_0, .string a2_1], .int .i64 1] rfl (by (try simp only [List.map_toArray, List.map_cons, List.map_nil]); first | done | rfl | (simp only [List.length_drop, List.length_take]; rfl)) ?_; (with_reducible refine (seek_Go.calls a0 a1 a2_0 a2_1 1 t163 false _ A9.out).mono ?_); rintro e w102 ⟨rfl, hb⟩; refine ⟨_, rfl, ?_⟩; have n0_ := Aside0.mk (blk_below (g := gb161) (o := .cells #[.int .i64 a2_0, .string a2_1] 23 (0, 0)) (by (with_reducible repeat (first | refine blk_drewN ?_ _ | refine blk_drew ?_ | refine blk_alloc ?_ _)); exact BK161.out) hb); have n1_ := Aside0.mk (below_step (by repeat (first | (with_reducible first | exact HB.out | apply below_alloc | apply pw_below_drewN | apply below_drew1 | refine below_set ?_ GE161.out) | exact HB.out)) hb); clear BK161; clear HB; have BK161 := n0_; have HB := n1_; clear n0_ n1_; (try clear hb); (try clear hb2); (try clear hk); (try clear hi); have hcz103_0 : w102.cell? ⟨gb161, 0, none⟩ = some (.int .i64 a2_0) := (blk_cell BK161.out 0).trans rfl; have hcz103_1 : w102.cell? ⟨gb161, 1, none⟩ = some (.string a2_1) := (blk_cell BK161.out 1).trans rfl; have hfz103_0 := blk_frozen BK161.out 0; have hfz103_1 := blk_frozen BK161.out 1) | ((with_reducible refine gate_callee (f := 8) rfl ?_); refine goesL_ (some 32) rfl rfl Try.func8 (by kernel_rfl) rfl #[.string a0, .int .i64 a1, .agg #[.int .i64 a2_0, .string a2_1], .int .i64 a3] rfl (by (try simp only [List.map_toArray, List.map_cons, List.map_nil]); first | done | rfl | (simp only [List.length_drop, List.length_take]; rfl)) ?_; (with_reducible refine (seek_Go.calls a0 a1 a2_0 a2_1 a3 t165 t166 _ A10.out).mono ?_); rintro e w104 ⟨rfl, hb⟩; refine ⟨_, rfl, ?_⟩; have n0_ := Aside0.mk (blk_below (g := gb161) (o := .cells #[.int .i64 a2_0, .string a2_1] 23 (0, 0)) (by (with_reducible repeat (first | refine blk_drewN ?_ _ | refine blk_drew ?_ | refine blk_alloc ?_ _)); exact BK161.out) hb); have n1_ := Aside0.mk (below_step (by repeat (first | (with_reducible first | exact HB.out | apply below_alloc | apply pw_below_drewN | apply below_drew1 | refine below_set ?_ GE161.out) | exact HB.out)) hb); clear BK161; clear HB; have BK161 := n0_; have HB := n1_; clear n0_ n1_; (try clear hb); (try clear hb2); (try clear hk); (try clear hi)))
        go_ret
        exact ⟨by first | rfl | (simp [errW_none, errW_some] <;> rfl) | (simp [*, errW_none, errW_some] <;> rfl), by repeat (first | (with_reducible first | exact HB.out | apply below_alloc | apply pw_below_drewN | apply below_drew1 | refine below_set ?_ GE161.out) | exact HB.out)⟩

end Go.Proofs.Ytbilknmcikmcoaa.Q
/- The statement SeekLeads in plain words. -/
namespace Go.Proofs.Ytbilknmcikmcoaa
open Go.RowKit
set_option linter.unusedVariables false
set_option linter.unusedSimpArgs false
open Go.RowKit Go.Proofs.Ytbilknmcikmcoaa.Q Go.Proofs.YtbilknmcikmcoaaW.PrintWords Go.Proofs.YtbilknmcikmcoaaW.PrintMore
structure Leads (l r : List UInt8) (p e : Nat) (k : Int) (x q : Nat) : Prop where
  place : placeB l q = true
  near : (lst l p ≤ q ∧ q ≤ e)
  hit : runeL l x = r
  back : tgt l k x = q
  again : (if k = 116 then nextI l q else if k = 84 then prevI l q else q) = x
  side : (p < x ∧ (k = 102 ∨ k = 116)) ∨ (x < p ∧ (k = 70 ∨ k = 84))
  gap : ∀ i : Int, min (x : Int) p + 1 ≤ i → i < max (x : Int) p → runeL l i ≠ r
theorem rune_not {l r : List UInt8} {i : Int} {a d : Nat} (hr : r ≠ []) (h1 : a ≤ i) (h2 : i < (a + d : Nat)) (h : ∀ x ∈ hits l r a d, (x : Int) ≠ i) : runeL l i ≠ r := by
  intro hru
  obtain ⟨q, rfl, hq, hp⟩ := rune_place hr hru
  exact h q (hit_mem (by omega) (by omega) hr hru) rfl
theorem tgt_F {l : List UInt8} {p x : Nat} {k : Int} (hp : placeB l p = true) (hx : placeB l x = true) (hlt : p < x) (hk : k = 102 ∨ k = 116) : ∃ q : Nat, tgt l k x = q ∧ placeB l q = true ∧ p ≤ q ∧ q ≤ x ∧ (if k = 116 then nextI l q else if k = 84 then prevI l q else q) = x := by
  rcases hk with rfl | rfl
  · exact ⟨x, rfl, hx, by omega, Nat.le_refl _, rfl⟩
  · obtain ⟨y, h1, h2, h3, h4, h5⟩ := next_prev hx (by omega)
    exact ⟨y, h1, h3, h5 p hp hlt, by omega, h4⟩
theorem tgt_B {l : List UInt8} {p x : Nat} {k : Int} (hp : placeB l p = true) (hx : placeB l x = true) (hlt : x < p) (hk : k = 70 ∨ k = 84) : ∃ q : Nat, tgt l k x = q ∧ placeB l q = true ∧ x ≤ q ∧ q ≤ p ∧ (if k = 116 then nextI l q else if k = 84 then prevI l q else q) = x := by
  have hle := (valid_at hp).2.1
  rcases hk with rfl | rfl
  · exact ⟨x, rfl, hx, Nat.le_refl _, by omega, rfl⟩
  · obtain ⟨y, h1, h2, h3, h4, h5, h6⟩ := prev_next hx (by omega)
    exact ⟨y, h1, h4, by omega, h6 p hp hlt, h5⟩
theorem leads_F {l r : List UInt8} {p e : Nat} {k : Int} (hr : r ≠ []) (hp : placeB l p = true) (he : endI l (ofI l p) = e) (hk : k = 102 ∨ k = 116) {x : Nat} {L : List Nat} (hL : hits l r (p + 1) (e - (p + 1)) = x :: L) :
    ∃ q, Leads l r p e k x q ∧ ∀ y ∈ x :: L, tgt l k x ≤ tgt l k y := by
  have hm : x ∈ hits l r (p + 1) (e - (p + 1)) := by rw [hL]; exact List.mem_cons_self
  obtain ⟨m1, m2, m3⟩ := hits_mem hm
  obtain ⟨mp, mr⟩ := hit_at m3
  obtain ⟨q, t1, t2, t3, t4, t5⟩ := tgt_F hp mp (by omega) hk
  have hs := hits_sorted l r (p + 1) (e - (p + 1))
  rw [hL] at hs
  have hs2 := (List.pairwise_cons.1 hs).1
  have hll := lst_le l p
  refine ⟨q, ⟨t2, ⟨by omega, by omega⟩, mr, t1, t5, .inl ⟨by omega, hk⟩, fun i h1 h2 => ?_⟩, fun y hy => ?_⟩
  · refine rune_not (a := p + 1) (d := e - (p + 1)) hr (by omega) (by omega) (fun y hy => ?_)
    rw [hL] at hy
    rcases List.mem_cons.1 hy with rfl | hy
    · omega
    · have := hs2 y hy; omega
  · rcases List.mem_cons.1 hy with rfl | hy2
    · exact Int.le_refl _
    · have hxy := hs2 y hy2
      have hmy : y ∈ hits l r (p + 1) (e - (p + 1)) := by rw [hL]; exact hy
      obtain ⟨n1, n2, n3⟩ := hits_mem hmy
      obtain ⟨np, nr⟩ := hit_at n3
      obtain ⟨q2, s1, s2, s3, s4, s5⟩ := tgt_F mp np hxy hk
      rw [t1, s1]; omega
theorem leads_B {l r : List UInt8} {p e : Nat} {k : Int} (hr : r ≠ []) (hp : placeB l p = true) (hpe : p ≤ e) (hk : k = 70 ∨ k = 84) {x : Nat} {L : List Nat} (hL : (hits l r (lst l p) (p - lst l p)).reverse = x :: L) :
    ∃ q, Leads l r p e k x q ∧ ∀ y ∈ x :: L, tgt l k y ≤ tgt l k x := by
  have hm : x ∈ hits l r (lst l p) (p - lst l p) := by rw [← List.mem_reverse, hL]; exact List.mem_cons_self
  obtain ⟨m1, m2, m3⟩ := hits_mem hm
  obtain ⟨mp, mr⟩ := hit_at m3
  obtain ⟨q, t1, t2, t3, t4, t5⟩ := tgt_B hp mp (by omega) hk
  have hs := List.pairwise_reverse.2 ((hits_sorted l r (lst l p) (p - lst l p)).imp (S := fun a b => b > a) (fun h => h))
  rw [hL] at hs
  have hs2 := (List.pairwise_cons.1 hs).1
  refine ⟨q, ⟨t2, ⟨by omega, by omega⟩, mr, t1, t5, .inr ⟨by omega, hk⟩, fun i h1 h2 => ?_⟩, fun y hy => ?_⟩
  · refine rune_not (a := lst l p) (d := p - lst l p) hr (by omega) (by omega) (fun y hy => ?_)
    rw [← List.mem_reverse, hL] at hy
    rcases List.mem_cons.1 hy with rfl | hy
    · omega
    · have := hs2 y hy; omega
  · rcases List.mem_cons.1 hy with rfl | hy2
    · exact Int.le_refl _
    · have hxy := hs2 y hy2
      have hmy : y ∈ hits l r (lst l p) (p - lst l p) := by rw [← List.mem_reverse, hL]; exact hy
      obtain ⟨n1, n2, n3⟩ := hits_mem hmy
      obtain ⟨np, nr⟩ := hit_at n3
      obtain ⟨q2, s1, s2, s3, s4, s5⟩ := tgt_B mp np (by omega) hk
      rw [t1, s1]; omega
def lastB (k : Int) (p q x y : Int) (more : Bool) : Prop := ((p < x ∧ (k = 102 ∨ k = 116)) ∧ (more = true → q ≤ y)) ∨ ((x < p ∧ (k = 70 ∨ k = 84)) ∧ (more = true → y ≤ q))
theorem sl_l0 (t : ByteArray) (p : Int) (q y : Int) (more : Bool) (x : Int) (k : Int) (r : ByteArray) (ht : t.size ≤ 1000) (hp : 0 ≤ p ∧ p ≤ 1000) (hx : 0 ≤ x ∧ x ≤ 1000) (hlast : lastB k p q x y more) :
    ∀ (d : Nat) (i : Int), max x p - i ≤ d → 0 ≤ i → i ≤ 2000 → (∀ j : Int, i ≤ j → j < max x p → runeL (ls t) j ≠ ls r) → Ev (fun m => calamuslaw16_SeekLeads.l0 m t p q y more x i k r) true := by
  have fin : ∀ i : Int, ¬ i < max x p → Ev (fun m => calamuslaw16_SeekLeads.l0 m t p q y more x i k r) true := by
    intro i hi
    refine Ev.step (fun _ => (by rw [calamuslaw16_SeekLeads.l0])) ?_
    rw [mx_eq]
    refine Ev.neg hi ?_
    rcases hlast with ⟨⟨h1, hk⟩, h2⟩ | ⟨⟨h1, hk⟩, h2⟩
    · have hd : decide (x > p) = true := by simp; omega
      rw [hd]
      rcases hk with rfl | rfl
      · refine Ev.pos rfl (Ev.pos rfl (Ev.ite (fun hm => ?_) (fun hm => lives16')))
        exact Ev.pos (h2 hm) lives16'
      · refine Ev.neg (by decide) (Ev.pos rfl (Ev.ite (fun hm => ?_) (fun hm => lives16')))
        exact Ev.pos rfl (Ev.pos (h2 hm) lives16')
    · have hd : decide (x > p) = false := by simp; omega
      rw [hd]
      rcases hk with rfl | rfl
      · refine Ev.neg (by decide) (Ev.pos rfl (Ev.ite (fun hm => ?_) (fun hm => lives16')))
        exact Ev.neg (by decide) (Ev.pos (h2 hm) lives16')
      · refine Ev.neg (by decide) (Ev.pos rfl (Ev.ite (fun hm => ?_) (fun hm => lives16')))
        exact Ev.neg (by decide) (Ev.pos (h2 hm) lives16')
  intro d
  induction d with
  | zero => intro i h1 _ _ _; exact fin i (by omega)
  | succ d ih =>
    intro i h1 h2 h3 h4
    by_cases hi : i < max x p
    · refine Ev.step (fun _ => (by rw [calamuslaw16_SeekLeads.l0])) ?_
      rw [mx_eq, utf_Rune.eq t i (by omega)]
      simp only [Option.bind_some]
      rw [w64 (n := i + 1) (by omega) (by omega)]
      refine Ev.pos hi (Ev.neg (by rw [toList_ls, toList_ls]; exact h4 i (Int.le_refl _) hi) ?_)
      exact ih (i + 1) (by omega) (by omega) (by omega) (fun j a b => h4 j (by omega) b)
    · exact fin i hi
theorem sl_ev (t : ByteArray) (p e : Nat) (k : Int) (r : ByteArray) (x q : Nat) (y : Int) (more : Bool) (ht : t.size ≤ 1000) (hp : placeB (ls t) p = true) (he : endI (ls t) (ofI (ls t) p) = e) (hL : Leads (ls t) (ls r) p e k x q) (hxs : x ≤ t.size)
    (hmore : more = true → (p < x → (q : Int) ≤ y) ∧ (x < p → y ≤ q)) : Ev (fun m => calamuslaw16_SeekLeads.j0 m t p q y more false k r) true := by
  have hps : p ≤ t.size := by have := (valid_at hp).2.1; rw [ls_len] at this; exact this
  have key : Ev (fun m => calamuslaw16_SeekLeads.j1 m t p q y more x k r) true := by
    refine Ev.step (fun _ => (by rw [calamuslaw16_SeekLeads.j1])) ?_
    rw [utf_Rune.eq t x (by omega)]
    simp only [Option.bind_some]
    refine Ev.pos (by rw [toList_ls, toList_ls]; exact hL.hit) ?_
    rw [mn_eq, w64 (n := min (x : Int) p + 1) (by omega) (by omega)]
    refine sl_l0 t p q y more x k r ht (by omega) (by omega) ?_ (max x p) _ (by omega) (by omega) (by omega) (fun j a b => hL.gap j a b)
    rcases hL.side with ⟨h1, h2⟩ | ⟨h1, h2⟩
    · exact .inl ⟨⟨by omega, h2⟩, fun hm => (hmore hm).1 h1⟩
    · exact .inr ⟨⟨by omega, h2⟩, fun hm => (hmore hm).2 h1⟩
  have hag := hL.again
  refine Ev.step (fun _ => (by rw [calamuslaw16_SeekLeads.j0])) ?_
  rw [utf_Next.eq t q (by omega), utf_Prev.eq t q (by omega)]
  simp only [Option.bind_some]
  refine Ev.neg (by decide) (Ev.ite (fun h => ?_) (fun h => Ev.ite (fun h2 => ?_) (fun h2 => ?_)))
  · rw [if_pos h] at hag; rw [hag]; exact key
  · rw [if_neg h, if_pos h2] at hag; rw [hag]; exact key
  · rw [if_neg h, if_neg h2] at hag; rw [hag] at key ⊢; exact key
theorem SeekLeads_p (t : ByteArray) (p k : Int) (r : ByteArray) (n : Int) (ht : t.size ≤ 140737488351232) (hp : -9223372036854775808 ≤ p ∧ p ≤ 9223372036854775807) (hk : -9223372036854775808 ≤ k ∧ k ≤ 9223372036854775807) (hr : r.size ≤ 140737488351232) (hn : -9223372036854775808 ≤ n ∧ n ≤ 9223372036854775807) : ∃ m, calamuslaw16_SeekLeads.f m t p k r n = some true := by
  refine Ev.at ?_
  unfold calamuslaw16_SeekLeads.f
  refine Ev.ite (fun _ => lives16') (fun h => ?_)
  refine Ev.call (seek_Go.eq t p k r 1 ⟨by omega, hr, by omega⟩) (Ev.call (seek_Go.eq t p k r n ⟨by omega, hr, hn⟩) ?_)
  have none : seekI (ls t) p k (ls r) 1 = (0, false) → seekI (ls t) p k (ls r) n = (0, false) → Ev (fun m => if (seekI (ls t) p k (ls r) 1).2 = true then (line_Of.f t (seekI (ls t) p k (ls r) 1).1).bind fun t168 => (line_Of.f t p).bind fun t169 => (if t168 = t169 then (utf_Place.f t (seekI (ls t) p k (ls r) 1).1).bind fun t170 => calamuslaw16_SeekLeads.j0 m t p (seekI (ls t) p k (ls r) 1).1 (seekI (ls t) p k (ls r) n).1 (seekI (ls t) p k (ls r) n).2 (!t170) k r else calamuslaw16_SeekLeads.j0 m t p (seekI (ls t) p k (ls r) 1).1 (seekI (ls t) p k (ls r) n).1 (seekI (ls t) p k (ls r) n).2 true k r) else (if (seekI (ls t) p k (ls r) 1).1 = 0 then (if (seekI (ls t) p k (ls r) n).1 = 0 then (if (seekI (ls t) p k (ls r) n).2 = true then (some false) else (calamuslaw16_lives.f.bind fun t167 => some t167)) else some false) else some false)) true := by
    intro h1 h2
    rw [h1, h2]
    exact Ev.neg (by decide) (Ev.pos rfl (Ev.pos rfl (Ev.neg (by decide) lives16')))
  rcases Bool.eq_false_or_eq_true (rightB k (ls r)) with hb | hb
  case inr => exact none (seek_no (.inl hb)) (seek_no (.inl hb))
  rcases place_cases t p with hpl | ⟨a, rfl, ha, hpl, hv⟩
  · exact none (seek_no (.inr hpl)) (seek_no (.inr hpl))
  obtain ⟨e, q1, q2, q3, q4, q5, q6, q7⟩ := line_at hpl
  have hne := is_ne ((right_is k (ls r)).1 hb).2.1
  have s1 := seek_shape hb hpl q2 1
  have sn := seek_shape hb hpl q2 n
  rw [ls_len] at q5
  have some_ : ∀ (x q : Nat) (L : List Nat), (if k = 70 ∨ k = 84 then (hits (ls t) (ls r) (lst (ls t) a) (a - lst (ls t) a)).reverse else hits (ls t) (ls r) (a + 1) (e - (a + 1))) = x :: L → Leads (ls t) (ls r) a e k x q → x ≤ t.size →
      (∀ y ∈ x :: L, (a < x → (q : Int) ≤ tgt (ls t) k y) ∧ (x < a → tgt (ls t) k y ≤ q)) →
      Ev (fun m => if (seekI (ls t) a k (ls r) 1).2 = true then (line_Of.f t (seekI (ls t) a k (ls r) 1).1).bind fun t168 => (line_Of.f t a).bind fun t169 => (if t168 = t169 then (utf_Place.f t (seekI (ls t) a k (ls r) 1).1).bind fun t170 => calamuslaw16_SeekLeads.j0 m t a (seekI (ls t) a k (ls r) 1).1 (seekI (ls t) a k (ls r) n).1 (seekI (ls t) a k (ls r) n).2 (!t170) k r else calamuslaw16_SeekLeads.j0 m t a (seekI (ls t) a k (ls r) 1).1 (seekI (ls t) a k (ls r) n).1 (seekI (ls t) a k (ls r) n).2 true k r) else (if (seekI (ls t) a k (ls r) 1).1 = 0 then (if (seekI (ls t) a k (ls r) n).1 = 0 then (if (seekI (ls t) a k (ls r) n).2 = true then (some false) else (calamuslaw16_lives.f.bind fun t167 => some t167)) else some false) else some false)) true := by
    intro x q L hL hld hxs hall
    rw [hL] at s1 sn
    have e1 : seekI (ls t) a k (ls r) 1 = ((q : Int), true) := by rw [s1, nth_one, ← hld.back]; rfl
    rw [e1]
    obtain ⟨i1, i2, i3⟩ := in_line (j := q) hpl q2 hld.near.1 hld.near.2
    refine Ev.pos rfl (Ev.call (line_Of.eq t q (by omega)) (Ev.call (line_Of.eq t a (by omega)) (Ev.pos i1 (Ev.call (utf_Place.eq t q (by omega)) ?_))))
    rw [hld.place]
    cases hO : nthO (x :: L) (max n 1) with
    | none =>
      rw [hO] at sn
      rw [sn]
      exact sl_ev t a e k r x q 0 false (by omega) hpl q2 hld hxs (fun h => by cases h)
    | some y =>
      rw [hO] at sn
      rw [sn]
      obtain ⟨c, hc, hlt, hy⟩ := nth_some hO
      have hm : y ∈ x :: L := hy ▸ List.getElem_mem hlt
      exact sl_ev t a e k r x q (tgt (ls t) k y) true (by omega) hpl q2 hld hxs (fun _ => hall y hm)
  by_cases hk2 : k = 70 ∨ k = 84
  · cases hL : (hits (ls t) (ls r) (lst (ls t) a) (a - lst (ls t) a)).reverse with
    | nil =>
      rw [if_pos hk2, hL] at s1 sn
      exact none (by rw [s1]; rfl) (by rw [sn, nth_empty])
    | cons x L =>
      obtain ⟨q, hld, hall⟩ := leads_B (e := e) hne hpl q4 hk2 hL
      have hx : x < a := by
        rcases hld.side with ⟨_, h2⟩ | ⟨h1, _⟩
        · omega
        · exact h1
      refine some_ x q L (by rw [if_pos hk2, hL]) hld (by omega) (fun y hy => ⟨fun h => by omega, fun _ => ?_⟩)
      have := hall y hy; rw [hld.back] at this; exact this
  · have hkf : k = 102 ∨ k = 116 := by have := ((right_eq k (ls r)).1 hb).1; omega
    cases hL : hits (ls t) (ls r) (a + 1) (e - (a + 1)) with
    | nil =>
      rw [if_neg hk2, hL] at s1 sn
      exact none (by rw [s1]; rfl) (by rw [sn, nth_empty])
    | cons x L =>
      obtain ⟨q, hld, hall⟩ := leads_F (k := k) hne hpl q2 hkf hL
      have hx : a < x := by
        rcases hld.side with ⟨h1, _⟩ | ⟨_, h2⟩
        · exact h1
        · omega
      have hm : x ∈ hits (ls t) (ls r) (a + 1) (e - (a + 1)) := by rw [hL]; exact List.mem_cons_self
      obtain ⟨m1, m2, m3⟩ := hits_mem hm
      refine some_ x q L (by rw [if_neg hk2, hL]) hld (by omega) (fun y hy => ⟨fun _ => ?_, fun h => by omega⟩)
      have := hall y hy; rw [hld.back] at this; exact this
end Go.Proofs.Ytbilknmcikmcoaa
