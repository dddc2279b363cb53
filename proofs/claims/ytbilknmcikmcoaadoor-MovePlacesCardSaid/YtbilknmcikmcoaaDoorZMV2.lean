/- Joined by merge.py out of this work's texts: MvH, PMv, PMn, PMo, XMg, XMv, QO1, PMr. -/
import Derived.Test.YtbilknmcikmcoaaDoorZMV1
import Derived.Test.YtbilknmcikmcoaaDoorProg
import Derived.Below
import Derived.Deep.Draws
import Derived.Deep.AppendLies
import Derived.Maps.AppendAt
import Derived.OwnWalk
import Derived.Laws.BytesArg
import Derived.Laws.MakeOwn
import Derived.Laws.OwnMore
import Derived.Deep.OwnRows
import Derived.Tactics
import Derived.Lib.ConvBytes
import Derived.Laws.Slices
import Derived.WalkKit
import Derived.KernelRfl
import Derived.RowKit3
import Derived.Deep.LoopGhost
import Derived.Deep.QuietTactic
import Derived.BigQuiet
import Derived.WideLaws
import Derived.Deep.DeepCutAuto
import Derived.Deep.CutBlock
import Derived.Deep.RegionHeld3
import Derived.Laws.Rows
import Derived.Lib.AppendStr
import Derived.ArgAppend
import Derived.Laws.IdiomCopy
import Derived.OrdersHeld
import Derived.Laws.BitsLemmas
import Derived.RowKit
import Derived.Test.YtbilknmcikmcoaaDoorWWords
import Derived.Test.YtbilknmcikmcoaaDoorWLast
import Derived.Test.YtbilknmcikmcoaaDoorWTab
import Derived.Test.YtbilknmcikmcoaaDoorWQPut
import Derived.Test.YtbilknmcikmcoaaDoorWApart
import Derived.Test.YtbilknmcikmcoaaDoorWArr
import Derived.Test.YtbilknmcikmcoaaDoorWZeros
import Derived.Test.YtbilknmcikmcoaaDoorWFoot
import Derived.Test.YtbilknmcikmcoaaDoorWKept
import Derived.Test.YtbilknmcikmcoaaDoorWShare
import Derived.Test.YtbilknmcikmcoaaDoorWN
import Derived.Test.YtbilknmcikmcoaaDoorWFootNe
import Derived.Test.YtbilknmcikmcoaaDoorWEqStruct
import Derived.Test.YtbilknmcikmcoaaDoorWRepsOne
import Derived.Test.YtbilknmcikmcoaaDoorWNEv
import Derived.Test.YtbilknmcikmcoaaDoorWMore
import Derived.Test.YtbilknmcikmcoaaDoorZMV0
/- The walks of move.Go, one a motion (printed by gomove.py). -/
namespace Go.Proofs.YtbilknmcikmcoaaDoor
open Go.RowKit
set_option linter.unusedVariables false
set_option linter.unusedSimpArgs false
open Go.Proofs.YtbilknmcikmcoaaDoor.QM Go.Proofs.YtbilknmcikmcoaaDoorW.PrintWords Go.Proofs.YtbilknmcikmcoaaDoorW.PrintLast Go.Proofs.YtbilknmcikmcoaaDoorW.PrintMore
attribute [local go_sem] max2_int min2_int max_two min_two max_three min_three max_four min_four
set_option maxHeartbeats 8000000 in
set_option maxRecDepth 100000 in
theorem mgo_0 (kj6 : Nat) (a0 : ByteArray) (a1 : Int) (a2 : ByteArray) (a3 a4 t126 t127 t128 ji14 ji15 t130 : Int) (t131 : Bool) (w : World) (hJ : motJ a2 = some 0) (A10 : Aside0 (utf_Place.f a0 a1 = some true)) (A13 : Aside0 (line_Of.f a0 a1 = some t126)) (A16 : Aside0 (line_Start.f a0 t126 = some t127)) (A17 : Aside0 (line_End.f a0 t126 = some t128)) (hji14 : (mn a3 (wrap64 ((a0.size : Int) + 2))) = ji14) (hji15 : (mx (ji14) 1) = ji15)
    (A18 : Aside0 (move_left.f kj6 a0 a1 t126 ji15 (decide (a3 ≥ 1)) a4 t127 t128 = some (t130, t131))) :
    Calls Tryd.prog 22 #[.string a0, .int .i64 a1, .string a2, .int .i64 a3, .int .i64 a4] w fun e w' => e = .returned (.tuple #[.int .i64 t130, .bool t131]) ∧ Below w.heap.size w w' := by
  have hu55 := Tryd.underlying55
  have HB := Aside0.mk (below_alloc (o := .map motA 10) (Below.refl w.heap.size w))
  have hl : (Instr.lookup 52 (.map (some w.heap.size)) (.string a2) true).run Tryd.prog (w.alloc (.map motA 10)) = .ok (.tuple #[.func (.func 57) #[] #[], .bool true]) (w.alloc (.map motA 10)) := by
    have h := lookup_keys w a2
    unfold motV at h
    rw [hJ] at h
    exact h
  clear hJ
  have hji14_ : (if (wrap64 ((a0.size : Int) + 2)) < a3 then (wrap64 ((a0.size : Int) + 2)) else a3) = ji14 := hji14
  have hji15_ : (if (ji14) < 1 then 1 else (ji14)) = ji15 := hji15
  go_enter Tryd.func22, Tryd.ntmps22
  go_wp2_with (first | (go_at_call 39; refine (keys_c' _).mono ?_; rintro e w1 ⟨rfl, rfl⟩) | (go_at_call 16; (with_reducible refine (utf_Place.calls a0 a1 true _ A10.out).mono ?_); rintro e w11 ⟨rfl, hb⟩; have n0_ := Aside0.mk (below_step (by repeat (first | (with_reducible first | exact HB.out | apply below_alloc | apply pw_below_drewN | apply below_drew1) | exact HB.out)) hb); clear HB; have HB := n0_; clear n0_; clear hb) | ((with_reducible refine gate_callee (f := 26) rfl ?_); refine goesL_ (some 33) rfl rfl Tryd.func26 (by kernel_rfl) rfl #[.string a0, .int .i64 a1] rfl (by (try simp only [List.map_toArray, List.map_cons, List.map_nil]); first | done | rfl | (simp only [List.length_drop, List.length_take]; rfl)) ?_; (with_reducible refine (line_Of.calls a0 a1 t126 _ A13.out).mono ?_); rintro e w19 ⟨rfl, hb⟩; refine ⟨_, rfl, ?_⟩; have n0_ := Aside0.mk (below_step (by repeat (first | (with_reducible first | exact HB.out | apply below_alloc | apply pw_below_drewN | apply below_drew1) | exact HB.out)) hb); clear HB; have HB := n0_; clear n0_; (try clear hb); (try clear hb2); (try clear hk); (try clear hi)) | ((with_reducible refine gate_callee (f := 19) rfl ?_); refine goesL_ (some 49) rfl rfl Tryd.func19 (by kernel_rfl) rfl #[.string a0, .int .i64 t126] rfl (by (try simp only [List.map_toArray, List.map_cons, List.map_nil]); first | done | rfl | (simp only [List.length_drop, List.length_take]; rfl)) ?_; (with_reducible refine (line_Start.calls a0 t126 t127 _ A16.out).mono ?_); rintro e w20 ⟨rfl, hb⟩; refine ⟨_, rfl, ?_⟩; have n0_ := Aside0.mk (below_step (by repeat (first | (with_reducible first | exact HB.out | apply below_alloc | apply pw_below_drewN | apply below_drew1) | exact HB.out)) hb); clear HB; have HB := n0_; clear n0_; (try clear hb); (try clear hb2); (try clear hk); (try clear hi)) | ((with_reducible refine gate_callee (f := 20) rfl ?_); refine goesL_ (some 52) rfl rfl Tryd.func20 (by kernel_rfl) rfl #[.string a0, .int .i64 t126] rfl (by (try simp only [List.map_toArray, List.map_cons, List.map_nil]); first | done | rfl | (simp only [List.length_drop, List.length_take]; rfl)) ?_; (with_reducible refine (line_End.calls a0 t126 t128 _ A17.out).mono ?_); rintro e w21 ⟨rfl, hb⟩; refine ⟨_, rfl, ?_⟩; have n0_ := Aside0.mk (below_step (by repeat (first | (with_reducible first | exact HB.out | apply below_alloc | apply pw_below_drewN | apply below_drew1) | exact HB.out)) hb); clear HB; have HB := n0_; clear n0_; (try clear hb); (try clear hb2); (try clear hk); (try clear hi)) | ((with_reducible refine gate_dst (N := 16) rfl ?_); refine box_event ?hg (N := 16) ?hd (cs := #[.string (⟨#[]⟩ : ByteArray), .int .i64 0, .int .i64 0, .int .i64 0, .bool false, .int .i64 0, .int .i64 0, .int .i64 0]) (t := 55) ?hr ?_; (case hd => rfl); (case hg => rfl); (case hr => first | (go_simp; done) | (go_simp; rfl)); intro gb129 hg w22 hbox hb; have n0_ := Aside0.mk (below_step (by repeat (first | (with_reducible first | exact HB.out | apply below_alloc | apply pw_below_drewN | apply below_drew1) | exact HB.out)) hb); have n1_ := Aside0.mk (hbox); have n2_ := Aside0.mk ((by rw [hg]; exact (below_size (by repeat (first | (with_reducible first | exact HB.out | apply below_alloc | apply pw_below_drewN | apply below_drew1) | exact HB.out))) : w.heap.size ≤ gb129)); have n3_ := Aside0.mk ((by rw [hg]; exact (below_size (by repeat (first | (with_reducible first | exact HB.out | apply below_alloc | apply pw_below_drewN | apply below_drew1) | exact HB.out))) : w.heap.size ≤ gb129)); clear HB; have HB := n0_; have BK129 := n1_; have GW129 := n2_; have GE129 := n3_; clear n0_ n1_ n2_ n3_; clear hb hbox hg; have hcz23_0 : w22.cell? ⟨gb129, 0, none⟩ = some (.string (⟨#[]⟩ : ByteArray)) := (blk_cell BK129.out 0).trans rfl; have hcz23_1 : w22.cell? ⟨gb129, 1, none⟩ = some (.int .i64 0) := (blk_cell BK129.out 1).trans rfl; have hcz23_2 : w22.cell? ⟨gb129, 2, none⟩ = some (.int .i64 0) := (blk_cell BK129.out 2).trans rfl; have hcz23_3 : w22.cell? ⟨gb129, 3, none⟩ = some (.int .i64 0) := (blk_cell BK129.out 3).trans rfl; have hcz23_4 : w22.cell? ⟨gb129, 4, none⟩ = some (.bool false) := (blk_cell BK129.out 4).trans rfl; have hcz23_5 : w22.cell? ⟨gb129, 5, none⟩ = some (.int .i64 0) := (blk_cell BK129.out 5).trans rfl; have hcz23_6 : w22.cell? ⟨gb129, 6, none⟩ = some (.int .i64 0) := (blk_cell BK129.out 6).trans rfl; have hcz23_7 : w22.cell? ⟨gb129, 7, none⟩ = some (.int .i64 0) := (blk_cell BK129.out 7).trans rfl; have hfz23_0 := blk_frozen BK129.out 0; have hfz23_1 := blk_frozen BK129.out 1; have hfz23_2 := blk_frozen BK129.out 2; have hfz23_3 := blk_frozen BK129.out 3; have hfz23_4 := blk_frozen BK129.out 4; have hfz23_5 := blk_frozen BK129.out 5; have hfz23_6 := blk_frozen BK129.out 6; have hfz23_7 := blk_frozen BK129.out 7))
  refine (move_left.calls kj6 a0 a1 t126 ji15 (decide (a3 ≥ 1)) a4 t127 t128 t130 t131 _ A18.out).mono ?_
  rintro e w24 ⟨rfl, hb⟩
  have HB2 := below_step (by repeat (first | (with_reducible first | exact HB.out | apply below_alloc | apply pw_below_drewN | apply below_drew1 | refine below_set ?_ GE129.out) | exact HB.out)) hb
  clear hb HB
  have HB := Aside0.mk HB2
  clear HB2
  show _
  go_wp2
  go_ret2
  exact ⟨by first | rfl | (simp [*] <;> rfl), by repeat (first | (with_reducible first | exact HB.out | apply below_alloc | apply pw_below_drewN | apply below_drew1 | refine below_set ?_ GE129.out) | exact HB.out)⟩
set_option maxHeartbeats 8000000 in
set_option maxRecDepth 100000 in
theorem mgo_1 (kj6 : Nat) (a0 : ByteArray) (a1 : Int) (a2 : ByteArray) (a3 a4 t126 t127 t128 ji14 ji15 t130 : Int) (t131 : Bool) (w : World) (hJ : motJ a2 = some 1) (A10 : Aside0 (utf_Place.f a0 a1 = some true)) (A13 : Aside0 (line_Of.f a0 a1 = some t126)) (A16 : Aside0 (line_Start.f a0 t126 = some t127)) (A17 : Aside0 (line_End.f a0 t126 = some t128)) (hji14 : (mn a3 (wrap64 ((a0.size : Int) + 2))) = ji14) (hji15 : (mx (ji14) 1) = ji15)
    (A18 : Aside0 (move_right.f kj6 a0 a1 t126 ji15 (decide (a3 ≥ 1)) a4 t127 t128 = some (t130, t131))) :
    Calls Tryd.prog 22 #[.string a0, .int .i64 a1, .string a2, .int .i64 a3, .int .i64 a4] w fun e w' => e = .returned (.tuple #[.int .i64 t130, .bool t131]) ∧ Below w.heap.size w w' := by
  have hu55 := Tryd.underlying55
  have HB := Aside0.mk (below_alloc (o := .map motA 10) (Below.refl w.heap.size w))
  have hl : (Instr.lookup 52 (.map (some w.heap.size)) (.string a2) true).run Tryd.prog (w.alloc (.map motA 10)) = .ok (.tuple #[.func (.func 58) #[] #[], .bool true]) (w.alloc (.map motA 10)) := by
    have h := lookup_keys w a2
    unfold motV at h
    rw [hJ] at h
    exact h
  clear hJ
  have hji14_ : (if (wrap64 ((a0.size : Int) + 2)) < a3 then (wrap64 ((a0.size : Int) + 2)) else a3) = ji14 := hji14
  have hji15_ : (if (ji14) < 1 then 1 else (ji14)) = ji15 := hji15
  go_enter Tryd.func22, Tryd.ntmps22
  go_wp2_with (first | (go_at_call 39; refine (keys_c' _).mono ?_; rintro e w1 ⟨rfl, rfl⟩) | (go_at_call 16; (with_reducible refine (utf_Place.calls a0 a1 true _ A10.out).mono ?_); rintro e w11 ⟨rfl, hb⟩; have n0_ := Aside0.mk (below_step (by repeat (first | (with_reducible first | exact HB.out | apply below_alloc | apply pw_below_drewN | apply below_drew1) | exact HB.out)) hb); clear HB; have HB := n0_; clear n0_; clear hb) | ((with_reducible refine gate_callee (f := 26) rfl ?_); refine goesL_ (some 33) rfl rfl Tryd.func26 (by kernel_rfl) rfl #[.string a0, .int .i64 a1] rfl (by (try simp only [List.map_toArray, List.map_cons, List.map_nil]); first | done | rfl | (simp only [List.length_drop, List.length_take]; rfl)) ?_; (with_reducible refine (line_Of.calls a0 a1 t126 _ A13.out).mono ?_); rintro e w19 ⟨rfl, hb⟩; refine ⟨_, rfl, ?_⟩; have n0_ := Aside0.mk (below_step (by repeat (first | (with_reducible first | exact HB.out | apply below_alloc | apply pw_below_drewN | apply below_drew1) | exact HB.out)) hb); clear HB; have HB := n0_; clear n0_; (try clear hb); (try clear hb2); (try clear hk); (try clear hi)) | ((with_reducible refine gate_callee (f := 19) rfl ?_); refine goesL_ (some 49) rfl rfl Tryd.func19 (by kernel_rfl) rfl #[.string a0, .int .i64 t126] rfl (by (try simp only [List.map_toArray, List.map_cons, List.map_nil]); first | done | rfl | (simp only [List.length_drop, List.length_take]; rfl)) ?_; (with_reducible refine (line_Start.calls a0 t126 t127 _ A16.out).mono ?_); rintro e w20 ⟨rfl, hb⟩; refine ⟨_, rfl, ?_⟩; have n0_ := Aside0.mk (below_step (by repeat (first | (with_reducible first | exact HB.out | apply below_alloc | apply pw_below_drewN | apply below_drew1) | exact HB.out)) hb); clear HB; have HB := n0_; clear n0_; (try clear hb); (try clear hb2); (try clear hk); (try clear hi)) | ((with_reducible refine gate_callee (f := 20) rfl ?_); refine goesL_ (some 52) rfl rfl Tryd.func20 (by kernel_rfl) rfl #[.string a0, .int .i64 t126] rfl (by (try simp only [List.map_toArray, List.map_cons, List.map_nil]); first | done | rfl | (simp only [List.length_drop, List.length_take]; rfl)) ?_; (with_reducible refine (line_End.calls a0 t126 t128 _ A17.out).mono ?_); rintro e w21 ⟨rfl, hb⟩; refine ⟨_, rfl, ?_⟩; have n0_ := Aside0.mk (below_step (by repeat (first | (with_reducible first | exact HB.out | apply below_alloc | apply pw_below_drewN | apply below_drew1) | exact HB.out)) hb); clear HB; have HB := n0_; clear n0_; (try clear hb); (try clear hb2); (try clear hk); (try clear hi)) | ((with_reducible refine gate_dst (N := 16) rfl ?_); refine box_event ?hg (N := 16) ?hd (cs := #[.string (⟨#[]⟩ : ByteArray), .int .i64 0, .int .i64 0, .int .i64 0, .bool false, .int .i64 0, .int .i64 0, .int .i64 0]) (t := 55) ?hr ?_; (case hd => rfl); (case hg => rfl); (case hr => first | (go_simp; done) | (go_simp; rfl)); intro gb129 hg w22 hbox hb; have n0_ := Aside0.mk (below_step (by repeat (first | (with_reducible first | exact HB.out | apply below_alloc | apply pw_below_drewN | apply below_drew1) | exact HB.out)) hb); have n1_ := Aside0.mk (hbox); have n2_ := Aside0.mk ((by rw [hg]; exact (below_size (by repeat (first | (with_reducible first | exact HB.out | apply below_alloc | apply pw_below_drewN | apply below_drew1) | exact HB.out))) : w.heap.size ≤ gb129)); have n3_ := Aside0.mk ((by rw [hg]; exact (below_size (by repeat (first | (with_reducible first | exact HB.out | apply below_alloc | apply pw_below_drewN | apply below_drew1) | exact HB.out))) : w.heap.size ≤ gb129)); clear HB; have HB := n0_; have BK129 := n1_; have GW129 := n2_; have GE129 := n3_; clear n0_ n1_ n2_ n3_; clear hb hbox hg; have hcz23_0 : w22.cell? ⟨gb129, 0, none⟩ = some (.string (⟨#[]⟩ : ByteArray)) := (blk_cell BK129.out 0).trans rfl; have hcz23_1 : w22.cell? ⟨gb129, 1, none⟩ = some (.int .i64 0) := (blk_cell BK129.out 1).trans rfl; have hcz23_2 : w22.cell? ⟨gb129, 2, none⟩ = some (.int .i64 0) := (blk_cell BK129.out 2).trans rfl; have hcz23_3 : w22.cell? ⟨gb129, 3, none⟩ = some (.int .i64 0) := (blk_cell BK129.out 3).trans rfl; have hcz23_4 : w22.cell? ⟨gb129, 4, none⟩ = some (.bool false) := (blk_cell BK129.out 4).trans rfl; have hcz23_5 : w22.cell? ⟨gb129, 5, none⟩ = some (.int .i64 0) := (blk_cell BK129.out 5).trans rfl; have hcz23_6 : w22.cell? ⟨gb129, 6, none⟩ = some (.int .i64 0) := (blk_cell BK129.out 6).trans rfl; have hcz23_7 : w22.cell? ⟨gb129, 7, none⟩ = some (.int .i64 0) := (blk_cell BK129.out 7).trans rfl; have hfz23_0 := blk_frozen BK129.out 0; have hfz23_1 := blk_frozen BK129.out 1; have hfz23_2 := blk_frozen BK129.out 2; have hfz23_3 := blk_frozen BK129.out 3; have hfz23_4 := blk_frozen BK129.out 4; have hfz23_5 := blk_frozen BK129.out 5; have hfz23_6 := blk_frozen BK129.out 6; have hfz23_7 := blk_frozen BK129.out 7))
  refine (move_right.calls kj6 a0 a1 t126 ji15 (decide (a3 ≥ 1)) a4 t127 t128 t130 t131 _ A18.out).mono ?_
  rintro e w24 ⟨rfl, hb⟩
  have HB2 := below_step (by repeat (first | (with_reducible first | exact HB.out | apply below_alloc | apply pw_below_drewN | apply below_drew1 | refine below_set ?_ GE129.out) | exact HB.out)) hb
  clear hb HB
  have HB := Aside0.mk HB2
  clear HB2
  show _
  go_wp2
  go_ret2
  exact ⟨by first | rfl | (simp [*] <;> rfl), by repeat (first | (with_reducible first | exact HB.out | apply below_alloc | apply pw_below_drewN | apply below_drew1 | refine below_set ?_ GE129.out) | exact HB.out)⟩
set_option maxHeartbeats 8000000 in
set_option maxRecDepth 100000 in
theorem mgo_2 (a0 : ByteArray) (a1 : Int) (a2 : ByteArray) (a3 a4 t126 t127 t128 ji14 ji15 t130 : Int) (t131 : Bool) (w : World) (hJ : motJ a2 = some 2) (A10 : Aside0 (utf_Place.f a0 a1 = some true)) (A13 : Aside0 (line_Of.f a0 a1 = some t126)) (A16 : Aside0 (line_Start.f a0 t126 = some t127)) (A17 : Aside0 (line_End.f a0 t126 = some t128)) (hji14 : (mn a3 (wrap64 ((a0.size : Int) + 2))) = ji14) (hji15 : (mx (ji14) 1) = ji15)
    (A18 : Aside0 (move_keys_1.f a0 a1 t126 ji15 (decide (a3 ≥ 1)) a4 t127 t128 = some (t130, t131))) :
    Calls Tryd.prog 22 #[.string a0, .int .i64 a1, .string a2, .int .i64 a3, .int .i64 a4] w fun e w' => e = .returned (.tuple #[.int .i64 t130, .bool t131]) ∧ Below w.heap.size w w' := by
  have hu55 := Tryd.underlying55
  have HB := Aside0.mk (below_alloc (o := .map motA 10) (Below.refl w.heap.size w))
  have hl : (Instr.lookup 52 (.map (some w.heap.size)) (.string a2) true).run Tryd.prog (w.alloc (.map motA 10)) = .ok (.tuple #[.func (.func 59) #[] #[], .bool true]) (w.alloc (.map motA 10)) := by
    have h := lookup_keys w a2
    unfold motV at h
    rw [hJ] at h
    exact h
  clear hJ
  have hji14_ : (if (wrap64 ((a0.size : Int) + 2)) < a3 then (wrap64 ((a0.size : Int) + 2)) else a3) = ji14 := hji14
  have hji15_ : (if (ji14) < 1 then 1 else (ji14)) = ji15 := hji15
  go_enter Tryd.func22, Tryd.ntmps22
  go_wp2_with (first | (go_at_call 39; refine (keys_c' _).mono ?_; rintro e w1 ⟨rfl, rfl⟩) | (go_at_call 16; (with_reducible refine (utf_Place.calls a0 a1 true _ A10.out).mono ?_); rintro e w11 ⟨rfl, hb⟩; have n0_ := Aside0.mk (below_step (by repeat (first | (with_reducible first | exact HB.out | apply below_alloc | apply pw_below_drewN | apply below_drew1) | exact HB.out)) hb); clear HB; have HB := n0_; clear n0_; clear hb) | ((with_reducible refine gate_callee (f := 26) rfl ?_); refine goesL_ (some 33) rfl rfl Tryd.func26 (by kernel_rfl) rfl #[.string a0, .int .i64 a1] rfl (by (try simp only [List.map_toArray, List.map_cons, List.map_nil]); first | done | rfl | (simp only [List.length_drop, List.length_take]; rfl)) ?_; (with_reducible refine (line_Of.calls a0 a1 t126 _ A13.out).mono ?_); rintro e w19 ⟨rfl, hb⟩; refine ⟨_, rfl, ?_⟩; have n0_ := Aside0.mk (below_step (by repeat (first | (with_reducible first | exact HB.out | apply below_alloc | apply pw_below_drewN | apply below_drew1) | exact HB.out)) hb); clear HB; have HB := n0_; clear n0_; (try clear hb); (try clear hb2); (try clear hk); (try clear hi)) | ((with_reducible refine gate_callee (f := 19) rfl ?_); refine goesL_ (some 49) rfl rfl Tryd.func19 (by kernel_rfl) rfl #[.string a0, .int .i64 t126] rfl (by (try simp only [List.map_toArray, List.map_cons, List.map_nil]); first | done | rfl | (simp only [List.length_drop, List.length_take]; rfl)) ?_; (with_reducible refine (line_Start.calls a0 t126 t127 _ A16.out).mono ?_); rintro e w20 ⟨rfl, hb⟩; refine ⟨_, rfl, ?_⟩; have n0_ := Aside0.mk (below_step (by repeat (first | (with_reducible first | exact HB.out | apply below_alloc | apply pw_below_drewN | apply below_drew1) | exact HB.out)) hb); clear HB; have HB := n0_; clear n0_; (try clear hb); (try clear hb2); (try clear hk); (try clear hi)) | ((with_reducible refine gate_callee (f := 20) rfl ?_); refine goesL_ (some 52) rfl rfl Tryd.func20 (by kernel_rfl) rfl #[.string a0, .int .i64 t126] rfl (by (try simp only [List.map_toArray, List.map_cons, List.map_nil]); first | done | rfl | (simp only [List.length_drop, List.length_take]; rfl)) ?_; (with_reducible refine (line_End.calls a0 t126 t128 _ A17.out).mono ?_); rintro e w21 ⟨rfl, hb⟩; refine ⟨_, rfl, ?_⟩; have n0_ := Aside0.mk (below_step (by repeat (first | (with_reducible first | exact HB.out | apply below_alloc | apply pw_below_drewN | apply below_drew1) | exact HB.out)) hb); clear HB; have HB := n0_; clear n0_; (try clear hb); (try clear hb2); (try clear hk); (try clear hi)) | ((with_reducible refine gate_dst (N := 16) rfl ?_); refine box_event ?hg (N := 16) ?hd (cs := #[.string (⟨#[]⟩ : ByteArray), .int .i64 0, .int .i64 0, .int .i64 0, .bool false, .int .i64 0, .int .i64 0, .int .i64 0]) (t := 55) ?hr ?_; (case hd => rfl); (case hg => rfl); (case hr => first | (go_simp; done) | (go_simp; rfl)); intro gb129 hg w22 hbox hb; have n0_ := Aside0.mk (below_step (by repeat (first | (with_reducible first | exact HB.out | apply below_alloc | apply pw_below_drewN | apply below_drew1) | exact HB.out)) hb); have n1_ := Aside0.mk (hbox); have n2_ := Aside0.mk ((by rw [hg]; exact (below_size (by repeat (first | (with_reducible first | exact HB.out | apply below_alloc | apply pw_below_drewN | apply below_drew1) | exact HB.out))) : w.heap.size ≤ gb129)); have n3_ := Aside0.mk ((by rw [hg]; exact (below_size (by repeat (first | (with_reducible first | exact HB.out | apply below_alloc | apply pw_below_drewN | apply below_drew1) | exact HB.out))) : w.heap.size ≤ gb129)); clear HB; have HB := n0_; have BK129 := n1_; have GW129 := n2_; have GE129 := n3_; clear n0_ n1_ n2_ n3_; clear hb hbox hg; have hcz23_0 : w22.cell? ⟨gb129, 0, none⟩ = some (.string (⟨#[]⟩ : ByteArray)) := (blk_cell BK129.out 0).trans rfl; have hcz23_1 : w22.cell? ⟨gb129, 1, none⟩ = some (.int .i64 0) := (blk_cell BK129.out 1).trans rfl; have hcz23_2 : w22.cell? ⟨gb129, 2, none⟩ = some (.int .i64 0) := (blk_cell BK129.out 2).trans rfl; have hcz23_3 : w22.cell? ⟨gb129, 3, none⟩ = some (.int .i64 0) := (blk_cell BK129.out 3).trans rfl; have hcz23_4 : w22.cell? ⟨gb129, 4, none⟩ = some (.bool false) := (blk_cell BK129.out 4).trans rfl; have hcz23_5 : w22.cell? ⟨gb129, 5, none⟩ = some (.int .i64 0) := (blk_cell BK129.out 5).trans rfl; have hcz23_6 : w22.cell? ⟨gb129, 6, none⟩ = some (.int .i64 0) := (blk_cell BK129.out 6).trans rfl; have hcz23_7 : w22.cell? ⟨gb129, 7, none⟩ = some (.int .i64 0) := (blk_cell BK129.out 7).trans rfl; have hfz23_0 := blk_frozen BK129.out 0; have hfz23_1 := blk_frozen BK129.out 1; have hfz23_2 := blk_frozen BK129.out 2; have hfz23_3 := blk_frozen BK129.out 3; have hfz23_4 := blk_frozen BK129.out 4; have hfz23_5 := blk_frozen BK129.out 5; have hfz23_6 := blk_frozen BK129.out 6; have hfz23_7 := blk_frozen BK129.out 7))
  refine (move_keys_1.calls  a0 a1 t126 ji15 (decide (a3 ≥ 1)) a4 t127 t128 t130 t131 _ A18.out).mono ?_
  rintro e w24 ⟨rfl, hb⟩
  have HB2 := below_step (by repeat (first | (with_reducible first | exact HB.out | apply below_alloc | apply pw_below_drewN | apply below_drew1 | refine below_set ?_ GE129.out) | exact HB.out)) hb
  clear hb HB
  have HB := Aside0.mk HB2
  clear HB2
  show _
  go_wp2
  go_ret2
  exact ⟨by first | rfl | (simp [*] <;> rfl), by repeat (first | (with_reducible first | exact HB.out | apply below_alloc | apply pw_below_drewN | apply below_drew1 | refine below_set ?_ GE129.out) | exact HB.out)⟩
set_option maxHeartbeats 8000000 in
set_option maxRecDepth 100000 in
theorem mgo_3 (a0 : ByteArray) (a1 : Int) (a2 : ByteArray) (a3 a4 t126 t127 t128 ji14 ji15 t130 : Int) (t131 : Bool) (w : World) (hJ : motJ a2 = some 3) (A10 : Aside0 (utf_Place.f a0 a1 = some true)) (A13 : Aside0 (line_Of.f a0 a1 = some t126)) (A16 : Aside0 (line_Start.f a0 t126 = some t127)) (A17 : Aside0 (line_End.f a0 t126 = some t128)) (hji14 : (mn a3 (wrap64 ((a0.size : Int) + 2))) = ji14) (hji15 : (mx (ji14) 1) = ji15)
    (A18 : Aside0 (move_keys_2.f a0 a1 t126 ji15 (decide (a3 ≥ 1)) a4 t127 t128 = some (t130, t131))) :
    Calls Tryd.prog 22 #[.string a0, .int .i64 a1, .string a2, .int .i64 a3, .int .i64 a4] w fun e w' => e = .returned (.tuple #[.int .i64 t130, .bool t131]) ∧ Below w.heap.size w w' := by
  have hu55 := Tryd.underlying55
  have HB := Aside0.mk (below_alloc (o := .map motA 10) (Below.refl w.heap.size w))
  have hl : (Instr.lookup 52 (.map (some w.heap.size)) (.string a2) true).run Tryd.prog (w.alloc (.map motA 10)) = .ok (.tuple #[.func (.func 60) #[] #[], .bool true]) (w.alloc (.map motA 10)) := by
    have h := lookup_keys w a2
    unfold motV at h
    rw [hJ] at h
    exact h
  clear hJ
  have hji14_ : (if (wrap64 ((a0.size : Int) + 2)) < a3 then (wrap64 ((a0.size : Int) + 2)) else a3) = ji14 := hji14
  have hji15_ : (if (ji14) < 1 then 1 else (ji14)) = ji15 := hji15
  go_enter Tryd.func22, Tryd.ntmps22
  go_wp2_with (first | (go_at_call 39; refine (keys_c' _).mono ?_; rintro e w1 ⟨rfl, rfl⟩) | (go_at_call 16; (with_reducible refine (utf_Place.calls a0 a1 true _ A10.out).mono ?_); rintro e w11 ⟨rfl, hb⟩; have n0_ := Aside0.mk (below_step (by repeat (first | (with_reducible first | exact HB.out | apply below_alloc | apply pw_below_drewN | apply below_drew1) | exact HB.out)) hb); clear HB; have HB := n0_; clear n0_; clear hb) | ((with_reducible refine gate_callee (f := 26) rfl ?_); refine goesL_ (some 33) rfl rfl Tryd.func26 (by kernel_rfl) rfl #[.string a0, .int .i64 a1] rfl (by (try simp only [List.map_toArray, List.map_cons, List.map_nil]); first | done | rfl | (simp only [List.length_drop, List.length_take]; rfl)) ?_; (with_reducible refine (line_Of.calls a0 a1 t126 _ A13.out).mono ?_); rintro e w19 ⟨rfl, hb⟩; refine ⟨_, rfl, ?_⟩; have n0_ := Aside0.mk (below_step (by repeat (first | (with_reducible first | exact HB.out | apply below_alloc | apply pw_below_drewN | apply below_drew1) | exact HB.out)) hb); clear HB; have HB := n0_; clear n0_; (try clear hb); (try clear hb2); (try clear hk); (try clear hi)) | ((with_reducible refine gate_callee (f := 19) rfl ?_); refine goesL_ (some 49) rfl rfl Tryd.func19 (by kernel_rfl) rfl #[.string a0, .int .i64 t126] rfl (by (try simp only [List.map_toArray, List.map_cons, List.map_nil]); first | done | rfl | (simp only [List.length_drop, List.length_take]; rfl)) ?_; (with_reducible refine (line_Start.calls a0 t126 t127 _ A16.out).mono ?_); rintro e w20 ⟨rfl, hb⟩; refine ⟨_, rfl, ?_⟩; have n0_ := Aside0.mk (below_step (by repeat (first | (with_reducible first | exact HB.out | apply below_alloc | apply pw_below_drewN | apply below_drew1) | exact HB.out)) hb); clear HB; have HB := n0_; clear n0_; (try clear hb); (try clear hb2); (try clear hk); (try clear hi)) | ((with_reducible refine gate_callee (f := 20) rfl ?_); refine goesL_ (some 52) rfl rfl Tryd.func20 (by kernel_rfl) rfl #[.string a0, .int .i64 t126] rfl (by (try simp only [List.map_toArray, List.map_cons, List.map_nil]); first | done | rfl | (simp only [List.length_drop, List.length_take]; rfl)) ?_; (with_reducible refine (line_End.calls a0 t126 t128 _ A17.out).mono ?_); rintro e w21 ⟨rfl, hb⟩; refine ⟨_, rfl, ?_⟩; have n0_ := Aside0.mk (below_step (by repeat (first | (with_reducible first | exact HB.out | apply below_alloc | apply pw_below_drewN | apply below_drew1) | exact HB.out)) hb); clear HB; have HB := n0_; clear n0_; (try clear hb); (try clear hb2); (try clear hk); (try clear hi)) | ((with_reducible refine gate_dst (N := 16) rfl ?_); refine box_event ?hg (N := 16) ?hd (cs := #[.string (⟨#[]⟩ : ByteArray), .int .i64 0, .int .i64 0, .int .i64 0, .bool false, .int .i64 0, .int .i64 0, .int .i64 0]) (t := 55) ?hr ?_; (case hd => rfl); (case hg => rfl); (case hr => first | (go_simp; done) | (go_simp; rfl)); intro gb129 hg w22 hbox hb; have n0_ := Aside0.mk (below_step (by repeat (first | (with_reducible first | exact HB.out | apply below_alloc | apply pw_below_drewN | apply below_drew1) | exact HB.out)) hb); have n1_ := Aside0.mk (hbox); have n2_ := Aside0.mk ((by rw [hg]; exact (below_size (by repeat (first | (with_reducible first | exact HB.out | apply below_alloc | apply pw_below_drewN | apply below_drew1) | exact HB.out))) : w.heap.size ≤ gb129)); have n3_ := Aside0.mk ((by rw [hg]; exact (below_size (by repeat (first | (with_reducible first | exact HB.out | apply below_alloc | apply pw_below_drewN | apply below_drew1) | exact HB.out))) : w.heap.size ≤ gb129)); clear HB; have HB := n0_; have BK129 := n1_; have GW129 := n2_; have GE129 := n3_; clear n0_ n1_ n2_ n3_; clear hb hbox hg; have hcz23_0 : w22.cell? ⟨gb129, 0, none⟩ = some (.string (⟨#[]⟩ : ByteArray)) := (blk_cell BK129.out 0).trans rfl; have hcz23_1 : w22.cell? ⟨gb129, 1, none⟩ = some (.int .i64 0) := (blk_cell BK129.out 1).trans rfl; have hcz23_2 : w22.cell? ⟨gb129, 2, none⟩ = some (.int .i64 0) := (blk_cell BK129.out 2).trans rfl; have hcz23_3 : w22.cell? ⟨gb129, 3, none⟩ = some (.int .i64 0) := (blk_cell BK129.out 3).trans rfl; have hcz23_4 : w22.cell? ⟨gb129, 4, none⟩ = some (.bool false) := (blk_cell BK129.out 4).trans rfl; have hcz23_5 : w22.cell? ⟨gb129, 5, none⟩ = some (.int .i64 0) := (blk_cell BK129.out 5).trans rfl; have hcz23_6 : w22.cell? ⟨gb129, 6, none⟩ = some (.int .i64 0) := (blk_cell BK129.out 6).trans rfl; have hcz23_7 : w22.cell? ⟨gb129, 7, none⟩ = some (.int .i64 0) := (blk_cell BK129.out 7).trans rfl; have hfz23_0 := blk_frozen BK129.out 0; have hfz23_1 := blk_frozen BK129.out 1; have hfz23_2 := blk_frozen BK129.out 2; have hfz23_3 := blk_frozen BK129.out 3; have hfz23_4 := blk_frozen BK129.out 4; have hfz23_5 := blk_frozen BK129.out 5; have hfz23_6 := blk_frozen BK129.out 6; have hfz23_7 := blk_frozen BK129.out 7))
  refine (move_keys_2.calls  a0 a1 t126 ji15 (decide (a3 ≥ 1)) a4 t127 t128 t130 t131 _ A18.out).mono ?_
  rintro e w24 ⟨rfl, hb⟩
  have HB2 := below_step (by repeat (first | (with_reducible first | exact HB.out | apply below_alloc | apply pw_below_drewN | apply below_drew1 | refine below_set ?_ GE129.out) | exact HB.out)) hb
  clear hb HB
  have HB := Aside0.mk HB2
  clear HB2
  show _
  go_wp2
  go_ret2
  exact ⟨by first | rfl | (simp [*] <;> rfl), by repeat (first | (with_reducible first | exact HB.out | apply below_alloc | apply pw_below_drewN | apply below_drew1 | refine below_set ?_ GE129.out) | exact HB.out)⟩
set_option maxHeartbeats 8000000 in
set_option maxRecDepth 100000 in
theorem mgo_4 (a0 : ByteArray) (a1 : Int) (a2 : ByteArray) (a3 a4 t126 t127 t128 ji14 ji15 t130 : Int) (t131 : Bool) (w : World) (hJ : motJ a2 = some 4) (A10 : Aside0 (utf_Place.f a0 a1 = some true)) (A13 : Aside0 (line_Of.f a0 a1 = some t126)) (A16 : Aside0 (line_Start.f a0 t126 = some t127)) (A17 : Aside0 (line_End.f a0 t126 = some t128)) (hji14 : (mn a3 (wrap64 ((a0.size : Int) + 2))) = ji14) (hji15 : (mx (ji14) 1) = ji15)
    (A18 : Aside0 (move_end.f a0 a1 t126 ji15 (decide (a3 ≥ 1)) a4 t127 t128 = some (t130, t131))) :
    Calls Tryd.prog 22 #[.string a0, .int .i64 a1, .string a2, .int .i64 a3, .int .i64 a4] w fun e w' => e = .returned (.tuple #[.int .i64 t130, .bool t131]) ∧ Below w.heap.size w w' := by
  have hu55 := Tryd.underlying55
  have HB := Aside0.mk (below_alloc (o := .map motA 10) (Below.refl w.heap.size w))
  have hl : (Instr.lookup 52 (.map (some w.heap.size)) (.string a2) true).run Tryd.prog (w.alloc (.map motA 10)) = .ok (.tuple #[.func (.func 62) #[] #[], .bool true]) (w.alloc (.map motA 10)) := by
    have h := lookup_keys w a2
    unfold motV at h
    rw [hJ] at h
    exact h
  clear hJ
  have hji14_ : (if (wrap64 ((a0.size : Int) + 2)) < a3 then (wrap64 ((a0.size : Int) + 2)) else a3) = ji14 := hji14
  have hji15_ : (if (ji14) < 1 then 1 else (ji14)) = ji15 := hji15
  go_enter Tryd.func22, Tryd.ntmps22
  go_wp2_with (first | (go_at_call 39; refine (keys_c' _).mono ?_; rintro e w1 ⟨rfl, rfl⟩) | (go_at_call 16; (with_reducible refine (utf_Place.calls a0 a1 true _ A10.out).mono ?_); rintro e w11 ⟨rfl, hb⟩; have n0_ := Aside0.mk (below_step (by repeat (first | (with_reducible first | exact HB.out | apply below_alloc | apply pw_below_drewN | apply below_drew1) | exact HB.out)) hb); clear HB; have HB := n0_; clear n0_; clear hb) | ((with_reducible refine gate_callee (f := 26) rfl ?_); refine goesL_ (some 33) rfl rfl Tryd.func26 (by kernel_rfl) rfl #[.string a0, .int .i64 a1] rfl (by (try simp only [List.map_toArray, List.map_cons, List.map_nil]); first | done | rfl | (simp only [List.length_drop, List.length_take]; rfl)) ?_; (with_reducible refine (line_Of.calls a0 a1 t126 _ A13.out).mono ?_); rintro e w19 ⟨rfl, hb⟩; refine ⟨_, rfl, ?_⟩; have n0_ := Aside0.mk (below_step (by repeat (first | (with_reducible first | exact HB.out | apply below_alloc | apply pw_below_drewN | apply below_drew1) | exact HB.out)) hb); clear HB; have HB := n0_; clear n0_; (try clear hb); (try clear hb2); (try clear hk); (try clear hi)) | ((with_reducible refine gate_callee (f := 19) rfl ?_); refine goesL_ (some 49) rfl rfl Tryd.func19 (by kernel_rfl) rfl #[.string a0, .int .i64 t126] rfl (by (try simp only [List.map_toArray, List.map_cons, List.map_nil]); first | done | rfl | (simp only [List.length_drop, List.length_take]; rfl)) ?_; (with_reducible refine (line_Start.calls a0 t126 t127 _ A16.out).mono ?_); rintro e w20 ⟨rfl, hb⟩; refine ⟨_, rfl, ?_⟩; have n0_ := Aside0.mk (below_step (by repeat (first | (with_reducible first | exact HB.out | apply below_alloc | apply pw_below_drewN | apply below_drew1) | exact HB.out)) hb); clear HB; have HB := n0_; clear n0_; (try clear hb); (try clear hb2); (try clear hk); (try clear hi)) | ((with_reducible refine gate_callee (f := 20) rfl ?_); refine goesL_ (some 52) rfl rfl Tryd.func20 (by kernel_rfl) rfl #[.string a0, .int .i64 t126] rfl (by (try simp only [List.map_toArray, List.map_cons, List.map_nil]); first | done | rfl | (simp only [List.length_drop, List.length_take]; rfl)) ?_; (with_reducible refine (line_End.calls a0 t126 t128 _ A17.out).mono ?_); rintro e w21 ⟨rfl, hb⟩; refine ⟨_, rfl, ?_⟩; have n0_ := Aside0.mk (below_step (by repeat (first | (with_reducible first | exact HB.out | apply below_alloc | apply pw_below_drewN | apply below_drew1) | exact HB.out)) hb); clear HB; have HB := n0_; clear n0_; (try clear hb); (try clear hb2); (try clear hk); (try clear hi)) | ((with_reducible refine gate_dst (N := 16) rfl ?_); refine box_event ?hg (N := 16) ?hd (cs := #[.string (⟨#[]⟩ : ByteArray), .int .i64 0, .int .i64 0, .int .i64 0, .bool false, .int .i64 0, .int .i64 0, .int .i64 0]) (t := 55) ?hr ?_; (case hd => rfl); (case hg => rfl); (case hr => first | (go_simp; done) | (go_simp; rfl)); intro gb129 hg w22 hbox hb; have n0_ := Aside0.mk (below_step (by repeat (first | (with_reducible first | exact HB.out | apply below_alloc | apply pw_below_drewN | apply below_drew1) | exact HB.out)) hb); have n1_ := Aside0.mk (hbox); have n2_ := Aside0.mk ((by rw [hg]; exact (below_size (by repeat (first | (with_reducible first | exact HB.out | apply below_alloc | apply pw_below_drewN | apply below_drew1) | exact HB.out))) : w.heap.size ≤ gb129)); have n3_ := Aside0.mk ((by rw [hg]; exact (below_size (by repeat (first | (with_reducible first | exact HB.out | apply below_alloc | apply pw_below_drewN | apply below_drew1) | exact HB.out))) : w.heap.size ≤ gb129)); clear HB; have HB := n0_; have BK129 := n1_; have GW129 := n2_; have GE129 := n3_; clear n0_ n1_ n2_ n3_; clear hb hbox hg; have hcz23_0 : w22.cell? ⟨gb129, 0, none⟩ = some (.string (⟨#[]⟩ : ByteArray)) := (blk_cell BK129.out 0).trans rfl; have hcz23_1 : w22.cell? ⟨gb129, 1, none⟩ = some (.int .i64 0) := (blk_cell BK129.out 1).trans rfl; have hcz23_2 : w22.cell? ⟨gb129, 2, none⟩ = some (.int .i64 0) := (blk_cell BK129.out 2).trans rfl; have hcz23_3 : w22.cell? ⟨gb129, 3, none⟩ = some (.int .i64 0) := (blk_cell BK129.out 3).trans rfl; have hcz23_4 : w22.cell? ⟨gb129, 4, none⟩ = some (.bool false) := (blk_cell BK129.out 4).trans rfl; have hcz23_5 : w22.cell? ⟨gb129, 5, none⟩ = some (.int .i64 0) := (blk_cell BK129.out 5).trans rfl; have hcz23_6 : w22.cell? ⟨gb129, 6, none⟩ = some (.int .i64 0) := (blk_cell BK129.out 6).trans rfl; have hcz23_7 : w22.cell? ⟨gb129, 7, none⟩ = some (.int .i64 0) := (blk_cell BK129.out 7).trans rfl; have hfz23_0 := blk_frozen BK129.out 0; have hfz23_1 := blk_frozen BK129.out 1; have hfz23_2 := blk_frozen BK129.out 2; have hfz23_3 := blk_frozen BK129.out 3; have hfz23_4 := blk_frozen BK129.out 4; have hfz23_5 := blk_frozen BK129.out 5; have hfz23_6 := blk_frozen BK129.out 6; have hfz23_7 := blk_frozen BK129.out 7))
  refine (move_end.calls  a0 a1 t126 ji15 (decide (a3 ≥ 1)) a4 t127 t128 t130 t131 _ A18.out).mono ?_
  rintro e w24 ⟨rfl, hb⟩
  have HB2 := below_step (by repeat (first | (with_reducible first | exact HB.out | apply below_alloc | apply pw_below_drewN | apply below_drew1 | refine below_set ?_ GE129.out) | exact HB.out)) hb
  clear hb HB
  have HB := Aside0.mk HB2
  clear HB2
  show _
  go_wp2
  go_ret2
  exact ⟨by first | rfl | (simp [*] <;> rfl), by repeat (first | (with_reducible first | exact HB.out | apply below_alloc | apply pw_below_drewN | apply below_drew1 | refine below_set ?_ GE129.out) | exact HB.out)⟩
set_option maxHeartbeats 8000000 in
set_option maxRecDepth 100000 in
theorem mgo_5 (a0 : ByteArray) (a1 : Int) (a2 : ByteArray) (a3 a4 t126 t127 t128 ji14 ji15 t130 : Int) (t131 : Bool) (w : World) (hJ : motJ a2 = some 5) (A10 : Aside0 (utf_Place.f a0 a1 = some true)) (A13 : Aside0 (line_Of.f a0 a1 = some t126)) (A16 : Aside0 (line_Start.f a0 t126 = some t127)) (A17 : Aside0 (line_End.f a0 t126 = some t128)) (hji14 : (mn a3 (wrap64 ((a0.size : Int) + 2))) = ji14) (hji15 : (mx (ji14) 1) = ji15)
    (A18 : Aside0 (move_keys_3.f a0 a1 t126 ji15 (decide (a3 ≥ 1)) a4 t127 t128 = some (t130, t131))) :
    Calls Tryd.prog 22 #[.string a0, .int .i64 a1, .string a2, .int .i64 a3, .int .i64 a4] w fun e w' => e = .returned (.tuple #[.int .i64 t130, .bool t131]) ∧ Below w.heap.size w w' := by
  have hu55 := Tryd.underlying55
  have HB := Aside0.mk (below_alloc (o := .map motA 10) (Below.refl w.heap.size w))
  have hl : (Instr.lookup 52 (.map (some w.heap.size)) (.string a2) true).run Tryd.prog (w.alloc (.map motA 10)) = .ok (.tuple #[.func (.func 63) #[] #[], .bool true]) (w.alloc (.map motA 10)) := by
    have h := lookup_keys w a2
    unfold motV at h
    rw [hJ] at h
    exact h
  clear hJ
  have hji14_ : (if (wrap64 ((a0.size : Int) + 2)) < a3 then (wrap64 ((a0.size : Int) + 2)) else a3) = ji14 := hji14
  have hji15_ : (if (ji14) < 1 then 1 else (ji14)) = ji15 := hji15
  go_enter Tryd.func22, Tryd.ntmps22
  go_wp2_with (first | (go_at_call 39; refine (keys_c' _).mono ?_; rintro e w1 ⟨rfl, rfl⟩) | (go_at_call 16; (with_reducible refine (utf_Place.calls a0 a1 true _ A10.out).mono ?_); rintro e w11 ⟨rfl, hb⟩; have n0_ := Aside0.mk (below_step (by repeat (first | (with_reducible first | exact HB.out | apply below_alloc | apply pw_below_drewN | apply below_drew1) | exact HB.out)) hb); clear HB; have HB := n0_; clear n0_; clear hb) | ((with_reducible refine gate_callee (f := 26) rfl ?_); refine goesL_ (some 33) rfl rfl Tryd.func26 (by kernel_rfl) rfl #[.string a0, .int .i64 a1] rfl (by (try simp only [List.map_toArray, List.map_cons, List.map_nil]); first | done | rfl | (simp only [List.length_drop, List.length_take]; rfl)) ?_; (with_reducible refine (line_Of.calls a0 a1 t126 _ A13.out).mono ?_); rintro e w19 ⟨rfl, hb⟩; refine ⟨_, rfl, ?_⟩; have n0_ := Aside0.mk (below_step (by repeat (first | (with_reducible first | exact HB.out | apply below_alloc | apply pw_below_drewN | apply below_drew1) | exact HB.out)) hb); clear HB; have HB := n0_; clear n0_; (try clear hb); (try clear hb2); (try clear hk); (try clear hi)) | ((with_reducible refine gate_callee (f := 19) rfl ?_); refine goesL_ (some 49) rfl rfl Tryd.func19 (by kernel_rfl) rfl #[.string a0, .int .i64 t126] rfl (by (try simp only [List.map_toArray, List.map_cons, List.map_nil]); first | done | rfl | (simp only [List.length_drop, List.length_take]; rfl)) ?_; (with_reducible refine (line_Start.calls a0 t126 t127 _ A16.out).mono ?_); rintro e w20 ⟨rfl, hb⟩; refine ⟨_, rfl, ?_⟩; have n0_ := Aside0.mk (below_step (by repeat (first | (with_reducible first | exact HB.out | apply below_alloc | apply pw_below_drewN | apply below_drew1) | exact HB.out)) hb); clear HB; have HB := n0_; clear n0_; (try clear hb); (try clear hb2); (try clear hk); (try clear hi)) | ((with_reducible refine gate_callee (f := 20) rfl ?_); refine goesL_ (some 52) rfl rfl Tryd.func20 (by kernel_rfl) rfl #[.string a0, .int .i64 t126] rfl (by (try simp only [List.map_toArray, List.map_cons, List.map_nil]); first | done | rfl | (simp only [List.length_drop, List.length_take]; rfl)) ?_; (with_reducible refine (line_End.calls a0 t126 t128 _ A17.out).mono ?_); rintro e w21 ⟨rfl, hb⟩; refine ⟨_, rfl, ?_⟩; have n0_ := Aside0.mk (below_step (by repeat (first | (with_reducible first | exact HB.out | apply below_alloc | apply pw_below_drewN | apply below_drew1) | exact HB.out)) hb); clear HB; have HB := n0_; clear n0_; (try clear hb); (try clear hb2); (try clear hk); (try clear hi)) | ((with_reducible refine gate_dst (N := 16) rfl ?_); refine box_event ?hg (N := 16) ?hd (cs := #[.string (⟨#[]⟩ : ByteArray), .int .i64 0, .int .i64 0, .int .i64 0, .bool false, .int .i64 0, .int .i64 0, .int .i64 0]) (t := 55) ?hr ?_; (case hd => rfl); (case hg => rfl); (case hr => first | (go_simp; done) | (go_simp; rfl)); intro gb129 hg w22 hbox hb; have n0_ := Aside0.mk (below_step (by repeat (first | (with_reducible first | exact HB.out | apply below_alloc | apply pw_below_drewN | apply below_drew1) | exact HB.out)) hb); have n1_ := Aside0.mk (hbox); have n2_ := Aside0.mk ((by rw [hg]; exact (below_size (by repeat (first | (with_reducible first | exact HB.out | apply below_alloc | apply pw_below_drewN | apply below_drew1) | exact HB.out))) : w.heap.size ≤ gb129)); have n3_ := Aside0.mk ((by rw [hg]; exact (below_size (by repeat (first | (with_reducible first | exact HB.out | apply below_alloc | apply pw_below_drewN | apply below_drew1) | exact HB.out))) : w.heap.size ≤ gb129)); clear HB; have HB := n0_; have BK129 := n1_; have GW129 := n2_; have GE129 := n3_; clear n0_ n1_ n2_ n3_; clear hb hbox hg; have hcz23_0 : w22.cell? ⟨gb129, 0, none⟩ = some (.string (⟨#[]⟩ : ByteArray)) := (blk_cell BK129.out 0).trans rfl; have hcz23_1 : w22.cell? ⟨gb129, 1, none⟩ = some (.int .i64 0) := (blk_cell BK129.out 1).trans rfl; have hcz23_2 : w22.cell? ⟨gb129, 2, none⟩ = some (.int .i64 0) := (blk_cell BK129.out 2).trans rfl; have hcz23_3 : w22.cell? ⟨gb129, 3, none⟩ = some (.int .i64 0) := (blk_cell BK129.out 3).trans rfl; have hcz23_4 : w22.cell? ⟨gb129, 4, none⟩ = some (.bool false) := (blk_cell BK129.out 4).trans rfl; have hcz23_5 : w22.cell? ⟨gb129, 5, none⟩ = some (.int .i64 0) := (blk_cell BK129.out 5).trans rfl; have hcz23_6 : w22.cell? ⟨gb129, 6, none⟩ = some (.int .i64 0) := (blk_cell BK129.out 6).trans rfl; have hcz23_7 : w22.cell? ⟨gb129, 7, none⟩ = some (.int .i64 0) := (blk_cell BK129.out 7).trans rfl; have hfz23_0 := blk_frozen BK129.out 0; have hfz23_1 := blk_frozen BK129.out 1; have hfz23_2 := blk_frozen BK129.out 2; have hfz23_3 := blk_frozen BK129.out 3; have hfz23_4 := blk_frozen BK129.out 4; have hfz23_5 := blk_frozen BK129.out 5; have hfz23_6 := blk_frozen BK129.out 6; have hfz23_7 := blk_frozen BK129.out 7))
  refine (move_keys_3.calls  a0 a1 t126 ji15 (decide (a3 ≥ 1)) a4 t127 t128 t130 t131 _ A18.out).mono ?_
  rintro e w24 ⟨rfl, hb⟩
  have HB2 := below_step (by repeat (first | (with_reducible first | exact HB.out | apply below_alloc | apply pw_below_drewN | apply below_drew1 | refine below_set ?_ GE129.out) | exact HB.out)) hb
  clear hb HB
  have HB := Aside0.mk HB2
  clear HB2
  show _
  go_wp2
  go_ret2
  exact ⟨by first | rfl | (simp [*] <;> rfl), by repeat (first | (with_reducible first | exact HB.out | apply below_alloc | apply pw_below_drewN | apply below_drew1 | refine below_set ?_ GE129.out) | exact HB.out)⟩
set_option maxHeartbeats 8000000 in
set_option maxRecDepth 100000 in
theorem mgo_6 (a0 : ByteArray) (a1 : Int) (a2 : ByteArray) (a3 a4 t126 t127 t128 ji14 ji15 t130 : Int) (t131 : Bool) (w : World) (hJ : motJ a2 = some 6) (A10 : Aside0 (utf_Place.f a0 a1 = some true)) (A13 : Aside0 (line_Of.f a0 a1 = some t126)) (A16 : Aside0 (line_Start.f a0 t126 = some t127)) (A17 : Aside0 (line_End.f a0 t126 = some t128)) (hji14 : (mn a3 (wrap64 ((a0.size : Int) + 2))) = ji14) (hji15 : (mx (ji14) 1) = ji15)
    (A18 : Aside0 (move_keys_4.f a0 a1 t126 ji15 (decide (a3 ≥ 1)) a4 t127 t128 = some (t130, t131))) :
    Calls Tryd.prog 22 #[.string a0, .int .i64 a1, .string a2, .int .i64 a3, .int .i64 a4] w fun e w' => e = .returned (.tuple #[.int .i64 t130, .bool t131]) ∧ Below w.heap.size w w' := by
  have hu55 := Tryd.underlying55
  have HB := Aside0.mk (below_alloc (o := .map motA 10) (Below.refl w.heap.size w))
  have hl : (Instr.lookup 52 (.map (some w.heap.size)) (.string a2) true).run Tryd.prog (w.alloc (.map motA 10)) = .ok (.tuple #[.func (.func 65) #[] #[], .bool true]) (w.alloc (.map motA 10)) := by
    have h := lookup_keys w a2
    unfold motV at h
    rw [hJ] at h
    exact h
  clear hJ
  have hji14_ : (if (wrap64 ((a0.size : Int) + 2)) < a3 then (wrap64 ((a0.size : Int) + 2)) else a3) = ji14 := hji14
  have hji15_ : (if (ji14) < 1 then 1 else (ji14)) = ji15 := hji15
  go_enter Tryd.func22, Tryd.ntmps22
  go_wp2_with (first | (go_at_call 39; refine (keys_c' _).mono ?_; rintro e w1 ⟨rfl, rfl⟩) | (go_at_call 16; (with_reducible refine (utf_Place.calls a0 a1 true _ A10.out).mono ?_); rintro e w11 ⟨rfl, hb⟩; have n0_ := Aside0.mk (below_step (by repeat (first | (with_reducible first | exact HB.out | apply below_alloc | apply pw_below_drewN | apply below_drew1) | exact HB.out)) hb); clear HB; have HB := n0_; clear n0_; clear hb) | ((with_reducible refine gate_callee (f := 26) rfl ?_); refine goesL_ (some 33) rfl rfl Tryd.func26 (by kernel_rfl) rfl #[.string a0, .int .i64 a1] rfl (by (try simp only [List.map_toArray, List.map_cons, List.map_nil]); first | done | rfl | (simp only [List.length_drop, List.length_take]; rfl)) ?_; (with_reducible refine (line_Of.calls a0 a1 t126 _ A13.out).mono ?_); rintro e w19 ⟨rfl, hb⟩; refine ⟨_, rfl, ?_⟩; have n0_ := Aside0.mk (below_step (by repeat (first | (with_reducible first | exact HB.out | apply below_alloc | apply pw_below_drewN | apply below_drew1) | exact HB.out)) hb); clear HB; have HB := n0_; clear n0_; (try clear hb); (try clear hb2); (try clear hk); (try clear hi)) | ((with_reducible refine gate_callee (f := 19) rfl ?_); refine goesL_ (some 49) rfl rfl Tryd.func19 (by kernel_rfl) rfl #[.string a0, .int .i64 t126] rfl (by (try simp only [List.map_toArray, List.map_cons, List.map_nil]); first | done | rfl | (simp only [List.length_drop, List.length_take]; rfl)) ?_; (with_reducible refine (line_Start.calls a0 t126 t127 _ A16.out).mono ?_); rintro e w20 ⟨rfl, hb⟩; refine ⟨_, rfl, ?_⟩; have n0_ := Aside0.mk (below_step (by repeat (first | (with_reducible first | exact HB.out | apply below_alloc | apply pw_below_drewN | apply below_drew1) | exact HB.out)) hb); clear HB; have HB := n0_; clear n0_; (try clear hb); (try clear hb2); (try clear hk); (try clear hi)) | ((with_reducible refine gate_callee (f := 20) rfl ?_); refine goesL_ (some 52) rfl rfl Tryd.func20 (by kernel_rfl) rfl #[.string a0, .int .i64 t126] rfl (by (try simp only [List.map_toArray, List.map_cons, List.map_nil]); first | done | rfl | (simp only [List.length_drop, List.length_take]; rfl)) ?_; (with_reducible refine (line_End.calls a0 t126 t128 _ A17.out).mono ?_); rintro e w21 ⟨rfl, hb⟩; refine ⟨_, rfl, ?_⟩; have n0_ := Aside0.mk (below_step (by repeat (first | (with_reducible first | exact HB.out | apply below_alloc | apply pw_below_drewN | apply below_drew1) | exact HB.out)) hb); clear HB; have HB := n0_; clear n0_; (try clear hb); (try clear hb2); (try clear hk); (try clear hi)) | ((with_reducible refine gate_dst (N := 16) rfl ?_); refine box_event ?hg (N := 16) ?hd (cs := #[.string (⟨#[]⟩ : ByteArray), .int .i64 0, .int .i64 0, .int .i64 0, .bool false, .int .i64 0, .int .i64 0, .int .i64 0]) (t := 55) ?hr ?_; (case hd => rfl); (case hg => rfl); (case hr => first | (go_simp; done) | (go_simp; rfl)); intro gb129 hg w22 hbox hb; have n0_ := Aside0.mk (below_step (by repeat (first | (with_reducible first | exact HB.out | apply below_alloc | apply pw_below_drewN | apply below_drew1) | exact HB.out)) hb); have n1_ := Aside0.mk (hbox); have n2_ := Aside0.mk ((by rw [hg]; exact (below_size (by repeat (first | (with_reducible first | exact HB.out | apply below_alloc | apply pw_below_drewN | apply below_drew1) | exact HB.out))) : w.heap.size ≤ gb129)); have n3_ := Aside0.mk ((by rw [hg]; exact (below_size (by repeat (first | (with_reducible first | exact HB.out | apply below_alloc | apply pw_below_drewN | apply below_drew1) | exact HB.out))) : w.heap.size ≤ gb129)); clear HB; have HB := n0_; have BK129 := n1_; have GW129 := n2_; have GE129 := n3_; clear n0_ n1_ n2_ n3_; clear hb hbox hg; have hcz23_0 : w22.cell? ⟨gb129, 0, none⟩ = some (.string (⟨#[]⟩ : ByteArray)) := (blk_cell BK129.out 0).trans rfl; have hcz23_1 : w22.cell? ⟨gb129, 1, none⟩ = some (.int .i64 0) := (blk_cell BK129.out 1).trans rfl; have hcz23_2 : w22.cell? ⟨gb129, 2, none⟩ = some (.int .i64 0) := (blk_cell BK129.out 2).trans rfl; have hcz23_3 : w22.cell? ⟨gb129, 3, none⟩ = some (.int .i64 0) := (blk_cell BK129.out 3).trans rfl; have hcz23_4 : w22.cell? ⟨gb129, 4, none⟩ = some (.bool false) := (blk_cell BK129.out 4).trans rfl; have hcz23_5 : w22.cell? ⟨gb129, 5, none⟩ = some (.int .i64 0) := (blk_cell BK129.out 5).trans rfl; have hcz23_6 : w22.cell? ⟨gb129, 6, none⟩ = some (.int .i64 0) := (blk_cell BK129.out 6).trans rfl; have hcz23_7 : w22.cell? ⟨gb129, 7, none⟩ = some (.int .i64 0) := (blk_cell BK129.out 7).trans rfl; have hfz23_0 := blk_frozen BK129.out 0; have hfz23_1 := blk_frozen BK129.out 1; have hfz23_2 := blk_frozen BK129.out 2; have hfz23_3 := blk_frozen BK129.out 3; have hfz23_4 := blk_frozen BK129.out 4; have hfz23_5 := blk_frozen BK129.out 5; have hfz23_6 := blk_frozen BK129.out 6; have hfz23_7 := blk_frozen BK129.out 7))
  refine (move_keys_4.calls  a0 a1 t126 ji15 (decide (a3 ≥ 1)) a4 t127 t128 t130 t131 _ A18.out).mono ?_
  rintro e w24 ⟨rfl, hb⟩
  have HB2 := below_step (by repeat (first | (with_reducible first | exact HB.out | apply below_alloc | apply pw_below_drewN | apply below_drew1 | refine below_set ?_ GE129.out) | exact HB.out)) hb
  clear hb HB
  have HB := Aside0.mk HB2
  clear HB2
  show _
  go_wp2
  go_ret2
  exact ⟨by first | rfl | (simp [*] <;> rfl), by repeat (first | (with_reducible first | exact HB.out | apply below_alloc | apply pw_below_drewN | apply below_drew1 | refine below_set ?_ GE129.out) | exact HB.out)⟩
set_option maxHeartbeats 8000000 in
set_option maxRecDepth 100000 in
theorem mgo_7 (a0 : ByteArray) (a1 : Int) (a2 : ByteArray) (a3 a4 t126 t127 t128 ji14 ji15 t130 : Int) (t131 : Bool) (w : World) (hJ : motJ a2 = some 7) (A10 : Aside0 (utf_Place.f a0 a1 = some true)) (A13 : Aside0 (line_Of.f a0 a1 = some t126)) (A16 : Aside0 (line_Start.f a0 t126 = some t127)) (A17 : Aside0 (line_End.f a0 t126 = some t128)) (hji14 : (mn a3 (wrap64 ((a0.size : Int) + 2))) = ji14) (hji15 : (mx (ji14) 1) = ji15)
    (A18 : Aside0 (move_keys_5.f a0 a1 t126 ji15 (decide (a3 ≥ 1)) a4 t127 t128 = some (t130, t131))) :
    Calls Tryd.prog 22 #[.string a0, .int .i64 a1, .string a2, .int .i64 a3, .int .i64 a4] w fun e w' => e = .returned (.tuple #[.int .i64 t130, .bool t131]) ∧ Below w.heap.size w w' := by
  have hu55 := Tryd.underlying55
  have HB := Aside0.mk (below_alloc (o := .map motA 10) (Below.refl w.heap.size w))
  have hl : (Instr.lookup 52 (.map (some w.heap.size)) (.string a2) true).run Tryd.prog (w.alloc (.map motA 10)) = .ok (.tuple #[.func (.func 68) #[] #[], .bool true]) (w.alloc (.map motA 10)) := by
    have h := lookup_keys w a2
    unfold motV at h
    rw [hJ] at h
    exact h
  clear hJ
  have hji14_ : (if (wrap64 ((a0.size : Int) + 2)) < a3 then (wrap64 ((a0.size : Int) + 2)) else a3) = ji14 := hji14
  have hji15_ : (if (ji14) < 1 then 1 else (ji14)) = ji15 := hji15
  go_enter Tryd.func22, Tryd.ntmps22
  go_wp2_with (first | (go_at_call 39; refine (keys_c' _).mono ?_; rintro e w1 ⟨rfl, rfl⟩) | (go_at_call 16; (with_reducible refine (utf_Place.calls a0 a1 true _ A10.out).mono ?_); rintro e w11 ⟨rfl, hb⟩; have n0_ := Aside0.mk (below_step (by repeat (first | (with_reducible first | exact HB.out | apply below_alloc | apply pw_below_drewN | apply below_drew1) | exact HB.out)) hb); clear HB; have HB := n0_; clear n0_; clear hb) | ((with_reducible refine gate_callee (f := 26) rfl ?_); refine goesL_ (some 33) rfl rfl Tryd.func26 (by kernel_rfl) rfl #[.string a0, .int .i64 a1] rfl (by (try simp only [List.map_toArray, List.map_cons, List.map_nil]); first | done | rfl | (simp only [List.length_drop, List.length_take]; rfl)) ?_; (with_reducible refine (line_Of.calls a0 a1 t126 _ A13.out).mono ?_); rintro e w19 ⟨rfl, hb⟩; refine ⟨_, rfl, ?_⟩; have n0_ := Aside0.mk (below_step (by repeat (first | (with_reducible first | exact HB.out | apply below_alloc | apply pw_below_drewN | apply below_drew1) | exact HB.out)) hb); clear HB; have HB := n0_; clear n0_; (try clear hb); (try clear hb2); (try clear hk); (try clear hi)) | ((with_reducible refine gate_callee (f := 19) rfl ?_); refine goesL_ (some 49) rfl rfl Tryd.func19 (by kernel_rfl) rfl #[.string a0, .int .i64 t126] rfl (by (try simp only [List.map_toArray, List.map_cons, List.map_nil]); first | done | rfl | (simp only [List.length_drop, List.length_take]; rfl)) ?_; (with_reducible refine (line_Start.calls a0 t126 t127 _ A16.out).mono ?_); rintro e w20 ⟨rfl, hb⟩; refine ⟨_, rfl, ?_⟩; have n0_ := Aside0.mk (below_step (by repeat (first | (with_reducible first | exact HB.out | apply below_alloc | apply pw_below_drewN | apply below_drew1) | exact HB.out)) hb); clear HB; have HB := n0_; clear n0_; (try clear hb); (try clear hb2); (try clear hk); (try clear hi)) | ((with_reducible refine gate_callee (f := 20) rfl ?_); refine goesL_ (some 52) rfl rfl Tryd.func20 (by kernel_rfl) rfl #[.string a0, .int .i64 t126] rfl (by (try simp only [List.map_toArray, List.map_cons, List.map_nil]); first | done | rfl | (simp only [List.length_drop, List.length_take]; rfl)) ?_; (with_reducible refine (line_End.calls a0 t126 t128 _ A17.out).mono ?_); rintro e w21 ⟨rfl, hb⟩; refine ⟨_, rfl, ?_⟩; have n0_ := Aside0.mk (below_step (by repeat (first | (with_reducible first | exact HB.out | apply below_alloc | apply pw_below_drewN | apply below_drew1) | exact HB.out)) hb); clear HB; have HB := n0_; clear n0_; (try clear hb); (try clear hb2); (try clear hk); (try clear hi)) | ((with_reducible refine gate_dst (N := 16) rfl ?_); refine box_event ?hg (N := 16) ?hd (cs := #[.string (⟨#[]⟩ : ByteArray), .int .i64 0, .int .i64 0, .int .i64 0, .bool false, .int .i64 0, .int .i64 0, .int .i64 0]) (t := 55) ?hr ?_; (case hd => rfl); (case hg => rfl); (case hr => first | (go_simp; done) | (go_simp; rfl)); intro gb129 hg w22 hbox hb; have n0_ := Aside0.mk (below_step (by repeat (first | (with_reducible first | exact HB.out | apply below_alloc | apply pw_below_drewN | apply below_drew1) | exact HB.out)) hb); have n1_ := Aside0.mk (hbox); have n2_ := Aside0.mk ((by rw [hg]; exact (below_size (by repeat (first | (with_reducible first | exact HB.out | apply below_alloc | apply pw_below_drewN | apply below_drew1) | exact HB.out))) : w.heap.size ≤ gb129)); have n3_ := Aside0.mk ((by rw [hg]; exact (below_size (by repeat (first | (with_reducible first | exact HB.out | apply below_alloc | apply pw_below_drewN | apply below_drew1) | exact HB.out))) : w.heap.size ≤ gb129)); clear HB; have HB := n0_; have BK129 := n1_; have GW129 := n2_; have GE129 := n3_; clear n0_ n1_ n2_ n3_; clear hb hbox hg; have hcz23_0 : w22.cell? ⟨gb129, 0, none⟩ = some (.string (⟨#[]⟩ : ByteArray)) := (blk_cell BK129.out 0).trans rfl; have hcz23_1 : w22.cell? ⟨gb129, 1, none⟩ = some (.int .i64 0) := (blk_cell BK129.out 1).trans rfl; have hcz23_2 : w22.cell? ⟨gb129, 2, none⟩ = some (.int .i64 0) := (blk_cell BK129.out 2).trans rfl; have hcz23_3 : w22.cell? ⟨gb129, 3, none⟩ = some (.int .i64 0) := (blk_cell BK129.out 3).trans rfl; have hcz23_4 : w22.cell? ⟨gb129, 4, none⟩ = some (.bool false) := (blk_cell BK129.out 4).trans rfl; have hcz23_5 : w22.cell? ⟨gb129, 5, none⟩ = some (.int .i64 0) := (blk_cell BK129.out 5).trans rfl; have hcz23_6 : w22.cell? ⟨gb129, 6, none⟩ = some (.int .i64 0) := (blk_cell BK129.out 6).trans rfl; have hcz23_7 : w22.cell? ⟨gb129, 7, none⟩ = some (.int .i64 0) := (blk_cell BK129.out 7).trans rfl; have hfz23_0 := blk_frozen BK129.out 0; have hfz23_1 := blk_frozen BK129.out 1; have hfz23_2 := blk_frozen BK129.out 2; have hfz23_3 := blk_frozen BK129.out 3; have hfz23_4 := blk_frozen BK129.out 4; have hfz23_5 := blk_frozen BK129.out 5; have hfz23_6 := blk_frozen BK129.out 6; have hfz23_7 := blk_frozen BK129.out 7))
  refine (move_keys_5.calls  a0 a1 t126 ji15 (decide (a3 ≥ 1)) a4 t127 t128 t130 t131 _ A18.out).mono ?_
  rintro e w24 ⟨rfl, hb⟩
  have HB2 := below_step (by repeat (first | (with_reducible first | exact HB.out | apply below_alloc | apply pw_below_drewN | apply below_drew1 | refine below_set ?_ GE129.out) | exact HB.out)) hb
  clear hb HB
  have HB := Aside0.mk HB2
  clear HB2
  show _
  go_wp2
  go_ret2
  exact ⟨by first | rfl | (simp [*] <;> rfl), by repeat (first | (with_reducible first | exact HB.out | apply below_alloc | apply pw_below_drewN | apply below_drew1 | refine below_set ?_ GE129.out) | exact HB.out)⟩
set_option maxHeartbeats 8000000 in
set_option maxRecDepth 100000 in
theorem mgo_8 (a0 : ByteArray) (a1 : Int) (a2 : ByteArray) (a3 a4 t126 t127 t128 ji14 ji15 t130 : Int) (t131 : Bool) (w : World) (hJ : motJ a2 = some 8) (A10 : Aside0 (utf_Place.f a0 a1 = some true)) (A13 : Aside0 (line_Of.f a0 a1 = some t126)) (A16 : Aside0 (line_Start.f a0 t126 = some t127)) (A17 : Aside0 (line_End.f a0 t126 = some t128)) (hji14 : (mn a3 (wrap64 ((a0.size : Int) + 2))) = ji14) (hji15 : (mx (ji14) 1) = ji15)
    (A18 : Aside0 (move_keys_6.f a0 a1 t126 ji15 (decide (a3 ≥ 1)) a4 t127 t128 = some (t130, t131))) :
    Calls Tryd.prog 22 #[.string a0, .int .i64 a1, .string a2, .int .i64 a3, .int .i64 a4] w fun e w' => e = .returned (.tuple #[.int .i64 t130, .bool t131]) ∧ Below w.heap.size w w' := by
  have hu55 := Tryd.underlying55
  have HB := Aside0.mk (below_alloc (o := .map motA 10) (Below.refl w.heap.size w))
  have hl : (Instr.lookup 52 (.map (some w.heap.size)) (.string a2) true).run Tryd.prog (w.alloc (.map motA 10)) = .ok (.tuple #[.func (.func 69) #[] #[], .bool true]) (w.alloc (.map motA 10)) := by
    have h := lookup_keys w a2
    unfold motV at h
    rw [hJ] at h
    exact h
  clear hJ
  have hji14_ : (if (wrap64 ((a0.size : Int) + 2)) < a3 then (wrap64 ((a0.size : Int) + 2)) else a3) = ji14 := hji14
  have hji15_ : (if (ji14) < 1 then 1 else (ji14)) = ji15 := hji15
  go_enter Tryd.func22, Tryd.ntmps22
  go_wp2_with (first | (go_at_call 39; refine (keys_c' _).mono ?_; rintro e w1 ⟨rfl, rfl⟩) | (go_at_call 16; (with_reducible refine (utf_Place.calls a0 a1 true _ A10.out).mono ?_); rintro e w11 ⟨rfl, hb⟩; have n0_ := Aside0.mk (below_step (by repeat (first | (with_reducible first | exact HB.out | apply below_alloc | apply pw_below_drewN | apply below_drew1) | exact HB.out)) hb); clear HB; have HB := n0_; clear n0_; clear hb) | ((with_reducible refine gate_callee (f := 26) rfl ?_); refine goesL_ (some 33) rfl rfl Tryd.func26 (by kernel_rfl) rfl #[.string a0, .int .i64 a1] rfl (by (try simp only [List.map_toArray, List.map_cons, List.map_nil]); first | done | rfl | (simp only [List.length_drop, List.length_take]; rfl)) ?_; (with_reducible refine (line_Of.calls a0 a1 t126 _ A13.out).mono ?_); rintro e w19 ⟨rfl, hb⟩; refine ⟨_, rfl, ?_⟩; have n0_ := Aside0.mk (below_step (by repeat (first | (with_reducible first | exact HB.out | apply below_alloc | apply pw_below_drewN | apply below_drew1) | exact HB.out)) hb); clear HB; have HB := n0_; clear n0_; (try clear hb); (try clear hb2); (try clear hk); (try clear hi)) | ((with_reducible refine gate_callee (f := 19) rfl ?_); refine goesL_ (some 49) rfl rfl Tryd.func19 (by kernel_rfl) rfl #[.string a0, .int .i64 t126] rfl (by (try simp only [List.map_toArray, List.map_cons, List.map_nil]); first | done | rfl | (simp only [List.length_drop, List.length_take]; rfl)) ?_; (with_reducible refine (line_Start.calls a0 t126 t127 _ A16.out).mono ?_); rintro e w20 ⟨rfl, hb⟩; refine ⟨_, rfl, ?_⟩; have n0_ := Aside0.mk (below_step (by repeat (first | (with_reducible first | exact HB.out | apply below_alloc | apply pw_below_drewN | apply below_drew1) | exact HB.out)) hb); clear HB; have HB := n0_; clear n0_; (try clear hb); (try clear hb2); (try clear hk); (try clear hi)) | ((with_reducible refine gate_callee (f := 20) rfl ?_); refine goesL_ (some 52) rfl rfl Tryd.func20 (by kernel_rfl) rfl #[.string a0, .int .i64 t126] rfl (by (try simp only [List.map_toArray, List.map_cons, List.map_nil]); first | done | rfl | (simp only [List.length_drop, List.length_take]; rfl)) ?_; (with_reducible refine (line_End.calls a0 t126 t128 _ A17.out).mono ?_); rintro e w21 ⟨rfl, hb⟩; refine ⟨_, rfl, ?_⟩; have n0_ := Aside0.mk (below_step (by repeat (first | (with_reducible first | exact HB.out | apply below_alloc | apply pw_below_drewN | apply below_drew1) | exact HB.out)) hb); clear HB; have HB := n0_; clear n0_; (try clear hb); (try clear hb2); (try clear hk); (try clear hi)) | ((with_reducible refine gate_dst (N := 16) rfl ?_); refine box_event ?hg (N := 16) ?hd (cs := #[.string (⟨#[]⟩ : ByteArray), .int .i64 0, .int .i64 0, .int .i64 0, .bool false, .int .i64 0, .int .i64 0, .int .i64 0]) (t := 55) ?hr ?_; (case hd => rfl); (case hg => rfl); (case hr => first | (go_simp; done) | (go_simp; rfl)); intro gb129 hg w22 hbox hb; have n0_ := Aside0.mk (below_step (by repeat (first | (with_reducible first | exact HB.out | apply below_alloc | apply pw_below_drewN | apply below_drew1) | exact HB.out)) hb); have n1_ := Aside0.mk (hbox); have n2_ := Aside0.mk ((by rw [hg]; exact (below_size (by repeat (first | (with_reducible first | exact HB.out | apply below_alloc | apply pw_below_drewN | apply below_drew1) | exact HB.out))) : w.heap.size ≤ gb129)); have n3_ := Aside0.mk ((by rw [hg]; exact (below_size (by repeat (first | (with_reducible first | exact HB.out | apply below_alloc | apply pw_below_drewN | apply below_drew1) | exact HB.out))) : w.heap.size ≤ gb129)); clear HB; have HB := n0_; have BK129 := n1_; have GW129 := n2_; have GE129 := n3_; clear n0_ n1_ n2_ n3_; clear hb hbox hg; have hcz23_0 : w22.cell? ⟨gb129, 0, none⟩ = some (.string (⟨#[]⟩ : ByteArray)) := (blk_cell BK129.out 0).trans rfl; have hcz23_1 : w22.cell? ⟨gb129, 1, none⟩ = some (.int .i64 0) := (blk_cell BK129.out 1).trans rfl; have hcz23_2 : w22.cell? ⟨gb129, 2, none⟩ = some (.int .i64 0) := (blk_cell BK129.out 2).trans rfl; have hcz23_3 : w22.cell? ⟨gb129, 3, none⟩ = some (.int .i64 0) := (blk_cell BK129.out 3).trans rfl; have hcz23_4 : w22.cell? ⟨gb129, 4, none⟩ = some (.bool false) := (blk_cell BK129.out 4).trans rfl; have hcz23_5 : w22.cell? ⟨gb129, 5, none⟩ = some (.int .i64 0) := (blk_cell BK129.out 5).trans rfl; have hcz23_6 : w22.cell? ⟨gb129, 6, none⟩ = some (.int .i64 0) := (blk_cell BK129.out 6).trans rfl; have hcz23_7 : w22.cell? ⟨gb129, 7, none⟩ = some (.int .i64 0) := (blk_cell BK129.out 7).trans rfl; have hfz23_0 := blk_frozen BK129.out 0; have hfz23_1 := blk_frozen BK129.out 1; have hfz23_2 := blk_frozen BK129.out 2; have hfz23_3 := blk_frozen BK129.out 3; have hfz23_4 := blk_frozen BK129.out 4; have hfz23_5 := blk_frozen BK129.out 5; have hfz23_6 := blk_frozen BK129.out 6; have hfz23_7 := blk_frozen BK129.out 7))
  refine (move_keys_6.calls  a0 a1 t126 ji15 (decide (a3 ≥ 1)) a4 t127 t128 t130 t131 _ A18.out).mono ?_
  rintro e w24 ⟨rfl, hb⟩
  have HB2 := below_step (by repeat (first | (with_reducible first | exact HB.out | apply below_alloc | apply pw_below_drewN | apply below_drew1 | refine below_set ?_ GE129.out) | exact HB.out)) hb
  clear hb HB
  have HB := Aside0.mk HB2
  clear HB2
  show _
  go_wp2
  go_ret2
  exact ⟨by first | rfl | (simp [*] <;> rfl), by repeat (first | (with_reducible first | exact HB.out | apply below_alloc | apply pw_below_drewN | apply below_drew1 | refine below_set ?_ GE129.out) | exact HB.out)⟩
set_option maxHeartbeats 8000000 in
set_option maxRecDepth 100000 in
theorem mgo_9 (a0 : ByteArray) (a1 : Int) (a2 : ByteArray) (a3 a4 t126 t127 t128 ji14 ji15 t130 : Int) (t131 : Bool) (w : World) (hJ : motJ a2 = some 9) (A10 : Aside0 (utf_Place.f a0 a1 = some true)) (A13 : Aside0 (line_Of.f a0 a1 = some t126)) (A16 : Aside0 (line_Start.f a0 t126 = some t127)) (A17 : Aside0 (line_End.f a0 t126 = some t128)) (hji14 : (mn a3 (wrap64 ((a0.size : Int) + 2))) = ji14) (hji15 : (mx (ji14) 1) = ji15)
    (A18 : Aside0 (move_bottom.f a0 a1 t126 ji15 (decide (a3 ≥ 1)) a4 t127 t128 = some (t130, t131))) :
    Calls Tryd.prog 22 #[.string a0, .int .i64 a1, .string a2, .int .i64 a3, .int .i64 a4] w fun e w' => e = .returned (.tuple #[.int .i64 t130, .bool t131]) ∧ Below w.heap.size w w' := by
  have hu55 := Tryd.underlying55
  have HB := Aside0.mk (below_alloc (o := .map motA 10) (Below.refl w.heap.size w))
  have hl : (Instr.lookup 52 (.map (some w.heap.size)) (.string a2) true).run Tryd.prog (w.alloc (.map motA 10)) = .ok (.tuple #[.func (.func 71) #[] #[], .bool true]) (w.alloc (.map motA 10)) := by
    have h := lookup_keys w a2
    unfold motV at h
    rw [hJ] at h
    exact h
  clear hJ
  have hji14_ : (if (wrap64 ((a0.size : Int) + 2)) < a3 then (wrap64 ((a0.size : Int) + 2)) else a3) = ji14 := hji14
  have hji15_ : (if (ji14) < 1 then 1 else (ji14)) = ji15 := hji15
  go_enter Tryd.func22, Tryd.ntmps22
  go_wp2_with (first | (go_at_call 39; refine (keys_c' _).mono ?_; rintro e w1 ⟨rfl, rfl⟩) | (go_at_call 16; (with_reducible refine (utf_Place.calls a0 a1 true _ A10.out).mono ?_); rintro e w11 ⟨rfl, hb⟩; have n0_ := Aside0.mk (below_step (by repeat (first | (with_reducible first | exact HB.out | apply below_alloc | apply pw_below_drewN | apply below_drew1) | exact HB.out)) hb); clear HB; have HB := n0_; clear n0_; clear hb) | ((with_reducible refine gate_callee (f := 26) rfl ?_); refine goesL_ (some 33) rfl rfl Tryd.func26 (by kernel_rfl) rfl #[.string a0, .int .i64 a1] rfl (by (try simp only [List.map_toArray, List.map_cons, List.map_nil]); first | done | rfl | (simp only [List.length_drop, List.length_take]; rfl)) ?_; (with_reducible refine (line_Of.calls a0 a1 t126 _ A13.out).mono ?_); rintro e w19 ⟨rfl, hb⟩; refine ⟨_, rfl, ?_⟩; have n0_ := Aside0.mk (below_step (by repeat (first | (with_reducible first | exact HB.out | apply below_alloc | apply pw_below_drewN | apply below_drew1) | exact HB.out)) hb); clear HB; have HB := n0_; clear n0_; (try clear hb); (try clear hb2); (try clear hk); (try clear hi)) | ((with_reducible refine gate_callee (f := 19) rfl ?_); refine goesL_ (some 49) rfl rfl Tryd.func19 (by kernel_rfl) rfl #[.string a0, .int .i64 t126] rfl (by (try simp only [List.map_toArray, List.map_cons, List.map_nil]); first | done | rfl | (simp only [List.length_drop, List.length_take]; rfl)) ?_; (with_reducible refine (line_Start.calls a0 t126 t127 _ A16.out).mono ?_); rintro e w20 ⟨rfl, hb⟩; refine ⟨_, rfl, ?_⟩; have n0_ := Aside0.mk (below_step (by repeat (first | (with_reducible first | exact HB.out | apply below_alloc | apply pw_below_drewN | apply below_drew1) | exact HB.out)) hb); clear HB; have HB := n0_; clear n0_; (try clear hb); (try clear hb2); (try clear hk); (try clear hi)) | ((with_reducible refine gate_callee (f := 20) rfl ?_); refine goesL_ (some 52) rfl rfl Tryd.func20 (by kernel_rfl) rfl #[.string a0, .int .i64 t126] rfl (by (try simp only [List.map_toArray, List.map_cons, List.map_nil]); first | done | rfl | (simp only [List.length_drop, List.length_take]; rfl)) ?_; (with_reducible refine (line_End.calls a0 t126 t128 _ A17.out).mono ?_); rintro e w21 ⟨rfl, hb⟩; refine ⟨_, rfl, ?_⟩; have n0_ := Aside0.mk (below_step (by repeat (first | (with_reducible first | exact HB.out | apply below_alloc | apply pw_below_drewN | apply below_drew1) | exact HB.out)) hb); clear HB; have HB := n0_; clear n0_; (try clear hb); (try clear hb2); (try clear hk); (try clear hi)) | ((with_reducible refine gate_dst (N := 16) rfl ?_); refine box_event ?hg (N := 16) ?hd (cs := #[.string (⟨#[]⟩ : ByteArray), .int .i64 0, .int .i64 0, .int .i64 0, .bool false, .int .i64 0, .int .i64 0, .int .i64 0]) (t := 55) ?hr ?_; (case hd => rfl); (case hg => rfl); (case hr => first | (go_simp; done) | (go_simp; rfl)); intro gb129 hg w22 hbox hb; have n0_ := Aside0.mk (below_step (by repeat (first | (with_reducible first | exact HB.out | apply below_alloc | apply pw_below_drewN | apply below_drew1) | exact HB.out)) hb); have n1_ := Aside0.mk (hbox); have n2_ := Aside0.mk ((by rw [hg]; exact (below_size (by repeat (first | (with_reducible first | exact HB.out | apply below_alloc | apply pw_below_drewN | apply below_drew1) | exact HB.out))) : w.heap.size ≤ gb129)); have n3_ := Aside0.mk ((by rw [hg]; exact (below_size (by repeat (first | (with_reducible first | exact HB.out | apply below_alloc | apply pw_below_drewN | apply below_drew1) | exact HB.out))) : w.heap.size ≤ gb129)); clear HB; have HB := n0_; have BK129 := n1_; have GW129 := n2_; have GE129 := n3_; clear n0_ n1_ n2_ n3_; clear hb hbox hg; have hcz23_0 : w22.cell? ⟨gb129, 0, none⟩ = some (.string (⟨#[]⟩ : ByteArray)) := (blk_cell BK129.out 0).trans rfl; have hcz23_1 : w22.cell? ⟨gb129, 1, none⟩ = some (.int .i64 0) := (blk_cell BK129.out 1).trans rfl; have hcz23_2 : w22.cell? ⟨gb129, 2, none⟩ = some (.int .i64 0) := (blk_cell BK129.out 2).trans rfl; have hcz23_3 : w22.cell? ⟨gb129, 3, none⟩ = some (.int .i64 0) := (blk_cell BK129.out 3).trans rfl; have hcz23_4 : w22.cell? ⟨gb129, 4, none⟩ = some (.bool false) := (blk_cell BK129.out 4).trans rfl; have hcz23_5 : w22.cell? ⟨gb129, 5, none⟩ = some (.int .i64 0) := (blk_cell BK129.out 5).trans rfl; have hcz23_6 : w22.cell? ⟨gb129, 6, none⟩ = some (.int .i64 0) := (blk_cell BK129.out 6).trans rfl; have hcz23_7 : w22.cell? ⟨gb129, 7, none⟩ = some (.int .i64 0) := (blk_cell BK129.out 7).trans rfl; have hfz23_0 := blk_frozen BK129.out 0; have hfz23_1 := blk_frozen BK129.out 1; have hfz23_2 := blk_frozen BK129.out 2; have hfz23_3 := blk_frozen BK129.out 3; have hfz23_4 := blk_frozen BK129.out 4; have hfz23_5 := blk_frozen BK129.out 5; have hfz23_6 := blk_frozen BK129.out 6; have hfz23_7 := blk_frozen BK129.out 7))
  refine (move_bottom.calls  a0 a1 t126 ji15 (decide (a3 ≥ 1)) a4 t127 t128 t130 t131 _ A18.out).mono ?_
  rintro e w24 ⟨rfl, hb⟩
  have HB2 := below_step (by repeat (first | (with_reducible first | exact HB.out | apply below_alloc | apply pw_below_drewN | apply below_drew1 | refine below_set ?_ GE129.out) | exact HB.out)) hb
  clear hb HB
  have HB := Aside0.mk HB2
  clear HB2
  show _
  go_wp2
  go_ret2
  exact ⟨by first | rfl | (simp [*] <;> rfl), by repeat (first | (with_reducible first | exact HB.out | apply below_alloc | apply pw_below_drewN | apply below_drew1 | refine below_set ?_ GE129.out) | exact HB.out)⟩
end Go.Proofs.YtbilknmcikmcoaaDoor
/- Where simple motions lead, in plain words: facts of columns and places. -/
namespace Go.Proofs.YtbilknmcikmcoaaDoor
open Go.RowKit
set_option linter.unusedVariables false
set_option linter.unusedSimpArgs false
theorem vAt_big' {l : List UInt8} {b : Nat} (hpb : placeB l b = true) : ∀ (d p : Nat) (c : Int), b - p ≤ d → p ≤ b → placeB l p = true → (b : Int) - p ≤ c → vAt l b p c = b := by
  intro d
  induction d with
  | zero => intro p c h1 h2 _ _; obtain rfl : p = b := by omega
            exact vAt_end l p c
  | succ d ih =>
    intro p c h1 h2 hp hc
    by_cases he : p = b
    · subst he; exact vAt_end l p c
    · obtain ⟨n, g1, g2, g3, g4, g5⟩ := vAt_step (c := c) (by omega) (show p < b by omega) hp hpb
      rw [g5]; exact ih n (c - 1) (by omega) g3 g4 (by omega)
theorem vAt_neg (l : List UInt8) (b p : Nat) (c : Int) (h : c ≤ 0) : vAt l b p c = vAt l b p 0 := by unfold vAt; rw [show max c 0 = max 0 0 by omega]
theorem vAt_add {l : List UInt8} {b c : Nat} (hpb : placeB l b = true) (hpc : placeB l c = true) (hcb : c ≤ b) (m : Int) (hm : 0 ≤ m) : ∀ (d p : Nat), c - p ≤ d → p ≤ c → placeB l p = true → vAt l b p ((cntL (rowL l (p, c)) : Nat) + m) = vAt l b c m := by
  have hcl := (valid_at hpc).2.1
  intro d
  induction d with
  | zero =>
    intro p h1 h2 hp
    obtain rfl : p = c := by omega
    rw [row_nil]; congr 1; simp [cntL]
  | succ d ih =>
    intro p h1 h2 hp
    by_cases he : p = c
    · subst he; rw [row_nil]; congr 1; simp [cntL]
    · obtain ⟨n, g1, g2, g3, g4, g5⟩ := next_gap hp (show p < l.length by omega)
      have hnc : n ≤ c := by
        rcases Nat.lt_or_ge c n with h | h
        · rw [g5 c (by omega) h] at hpc; cases hpc
        · exact h
      have h1c := cnt_one_rune hp (n - (p + 1)) n (by omega) g3 (fun i a b => g5 i a b)
      have hc2 : cntL (rowL l (p, c)) = 1 + cntL (rowL l (n, c)) := by rw [row_app (n := n) (by omega) hnc hcl, cnt_app, h1c]
      obtain ⟨q, k1, k2, k3, k4, k5⟩ := vAt_step (b := b) (p := p) (c := (cntL (rowL l (p, c)) : Nat) + m) (by omega) (by omega) hp hpb
      obtain rfl : q = n := by rw [g1] at k1; omega
      rw [k5, show ((cntL (rowL l (p, c)) : Nat) : Int) + m - 1 = (cntL (rowL l (q, c)) : Nat) + m by omega]
      exact ih q (by omega) hnc g4
theorem col_cnt {l : List UInt8} {c : Nat} (hc : placeB l c = true) : colI l c = (cntL (rowL l (lst l c, c)) : Nat) := by
  obtain ⟨e, h1, h2, h3, h4, h5, h6, h7, h8⟩ := line_pair hc
  have hvu := row_valid h4 h7 hc
  unfold colI; rw [if_pos hc, Int.toNat_natCast]
  have : upL l c = rowL l (lst l c, c) := rfl
  rw [this]; unfold countI; rw [if_pos hvu]
theorem cntL_le (l : List UInt8) : cntL l ≤ l.length := by unfold cntL; exact List.length_filter_le _ _
theorem col_le {l : List UInt8} {c : Nat} (hc : placeB l c = true) : 0 ≤ colI l c ∧ colI l c ≤ c - lst l c := by
  obtain ⟨e, h1, h2, h3, h4, h5, h6, h7, h8⟩ := line_pair hc
  rw [col_cnt hc]
  have := cntL_le (rowL l (lst l c, c))
  rw [rowL_len h4 (by omega)] at this
  simp only at this
  omega
theorem at_pair {l : List UInt8} {s e : Nat} {k : Int} (hl : lineI l k = some (s, e)) (hs : placeB l s = true) (he : placeB l e = true) (h : s ≤ e) (c : Int) : atI l k c = vAt l e s c := vAt_eq hl (row_valid h hs he)
theorem at_plus {l : List UInt8} {p e : Nat} (hp : placeB l p = true) (he : endI l (ofI l p) = e) (m : Int) (hm : 0 ≤ m) : atI l (ofI l p) (colI l p + m) = vAt l e p m := by
  obtain ⟨e', h1, h2, h3, h4, h5, h6, h7, h8⟩ := line_pair hp
  obtain rfl : e' = e := by omega
  rw [at_pair h1 h7 h8 (by omega), col_cnt hp]
  exact vAt_add h8 hp h5 m hm _ _ (Nat.le_refl _) h4 h7
theorem col_next {l : List UInt8} {p e : Nat} (hp : placeB l p = true) (he : endI l (ofI l p) = e) (h : p < e) : ∃ n : Nat, nextI l p = n ∧ p < n ∧ n ≤ e ∧ placeB l n = true ∧ ofI l n = ofI l p ∧ colI l n = colI l p + 1 := by
  obtain ⟨e', h1, h2, h3, h4, h5, h6, h7, h8⟩ := line_pair hp
  obtain rfl : e' = e := by omega
  obtain ⟨n, g1, g2, g3, g4, g5⟩ := next_gap hp (show p < l.length by omega)
  have hne : n ≤ e' := by
    rcases Nat.lt_or_ge e' n with h | h
    · rw [g5 e' (by omega) h] at h8; cases h8
    · exact h
  have ho := in_line' hp he (j := n) (by omega) hne
  have hln : lst l n = lst l p := by
    obtain ⟨_, a1, _⟩ := line_at g4
    rw [ho] at a1; omega
  have h1c := cnt_one_rune hp (n - (p + 1)) n (by omega) g3 (fun i a b => g5 i a b)
  refine ⟨n, g1, g2, hne, g4, ho, ?_⟩
  rw [col_cnt g4, col_cnt hp, hln, row_app (n := p) h4 (by omega) g3, cnt_app, h1c]; omega
theorem col_prev {l : List UInt8} {p : Nat} (hp : placeB l p = true) (h : lst l p < p) : ∃ n : Nat, prevI l p = n ∧ n < p ∧ lst l p ≤ n ∧ placeB l n = true ∧ ofI l n = ofI l p ∧ lst l n = lst l p ∧ colI l p = colI l n + 1 := by
  obtain ⟨e, h1, h2, h3, h4, h5, h6, h7, h8⟩ := line_pair hp
  have hv := (valid_at hp).2.2
  obtain ⟨g1, g2, g3⟩ := prev_gap hv (p - 1) (by omega)
  have g4 := prev_ge' hp h7 h
  have ho := in_line' hp h3 (j := prevFrom l (p - 1)) g4 (by omega)
  have hln : lst l (prevFrom l (p - 1)) = lst l p := by
    obtain ⟨_, a1, _⟩ := line_at g2
    rw [ho] at a1; omega
  have h1c := cnt_one_rune g2 (p - (prevFrom l (p - 1) + 1)) p (by omega) (by omega) (fun i a b => g3 i a (by omega))
  refine ⟨_, prevI_at hp (by omega), by omega, g4, g2, ho, hln, ?_⟩
  rw [col_cnt g2, col_cnt hp, hln, row_app (n := prevFrom l (p - 1)) g4 (by omega) (by omega), cnt_app, h1c]; omega
def motI (l : List UInt8) (p : Int) (n want : Int) : Nat → Int × Bool
  | 0 => if p = startI l (ofI l p) then (0, false) else (atI l (ofI l p) (colI l p - min (max n 1) (colI l p)), true)
  | 1 => if p = endI l (ofI l p) then (0, false) else (atI l (ofI l p) (colI l p + min (max n 1) l.length), true)
  | 2 => (startI l (ofI l p), true)
  | 3 => (firstI l (ofI l p), true)
  | 4 => if max n 1 - 1 > lcountI l - 1 - ofI l p then (0, false) else (endI l (ofI l p + max n 1 - 1), true)
  | 5 => (atI l (ofI l p) (max n 1 - 1), true)
  | 6 => if ofI l p = lcountI l - 1 then (0, false) else (atI l (ofI l p + min (max n 1) (lcountI l - 1 - ofI l p)) want, true)
  | 7 => if ofI l p = 0 then (0, false) else (atI l (ofI l p - min (max n 1) (ofI l p)) want, true)
  | 8 => (firstI l (min (max n 1 - 1) (lcountI l - 1)), true)
  | _ => (firstI l (min (if n < 1 then lcountI l - 1 else n - 1) (lcountI l - 1)), true)
def goM (l : List UInt8) (p : Int) (key : ByteArray) (n want : Int) : Int × Bool :=
  match motJ key with
  | none => (0, false)
  | some j => if placeB l p = true then motI l p n want j else (0, false)
end Go.Proofs.YtbilknmcikmcoaaDoor
/- line.First in plain words (MOD QM). -/
namespace Go.Proofs.YtbilknmcikmcoaaDoor
open Go.RowKit
set_option linter.unusedVariables false
set_option linter.unusedSimpArgs false
open Go.RowKit Go.Proofs.YtbilknmcikmcoaaDoor.QM Go.Proofs.YtbilknmcikmcoaaDoorW.PrintWords Go.Proofs.YtbilknmcikmcoaaDoorW.PrintMore
theorem first_val (t : ByteArray) (k : Int) (ht : t.size ≤ 1000000) : line_First.f t k = some (firstI (ls t) k) := by
  unfold line_First.f firstI
  rw [line_find.eq t k (by omega)]
  simp only [Option.bind_some]
  cases hl : lineI (ls t) k with
  | none => simp
  | some x =>
    obtain ⟨a1, a2, a3, _, _⟩ := lineI_le hl
    rw [ls_len] at a2
    have hs : startI (ls t) k = x.1 := by unfold startI; rw [hl]
    have he : endI (ls t) k = x.2 := by unfold endI; rw [hl]
    rw [hs, he]
    have hrow : ls (t.extract x.1 x.2) = rowL (ls t) x := ls_ext2 t x.1 x.2
    have hrl : (rowL (ls t) x).length = x.2 - x.1 := rowL_len a1 (by rw [ls_len]; exact a2)
    have hbl := blk_le (rowL (ls t) x)
    have hts : (trS (t.extract x.1 x.2) ⟨#[32, 9]⟩).size = (x.2 - x.1) - blk (rowL (ls t) x) := by
      rw [trS_size _ _ rfl, hrow, ← ls_len, hrow, hrl]
    rw [if_pos (show (some x).isSome = true from rfl), if_pos (show (0 : Int) ≤ x.1 by omega), if_pos (show (x.1 : Int) ≤ x.2 by omega), if_pos (show (x.2 : Int) ≤ t.size by omega), Int.toNat_natCast, Int.toNat_natCast, strings_TrimLeft.eq _ _ ⟨by decide, by decide⟩]
    simp only [Option.bind_some]
    rw [line_Clamp.eq t _ (by omega)]
    simp only [Option.bind_some]
    rw [hrl]
    by_cases hc : blk (rowL (ls t) x) = x.2 - x.1
    · rw [if_pos ((empty_iff _).2 (by rw [hts]; omega)), if_pos hc]
    · rw [if_neg (fun h => hc (by have := (empty_iff _).1 h; rw [hts] at this; omega)), if_neg hc, w64 (by rw [hts]; omega) (by rw [hts]; omega), hts]
      congr 1; omega
end Go.Proofs.YtbilknmcikmcoaaDoor
/- What the ten simple motions tell (MOD QM). -/
namespace Go.Proofs.YtbilknmcikmcoaaDoor
open Go.RowKit
set_option linter.unusedVariables false
set_option linter.unusedSimpArgs false
open Go.RowKit Go.Proofs.YtbilknmcikmcoaaDoor.QM Go.Proofs.YtbilknmcikmcoaaDoorW.PrintWords Go.Proofs.YtbilknmcikmcoaaDoorW.PrintMore
theorem left_l0 (t : ByteArray) (k want e : Int) (c : Bool) (ht : t.size ≤ 1000000) : ∀ (d p : Nat) (n : Int), p - lst (ls t) p ≤ d → placeB (ls t) p = true → 0 ≤ n → n ≤ 2000000 → Ev (fun K => move_left.l0 K t p k n c want (lst (ls t) p) e) (atI (ls t) (ofI (ls t) p) (colI (ls t) p - min n (colI (ls t) p)), true) := by
  intro d
  induction d with
  | zero =>
    intro p n h1 hp h0 hn
    obtain ⟨e', _, _, _, h4, _, _, _, _⟩ := line_pair hp
    have hc := col_le hp
    have hr := (at_col hp).1
    refine Ev.step (fun _ => (by rw [move_left.l0])) ?_
    refine Ev.ite (fun _ => Ev.neg (show ¬ ((p : Int) > (lst (ls t) p : Nat)) by omega) (Ev.ret ?_)) (fun _ => Ev.ret ?_) <;> rw [show colI (ls t) p - min n (colI (ls t) p) = colI (ls t) p by omega, hr]
  | succ d ih =>
    intro p n h1 hp h0 hn
    obtain ⟨e', _, _, _, h4, _, _, _, _⟩ := line_pair hp
    have hc := col_le hp
    have hr := (at_col hp).1
    refine Ev.step (fun _ => (by rw [move_left.l0])) ?_
    refine Ev.ite (fun hn0 => ?_) (fun _ => Ev.ret (by rw [show colI (ls t) p - min n (colI (ls t) p) = colI (ls t) p by omega, hr]))
    refine Ev.ite (fun hlt => ?_) (fun _ => Ev.ret (by rw [show colI (ls t) p - min n (colI (ls t) p) = colI (ls t) p by omega, hr]))
    obtain ⟨q, g1, g2, g3, g4, g5, g6, g7⟩ := col_prev hp (by omega)
    have hc2 := col_le g4
    refine Ev.call (utf_Prev.eq t p (by omega)) ?_
    rw [g1, w64 (by omega) (by omega), ← g5, ← g6, g7, show colI (ls t) q + 1 - min n (colI (ls t) q + 1) = colI (ls t) q - min (n - 1) (colI (ls t) q) by omega]
    exact ih q (n - 1) (by omega) g4 (by omega) (by omega)
theorem right_l0 (t : ByteArray) (k want s : Int) (c : Bool) (e : Nat) (ht : t.size ≤ 1000000) : ∀ (d p : Nat) (n : Int), e - p ≤ d → placeB (ls t) p = true → endI (ls t) (ofI (ls t) p) = e → 0 ≤ n → n ≤ 2000000 → Ev (fun K => move_right.l0 K t p k n c want s e) (vAt (ls t) e p n, true) := by
  intro d
  induction d with
  | zero =>
    intro p n h1 hp he h0 hn
    obtain ⟨e', _, _, h3, h4, h5, h6, h7, h8⟩ := line_pair hp
    obtain rfl : p = e := by omega
    refine Ev.step (fun _ => (by rw [move_right.l0])) ?_
    refine Ev.ite (fun _ => Ev.neg (show ¬ ((p : Int) < (p : Int)) by omega) (Ev.ret ?_)) (fun _ => Ev.ret ?_) <;> rw [vAt_end]
  | succ d ih =>
    intro p n h1 hp he h0 hn
    obtain ⟨e', _, _, h3, h4, h5, h6, h7, h8⟩ := line_pair hp
    obtain rfl : e' = e := by omega
    refine Ev.step (fun _ => (by rw [move_right.l0])) ?_
    refine Ev.ite (fun hn0 => ?_) (fun _ => Ev.ret (by rw [show n = 0 by omega, vAt_zero h8 hp h5]))
    refine Ev.ite (fun hlt => ?_) (fun _ => Ev.ret (by obtain rfl : p = e' := by omega
                                                       rw [vAt_end]))
    obtain ⟨q, g1, g2, g3, g4, g5, g6⟩ := col_next hp he (by omega)
    obtain ⟨q', k1, k2, k3, k4, k5⟩ := vAt_step (b := e') (p := p) (c := n) (by omega) (by omega) hp h8
    obtain rfl : q' = q := by rw [g1] at k1; omega
    refine Ev.call (utf_Next.eq t p (by omega)) ?_
    rw [g1, w64 (by omega) (by omega), k5]
    exact ih q' (n - 1) (by omega) g4 (by rw [g5]; exact he) (by omega) (by omega)
theorem lines_of {l : List UInt8} {p : Nat} (hp : placeB l p = true) : 0 ≤ ofI l p ∧ ofI l p ≤ lcountI l - 1 ∧ lcountI l - 1 ≤ l.length ∧ 0 ≤ lcountI l - 1 := by
  obtain ⟨_, hle, hv⟩ := valid_at hp
  obtain ⟨h1, _⟩ := start_of hle hv
  have := fds_mono l p
  have := tens_le l
  rw [h1]; unfold lcountI; rw [if_pos hv]; omega
theorem m2_val (t : ByteArray) (p : Nat) (n want e m : Int) (c : Bool) : move_keys_1.f t p (ofI (ls t) p) m c want (startI (ls t) (ofI (ls t) p)) e = some (motI (ls t) p n want 2) := rfl
section
variable (t : ByteArray) (p : Nat) (n want s e m : Int) (c : Bool) (ht : t.size ≤ 1000000) (hp : placeB (ls t) p = true) (hm : m = max (min n (t.size + 2)) 1)
include ht
theorem last_val (a1 a2 a3 a5 a6 a7 : Int) : move_ask_last.f t a1 a2 a3 c a5 a6 a7 = some (lcountI (ls t) - 1) := by
  have h1 : 0 ≤ lcountI (ls t) ∧ lcountI (ls t) ≤ t.size + 1 := by
    have := tens_le (ls t); rw [ls_len] at this; unfold lcountI; split <;> omega
  unfold move_ask_last.f
  rw [line_Count.eq t (by omega), Option.bind_some, w64 (by omega) (by omega)]
theorem cut_val (a1 a2 a3 a5 a6 a7 k : Int) : move_ask_cut.f t a1 a2 a3 c a5 a6 a7 k = some (max 0 (min k (lcountI (ls t) - 1))) := by
  unfold move_ask_cut.f
  rw [last_val t c ht, Option.bind_some, mx_eq, mn_eq]
theorem first_val' (a1 a2 a3 a5 a6 a7 k : Int) : move_ask_first.f t a1 a2 a3 c a5 a6 a7 k = some (firstI (ls t) (max 0 (min k (lcountI (ls t) - 1)))) := by
  unfold move_ask_first.f
  rw [cut_val t c ht, Option.bind_some, first_val t _ ht, Option.bind_some]
theorem over_val (a1 a2 a3 a6 a7 k : Int) (hw : want ≤ 9223372036854775807) (b : Bool) : move_ask_over.f t a1 a2 a3 c want a6 a7 k b = some (if b = true then (0, false) else (atI (ls t) (max 0 (min k (lcountI (ls t) - 1))) want, true)) := by
  unfold move_ask_over.f
  cases b with
  | true => rfl
  | false =>
    rw [if_neg (by simp), if_neg (by simp), cut_val t c ht, Option.bind_some, line_At.eq t _ want ⟨by omega, hw⟩, Option.bind_some]
theorem m3_val : move_keys_2.f t p (ofI (ls t) p) m c want s e = some (motI (ls t) p n want 3) := by
  unfold move_keys_2.f
  rw [first_val t _ ht]; rfl
include hp hm
theorem m0_ev : Ev (fun K => move_left.f K t p (ofI (ls t) p) m c want (startI (ls t) (ofI (ls t) p)) e) (motI (ls t) p n want 0) := by
  obtain ⟨e', h1, h2, h3, h4, h5, h6, h7, h8⟩ := line_pair hp
  have hc := col_le hp
  rw [ls_len] at h6
  unfold move_left.f
  rw [motI, h2]
  by_cases hq : (p : Int) = (lst (ls t) p : Nat)
  · rw [if_pos hq]; exact Ev.pos hq (Ev.ret rfl)
  · rw [if_neg hq]
    refine Ev.neg hq ?_
    have := left_l0 t (ofI (ls t) p) want e c ht _ p m (Nat.le_refl _) hp (by omega) (by omega)
    rw [show min m (colI (ls t) p) = min (max n 1) (colI (ls t) p) by omega] at this
    exact this
theorem m1_ev : Ev (fun K => move_right.f K t p (ofI (ls t) p) m c want s (endI (ls t) (ofI (ls t) p))) (motI (ls t) p n want 1) := by
  obtain ⟨e', h1, h2, h3, h4, h5, h6, h7, h8⟩ := line_pair hp
  unfold move_right.f
  have hpl := at_plus hp h3
  rw [motI, h3]
  have h6' := h6
  rw [ls_len] at h6
  by_cases hq : (p : Int) = (e' : Nat)
  · rw [if_pos hq]; exact Ev.pos hq (Ev.ret rfl)
  · rw [if_neg hq]
    refine Ev.neg hq ?_
    have := right_l0 t (ofI (ls t) p) want s c e' ht _ p m (Nat.le_refl _) hp h3 (by omega) (by omega)
    rw [hpl _ (by omega), ls_len]
    by_cases hb : max n 1 ≤ t.size
    · rw [show min (max n 1) (t.size : Int) = m by omega]; exact this
    · rw [vAt_big' h8 _ p m (Nat.le_refl _) h5 hp (by omega)] at this
      rw [vAt_big' h8 _ p _ (Nat.le_refl _) h5 hp (by omega)]; exact this
theorem m4_val : move_end.f t p (ofI (ls t) p) m c want s e = some (motI (ls t) p n want 4) := by
  have h := lines_of hp
  rw [ls_len] at h
  unfold move_end.f
  rw [last_val t c ht, Option.bind_some, w64 (by omega) (by omega), w64 (by omega) (by omega), w64 (n := ofI (ls t) p + m) (by omega) (by omega), w64 (by omega) (by omega), line_End.eq t _ (by omega), Option.bind_some]
  show _ = some (if _ then _ else _)
  by_cases hc : m - 1 > lcountI (ls t) - 1 - ofI (ls t) p
  · rw [if_pos hc, if_pos (by omega)]
  · rw [if_neg hc, if_neg (by omega), show m = max n 1 by omega]
theorem m5_val : move_keys_3.f t p (ofI (ls t) p) m c want s e = some (motI (ls t) p n want 5) := by
  obtain ⟨e', h1, h2, h3, h4, h5, h6, h7, h8⟩ := line_pair hp
  unfold move_keys_3.f
  rw [w64 (by omega) (by omega), line_At.eq t _ _ ⟨by omega, by omega⟩, Option.bind_some]
  show some (atI (ls t) (ofI (ls t) p) (m - 1), true) = some (atI (ls t) (ofI (ls t) p) (max n 1 - 1), true)
  rw [at_pair h1 h7 h8 (by omega), at_pair h1 h7 h8 (by omega)]
  rw [ls_len] at h6
  by_cases hb : n ≤ t.size + 2
  · rw [show m = max n 1 by omega]
  · rw [vAt_big' h8 _ _ _ (Nat.le_refl _) (by omega) h7 (by omega), vAt_big' h8 _ _ _ (Nat.le_refl _) (by omega) h7 (by omega)]
theorem m6_val (hw : want ≤ 9223372036854775807) : move_keys_4.f t p (ofI (ls t) p) m c want s e = some (motI (ls t) p n want 6) := by
  have h := lines_of hp
  rw [ls_len] at h
  unfold move_keys_4.f
  rw [last_val t c ht, Option.bind_some, w64 (by omega) (by omega), over_val t want c ht _ _ _ _ _ _ hw, Option.bind_some]
  show some (if (ofI (ls t) p == lcountI (ls t) - 1) = true then _ else _) = some (if _ then _ else _)
  by_cases hc : ofI (ls t) p = lcountI (ls t) - 1
  · rw [if_pos hc, if_pos (by simpa using hc)]
  · rw [if_neg hc, if_neg (by simpa using hc), show max 0 (min (ofI (ls t) p + m) (lcountI (ls t) - 1)) = ofI (ls t) p + min (max n 1) (lcountI (ls t) - 1 - ofI (ls t) p) by omega]
theorem m7_val (hw : want ≤ 9223372036854775807) : move_keys_5.f t p (ofI (ls t) p) m c want s e = some (motI (ls t) p n want 7) := by
  have h := lines_of hp
  rw [ls_len] at h
  unfold move_keys_5.f
  rw [w64 (by omega) (by omega), over_val t want c ht _ _ _ _ _ _ hw, Option.bind_some]
  show some (if (ofI (ls t) p == 0) = true then _ else _) = some (if _ then _ else _)
  by_cases hc : ofI (ls t) p = 0
  · rw [if_pos hc, if_pos (by simpa using hc)]
  · rw [if_neg hc, if_neg (by simpa using hc), show max 0 (min (ofI (ls t) p - m) (lcountI (ls t) - 1)) = ofI (ls t) p - min (max n 1) (ofI (ls t) p) by omega]
theorem m8_val : move_keys_6.f t p (ofI (ls t) p) m c want s e = some (motI (ls t) p n want 8) := by
  have h := lines_of hp
  rw [ls_len] at h
  unfold move_keys_6.f
  rw [w64 (by omega) (by omega), first_val' t c ht, Option.bind_some]
  show some (firstI _ _, true) = some (firstI _ _, true)
  rw [show max 0 (min (m - 1) (lcountI (ls t) - 1)) = min (max n 1 - 1) (lcountI (ls t) - 1) by omega]
theorem m9_val (hc : c = decide (n ≥ 1)) : move_bottom.f t p (ofI (ls t) p) m c want s e = some (motI (ls t) p n want 9) := by
  have h := lines_of hp
  rw [ls_len] at h
  unfold move_bottom.f
  show _ = some (firstI _ _, true)
  by_cases h1 : n ≥ 1
  · obtain rfl : c = true := by rw [hc]; simpa using h1
    rw [if_pos rfl, w64 (by omega) (by omega), first_val' t true ht, Option.bind_some, if_neg (by omega), show max 0 (min (m - 1) (lcountI (ls t) - 1)) = min (n - 1) (lcountI (ls t) - 1) by omega]
  · obtain rfl : c = false := by rw [hc]; simpa using h1
    rw [if_neg (by simp), last_val t false ht, Option.bind_some, first_val' t false ht, Option.bind_some, if_pos (by omega), show max 0 (min (lcountI (ls t) - 1) (lcountI (ls t) - 1)) = min (lcountI (ls t) - 1) (lcountI (ls t) - 1) by omega]
end
end Go.Proofs.YtbilknmcikmcoaaDoor
/- The contract of move.Go in the printer's form. -/
namespace Go.Proofs.YtbilknmcikmcoaaDoor
open Go.RowKit
set_option linter.unusedVariables false
set_option linter.unusedSimpArgs false
open Go.RowKit Go.Proofs.YtbilknmcikmcoaaDoor.QM Go.Proofs.YtbilknmcikmcoaaDoorW.PrintWords Go.Proofs.YtbilknmcikmcoaaDoorW.PrintMore
set_option maxHeartbeats 4000000 in
set_option maxRecDepth 100000 in
theorem mgo_no (a0 : ByteArray) (a1 : Int) (a2 : ByteArray) (a3 a4 : Int) (w : World) (hJ : motJ a2 = none) :
    Calls Tryd.prog 22 #[.string a0, .int .i64 a1, .string a2, .int .i64 a3, .int .i64 a4] w fun e w' => e = .returned (.tuple #[.int .i64 0, .bool false]) ∧ Ext w w' := by
  have hl : (Instr.lookup 52 (.map (some w.heap.size)) (.string a2) true).run Tryd.prog (w.alloc (.map motA 10)) = .ok (.tuple #[.nilFunc, .bool false]) (w.alloc (.map motA 10)) := by
    have h := lookup_keys w a2
    unfold motV at h
    rw [hJ] at h
    exact h
  clear hJ
  have x1 : Ext w (w.alloc (.map motA 10)) := (Ext.refl _).alloc _
  go_enter Tryd.func22, Tryd.ntmps22
  go_wp2_with (first | (go_at_call 39; refine (keys_c' _).mono ?_; rintro e w1 ⟨rfl, rfl⟩))
  go_ret2
  exact ⟨rfl, (by (repeat (first | exact Ext.refl _ | exact ‹Ext _ _› | refine Ext.alloc ?_ _ | refine Ext.drew ?_ | refine Ext.drewN ?_ _ | (refine Ext.setCell ?_ (by first | omega | (simp; done) | (simp; omega)) _) | refine Ext.trans ?_ ‹Ext _ _›)))⟩
set_option maxHeartbeats 4000000 in
set_option maxRecDepth 100000 in
theorem mgo_off (a0 : ByteArray) (a1 : Int) (a2 : ByteArray) (a3 a4 : Int) (j : Nat) (w : World) (hz : a0.size ≤ 1099511627775) (hJ : motJ a2 = some j) (hp : placeB (ls a0) a1 = false) :
    Calls Tryd.prog 22 #[.string a0, .int .i64 a1, .string a2, .int .i64 a3, .int .i64 a4] w fun e w' => e = .returned (.tuple #[.int .i64 0, .bool false]) ∧ Ext w w' := by
  have hl : (Instr.lookup 52 (.map (some w.heap.size)) (.string a2) true).run Tryd.prog (w.alloc (.map motA 10)) = .ok (.tuple #[.func (.func (motF j)) #[] #[], .bool true]) (w.alloc (.map motA 10)) := by
    have h := lookup_keys w a2
    unfold motV at h
    rw [hJ] at h
    exact h
  clear hJ
  have x1 : Ext w (w.alloc (.map motA 10)) := (Ext.refl _).alloc _
  go_enter Tryd.func22, Tryd.ntmps22
  go_wp2_with (first | (go_at_call 39; refine (keys_c' _).mono ?_; rintro e w1 ⟨rfl, rfl⟩) | (go_at_call 16; refine (place_c _ _ _ (by omega)).mono ?_; rintro e w1 ⟨rfl, hx1⟩))
  go_ret2
  exact ⟨rfl, (by (repeat (first | exact Ext.refl _ | exact ‹Ext _ _› | refine Ext.alloc ?_ _ | refine Ext.drew ?_ | refine Ext.drewN ?_ _ | (refine Ext.setCell ?_ (by first | omega | (simp; done) | (simp; omega)) _) | refine Ext.trans ?_ ‹Ext _ _›)))⟩
theorem motJ_lt {s : ByteArray} {j : Nat} (h : motJ s = some j) : j < 10 := by
  unfold motJ at h
  repeat' (split at h)
  all_goals (cases h <;> omega)
theorem mgo_c (a0 : ByteArray) (a1 : Int) (a2 : ByteArray) (a3 a4 : Int) (w : World) (hz : a0.size ≤ 1000000) (h4 : a4 ≤ 9223372036854775807) :
    Calls Tryd.prog 22 #[.string a0, .int .i64 a1, .string a2, .int .i64 a3, .int .i64 a4] w fun e w' => e = .returned (.tuple #[.int .i64 (goM (ls a0) a1 a2 a3 a4).1, .bool (goM (ls a0) a1 a2 a3 a4).2]) ∧ Ext w w' := by
  cases hJ : motJ a2 with
  | none =>
    have : goM (ls a0) a1 a2 a3 a4 = (0, false) := by unfold goM; rw [hJ]
    rw [this]; exact mgo_no a0 a1 a2 a3 a4 w hJ
  | some j =>
    rcases place_cases a0 a1 with hp | ⟨p, rfl, hle, hp, _⟩
    · have : goM (ls a0) a1 a2 a3 a4 = (0, false) := by unfold goM; rw [hJ]; simp only [hp]; rfl
      rw [this]; exact mgo_off a0 a1 a2 a3 a4 j w (by omega) hJ hp
    · have hg : goM (ls a0) p a2 a3 a4 = motI (ls a0) p a3 a4 j := by unfold goM; rw [hJ]; simp only [hp]; rfl
      rw [hg]
      have hm : mx (mn a3 (wrap64 ((a0.size : Int) + 2))) 1 = max (min a3 (a0.size + 2)) 1 := by rw [w64 (by omega) (by omega), mx_eq, mn_eq]
      have A10 : Aside0 (utf_Place.f a0 p = some true) := ⟨by rw [utf_Place.eq a0 p (by omega), hp]⟩
      have A13 : Aside0 (line_Of.f a0 p = some (ofI (ls a0) p)) := ⟨line_Of.eq a0 p (by omega)⟩
      have A16 : Aside0 (line_Start.f a0 (ofI (ls a0) p) = some (startI (ls a0) (ofI (ls a0) p))) := ⟨line_Start.eq a0 _ (by omega)⟩
      have A17 : Aside0 (line_End.f a0 (ofI (ls a0) p) = some (endI (ls a0) (ofI (ls a0) p))) := ⟨line_End.eq a0 _ (by omega)⟩
      have hj := motJ_lt hJ
      match j, hj, hJ with
      | 0, _, hJ =>
        obtain ⟨K, hK⟩ := (m0_ev a0 p a3 a4 (endI (ls a0) (ofI (ls a0) p)) _ (decide (a3 ≥ 1)) hz hp hm)
        have hK := hK K (Nat.le_refl _)
        exact mgo_0 K a0 p a2 a3 a4 _ _ _ _ _ _ _ w hJ A10 A13 A16 A17 rfl rfl ⟨hK⟩
      | 1, _, hJ =>
        obtain ⟨K, hK⟩ := (m1_ev a0 p a3 a4 (startI (ls a0) (ofI (ls a0) p)) _ (decide (a3 ≥ 1)) hz hp hm)
        have hK := hK K (Nat.le_refl _)
        exact mgo_1 K a0 p a2 a3 a4 _ _ _ _ _ _ _ w hJ A10 A13 A16 A17 rfl rfl ⟨hK⟩
      | 2, _, hJ => exact mgo_2 a0 p a2 a3 a4 _ _ _ _ _ _ _ w hJ A10 A13 A16 A17 rfl rfl ⟨m2_val a0 p a3 a4 _ _ _⟩
      | 3, _, hJ => exact mgo_3 a0 p a2 a3 a4 _ _ _ _ _ _ _ w hJ A10 A13 A16 A17 rfl rfl ⟨m3_val a0 p a3 a4 _ _ _ _ hz⟩
      | 4, _, hJ => exact mgo_4 a0 p a2 a3 a4 _ _ _ _ _ _ _ w hJ A10 A13 A16 A17 rfl rfl ⟨m4_val a0 p a3 a4 _ _ _ _ hz hp hm⟩
      | 5, _, hJ => exact mgo_5 a0 p a2 a3 a4 _ _ _ _ _ _ _ w hJ A10 A13 A16 A17 rfl rfl ⟨m5_val a0 p a3 a4 _ _ _ _ hz hp hm⟩
      | 6, _, hJ => exact mgo_6 a0 p a2 a3 a4 _ _ _ _ _ _ _ w hJ A10 A13 A16 A17 rfl rfl ⟨m6_val a0 p a3 a4 _ _ _ _ hz hp hm h4⟩
      | 7, _, hJ => exact mgo_7 a0 p a2 a3 a4 _ _ _ _ _ _ _ w hJ A10 A13 A16 A17 rfl rfl ⟨m7_val a0 p a3 a4 _ _ _ _ hz hp hm h4⟩
      | 8, _, hJ => exact mgo_8 a0 p a2 a3 a4 _ _ _ _ _ _ _ w hJ A10 A13 A16 A17 rfl rfl ⟨m8_val a0 p a3 a4 _ _ _ _ hz hp hm⟩
      | 9, _, hJ => exact mgo_9 a0 p a2 a3 a4 _ _ _ _ _ _ _ w hJ A10 A13 A16 A17 rfl rfl ⟨m9_val a0 p a3 a4 _ _ _ _ hz hp hm rfl⟩
def move_Go.f (a0 : ByteArray) (a1 : Int) (a2 : ByteArray) (a3 : Int) (a4 : Int) : Option (Int × Bool) := if a0.size ≤ 1000000 ∧ a4 ≤ 9223372036854775807 then some ((goM (ls a0) a1 a2 a3 a4).1, (goM (ls a0) a1 a2 a3 a4).2) else none
theorem move_Go.eq (a0 : ByteArray) (a1 : Int) (a2 : ByteArray) (a3 : Int) (a4 : Int) (hg : a0.size ≤ 1000000 ∧ a4 ≤ 9223372036854775807) : move_Go.f a0 a1 a2 a3 a4 = some ((goM (ls a0) a1 a2 a3 a4).1, (goM (ls a0) a1 a2 a3 a4).2) := if_pos hg
theorem move_Go.calls (a0 : ByteArray) (a1 : Int) (a2 : ByteArray) (a3 : Int) (a4 : Int) (r1 : Int) (r2 : Bool) (w : World) (h : move_Go.f a0 a1 a2 a3 a4 = some (r1, r2)) : Calls Tryd.prog 22 #[.string a0, .int .i64 a1, .string a2, .int .i64 a3, .int .i64 a4] w fun e w' => e = .returned (.tuple #[.int .i64 r1, .bool r2]) ∧ Below w.heap.size w w' := by
  unfold move_Go.f at h
  split at h
  · cases h; exact (by rename_i hg; exact mgo_c a0 a1 a2 a3 a4 w hg.1 hg.2)
  · cases h
end Go.Proofs.YtbilknmcikmcoaaDoor
/- The contract of move.Has in the printer's form. -/
namespace Go.Proofs.YtbilknmcikmcoaaDoor
open Go.RowKit
set_option linter.unusedVariables false
set_option linter.unusedSimpArgs false
def move_Has.f (a0 : ByteArray) : Option (Bool) := some ((motJ a0).isSome)
theorem move_Has.eq (a0 : ByteArray) : move_Has.f a0 = some ((motJ a0).isSome) := rfl
theorem move_Has.calls (a0 : ByteArray) (r : Bool) (w : World) (h : move_Has.f a0 = some r) : Calls Tryd.prog 24 #[.string a0] w fun e w' => e = .returned (.bool r) ∧ Below w.heap.size w w' := by
  unfold move_Has.f at h
  cases h; exact has_c a0 w
end Go.Proofs.YtbilknmcikmcoaaDoor
-- Printed by this work's xp.py out of the translation. Lean checks it.
namespace Go.Proofs.YtbilknmcikmcoaaDoor.QO
open Go.RowKit Go.Proofs.YtbilknmcikmcoaaDoorW.PrintWords Go.Proofs.YtbilknmcikmcoaaDoorW.PrintLast Go.Proofs.YtbilknmcikmcoaaDoorW.PrintMore
attribute [local go_sem] max2_int min2_int max_two min_two max_three min_three max_four min_four   -- for this text's walks alone
set_option linter.unusedVariables false
set_option linter.unusedSimpArgs false




/-! ### calamuslaw14_lives -/
def calamuslaw14_lives.f  : Option (Bool) := (move_Go.f (⟨#[97, 98, 10, 99, 100]⟩ : ByteArray) 0 (⟨#[106]⟩ : ByteArray) 0 1).bind fun bt101 => ((move_Go.f (⟨#[97, 98, 10, 99, 100]⟩ : ByteArray) 0 (⟨#[108]⟩ : ByteArray) 9 0).bind fun bt103 => (if bt101.1 = 4 then (if bt101.2 = true then (if bt103.1 = 2 then (if bt103.2 = true then ((move_Has.f (⟨#[103, 103]⟩ : ByteArray)).bind fun t105 => (if t105 = true then ((move_Has.f (⟨#[103]⟩ : ByteArray)).bind fun t106 => (some (!t106))) else (some false))) else (some false)) else (some false)) else (some false)) else (some false)))
set_option maxHeartbeats 8000000 in
set_option maxRecDepth 100000 in
theorem calamuslaw14_lives.calls  (r : Bool) (w : World) (h : calamuslaw14_lives.f  = some r) :
    Calls Tryd.prog 21 #[] w fun e w' => e = .returned (.bool r) ∧ Below w.heap.size w w' := by
  have HB := Aside0.mk (Below.refl w.heap.size w)
  have H : ((move_Go.f (⟨#[97, 98, 10, 99, 100]⟩ : ByteArray) 0 (⟨#[106]⟩ : ByteArray) 0 1).bind fun bt101 => ((move_Go.f (⟨#[97, 98, 10, 99, 100]⟩ : ByteArray) 0 (⟨#[108]⟩ : ByteArray) 9 0).bind fun bt103 => (if bt101.1 = 4 then (if bt101.2 = true then (if bt103.1 = 2 then (if bt103.2 = true then ((move_Has.f (⟨#[103, 103]⟩ : ByteArray)).bind fun t105 => (if t105 = true then ((move_Has.f (⟨#[103]⟩ : ByteArray)).bind fun t106 => (some (!t106))) else (some false))) else (some false)) else (some false)) else (some false)) else (some false)))) = some r := h
  clear h
  replace H := Option.bind_eq_some_iff.mp H
  obtain ⟨⟨t101, t102⟩, A10, H⟩ := H
  replace H : ((move_Go.f (⟨#[97, 98, 10, 99, 100]⟩ : ByteArray) 0 (⟨#[108]⟩ : ByteArray) 9 0).bind fun bt103 => (if t101 = 4 then (if t102 = true then (if bt103.1 = 2 then (if bt103.2 = true then ((move_Has.f (⟨#[103, 103]⟩ : ByteArray)).bind fun t105 => (if t105 = true then ((move_Has.f (⟨#[103]⟩ : ByteArray)).bind fun t106 => (some (!t106))) else (some false))) else (some false)) else (some false)) else (some false)) else (some false))) = some r := H
  have A1 := Aside0.mk A10
  clear A10
  replace H := Option.bind_eq_some_iff.mp H
  obtain ⟨⟨t103, t104⟩, A20, H⟩ := H
  replace H : (if t101 = 4 then (if t102 = true then (if t103 = 2 then (if t104 = true then ((move_Has.f (⟨#[103, 103]⟩ : ByteArray)).bind fun t105 => (if t105 = true then ((move_Has.f (⟨#[103]⟩ : ByteArray)).bind fun t106 => (some (!t106))) else (some false))) else (some false)) else (some false)) else (some false)) else (some false)) = some r := H
  have A2 := Aside0.mk A20
  clear A20
  by_cases c3 : t101 = 4
  · rw [if_pos c3] at H
    have c3b0 : (t101 == 4) = true := beq_iff_eq.mpr c3
    have c3b1 : (t101 != 4) = false := bne_eq_false_iff_eq.mpr c3
    clear c3
    by_cases c4 : t102 = true
    · subst c4
      have H1 : (if t103 = 2 then (if t104 = true then ((move_Has.f (⟨#[103, 103]⟩ : ByteArray)).bind fun t105 => (if t105 = true then ((move_Has.f (⟨#[103]⟩ : ByteArray)).bind fun t106 => (some (!t106))) else (some false))) else (some false)) else (some false)) = some r := by rw [if_pos rfl] at H; exact H
      clear H
      have H := H1
      clear H1
      by_cases c5 : t103 = 2
      · rw [if_pos c5] at H
        have c5b0 : (t103 == 2) = true := beq_iff_eq.mpr c5
        have c5b1 : (t103 != 2) = false := bne_eq_false_iff_eq.mpr c5
        clear c5
        by_cases c6 : t104 = true
        · subst c6
          have H1 : ((move_Has.f (⟨#[103, 103]⟩ : ByteArray)).bind fun t105 => (if t105 = true then ((move_Has.f (⟨#[103]⟩ : ByteArray)).bind fun t106 => (some (!t106))) else (some false))) = some r := by rw [if_pos rfl] at H; exact H
          clear H
          have H := H1
          clear H1
          replace H := Option.bind_eq_some_iff.mp H
          obtain ⟨t105, A70, H⟩ := H
          replace H : (if t105 = true then ((move_Has.f (⟨#[103]⟩ : ByteArray)).bind fun t106 => (some (!t106))) else (some false)) = some r := H
          have A7 := Aside0.mk A70
          clear A70
          by_cases c8 : t105 = true
          · subst c8
            have H1 : ((move_Has.f (⟨#[103]⟩ : ByteArray)).bind fun t106 => (some (!t106))) = some r := by rw [if_pos rfl] at H; exact H
            clear H
            have H := H1
            clear H1
            replace H := Option.bind_eq_some_iff.mp H
            obtain ⟨t106, A90, H⟩ := H
            replace H : (some (!t106)) = some r := H
            have A9 := Aside0.mk A90
            clear A90
            obtain rfl := Option.some.inj H
            go_enter Tryd.func21, Tryd.ntmps21
            go_wp2_with (first | ((with_reducible refine gate_callee (f := 22) rfl ?_); refine goesL_ (some 6) rfl rfl Tryd.func22 (by kernel_rfl) rfl #[.string (⟨#[97, 98, 10, 99, 100]⟩ : ByteArray), .int .i64 0, .string (⟨#[106]⟩ : ByteArray), .int .i64 0, .int .i64 1] rfl (by (try simp only [List.map_toArray, List.map_cons, List.map_nil]); first | done | rfl | (simp only [List.length_drop, List.length_take]; rfl)) ?_; (with_reducible refine (move_Go.calls (⟨#[97, 98, 10, 99, 100]⟩ : ByteArray) 0 (⟨#[106]⟩ : ByteArray) 0 1 t101 true _ A1.out).mono ?_); rintro e w10 ⟨rfl, hb⟩; refine ⟨_, rfl, ?_⟩; have n0_ := Aside0.mk (below_step (by repeat (first | (with_reducible first | exact HB.out | apply below_alloc | apply pw_below_drewN | apply below_drew1) | exact HB.out)) hb); clear HB; have HB := n0_; clear n0_; (try clear hb); (try clear hb2); (try clear hk); (try clear hi)) | ((with_reducible refine gate_callee (f := 22) rfl ?_); refine goesL_ (some 10) rfl rfl Tryd.func22 (by kernel_rfl) rfl #[.string (⟨#[97, 98, 10, 99, 100]⟩ : ByteArray), .int .i64 0, .string (⟨#[108]⟩ : ByteArray), .int .i64 9, .int .i64 0] rfl (by (try simp only [List.map_toArray, List.map_cons, List.map_nil]); first | done | rfl | (simp only [List.length_drop, List.length_take]; rfl)) ?_; (with_reducible refine (move_Go.calls (⟨#[97, 98, 10, 99, 100]⟩ : ByteArray) 0 (⟨#[108]⟩ : ByteArray) 9 0 t103 true _ A2.out).mono ?_); rintro e w11 ⟨rfl, hb⟩; refine ⟨_, rfl, ?_⟩; have n0_ := Aside0.mk (below_step (by repeat (first | (with_reducible first | exact HB.out | apply below_alloc | apply pw_below_drewN | apply below_drew1) | exact HB.out)) hb); clear HB; have HB := n0_; clear n0_; (try clear hb); (try clear hb2); (try clear hk); (try clear hi)) | (go_at_call 24; (with_reducible refine (move_Has.calls (⟨#[103, 103]⟩ : ByteArray) true _ A7.out).mono ?_); rintro e w12 ⟨rfl, hb⟩; have n0_ := Aside0.mk (below_step (by repeat (first | (with_reducible first | exact HB.out | apply below_alloc | apply pw_below_drewN | apply below_drew1) | exact HB.out)) hb); clear HB; have HB := n0_; clear n0_; (try clear hb); (try clear hb2); (try clear hk); (try clear hi)) | (go_at_call 24; (with_reducible refine (move_Has.calls (⟨#[103]⟩ : ByteArray) t106 _ A9.out).mono ?_); rintro e w13 ⟨rfl, hb⟩; have n0_ := Aside0.mk (below_step (by repeat (first | (with_reducible first | exact HB.out | apply below_alloc | apply pw_below_drewN | apply below_drew1) | exact HB.out)) hb); clear HB; have HB := n0_; clear n0_; (try clear hb); (try clear hb2); (try clear hk); (try clear hi)))
            go_ret
            exact ⟨by first | rfl | (simp [errW_none, errW_some] <;> rfl) | (simp [*, errW_none, errW_some] <;> rfl), by repeat (first | (with_reducible first | exact HB.out | apply below_alloc | apply pw_below_drewN | apply below_drew1) | exact HB.out)⟩
          · replace c8 := Bool.eq_false_iff.mpr c8
            subst c8
            have H1 : (some false) = some r := by rw [if_neg (show ¬ (false = true) by decide)] at H; exact H
            clear H
            have H := H1
            clear H1
            obtain rfl := Option.some.inj H
            go_enter Tryd.func21, Tryd.ntmps21
            go_wp2_with (first | ((with_reducible refine gate_callee (f := 22) rfl ?_); refine goesL_ (some 6) rfl rfl Tryd.func22 (by kernel_rfl) rfl #[.string (⟨#[97, 98, 10, 99, 100]⟩ : ByteArray), .int .i64 0, .string (⟨#[106]⟩ : ByteArray), .int .i64 0, .int .i64 1] rfl (by (try simp only [List.map_toArray, List.map_cons, List.map_nil]); first | done | rfl | (simp only [List.length_drop, List.length_take]; rfl)) ?_; (with_reducible refine (move_Go.calls (⟨#[97, 98, 10, 99, 100]⟩ : ByteArray) 0 (⟨#[106]⟩ : ByteArray) 0 1 t101 true _ A1.out).mono ?_); rintro e w14 ⟨rfl, hb⟩; refine ⟨_, rfl, ?_⟩; have n0_ := Aside0.mk (below_step (by repeat (first | (with_reducible first | exact HB.out | apply below_alloc | apply pw_below_drewN | apply below_drew1) | exact HB.out)) hb); clear HB; have HB := n0_; clear n0_; (try clear hb); (try clear hb2); (try clear hk); (try clear hi)) | ((with_reducible refine gate_callee (f := 22) rfl ?_); refine goesL_ (some 10) rfl rfl Tryd.func22 (by kernel_rfl) rfl #[.string (⟨#[97, 98, 10, 99, 100]⟩ : ByteArray), .int .i64 0, .string (⟨#[108]⟩ : ByteArray), .int .i64 9, .int .i64 0] rfl (by (try simp only [List.map_toArray, List.map_cons, List.map_nil]); first | done | rfl | (simp only [List.length_drop, List.length_take]; rfl)) ?_; (with_reducible refine (move_Go.calls (⟨#[97, 98, 10, 99, 100]⟩ : ByteArray) 0 (⟨#[108]⟩ : ByteArray) 9 0 t103 true _ A2.out).mono ?_); rintro e w15 ⟨rfl, hb⟩; refine ⟨_, rfl, ?_⟩; have n0_ := Aside0.mk (below_step (by repeat (first | (with_reducible first | exact HB.out | apply below_alloc | apply pw_below_drewN | apply below_drew1) | exact HB.out)) hb); clear HB; have HB := n0_; clear n0_; (try clear hb); (try clear hb2); (try clear hk); (try clear hi)) | (go_at_call 24; (with_reducible refine (move_Has.calls (⟨#[103, 103]⟩ : ByteArray) false _ A7.out).mono ?_); rintro e w16 ⟨rfl, hb⟩; have n0_ := Aside0.mk (below_step (by repeat (first | (with_reducible first | exact HB.out | apply below_alloc | apply pw_below_drewN | apply below_drew1) | exact HB.out)) hb); clear HB; have HB := n0_; clear n0_; (try clear hb); (try clear hb2); (try clear hk); (try clear hi)))
            go_ret
            exact ⟨by first | rfl | (simp [errW_none, errW_some] <;> rfl) | (simp [*, errW_none, errW_some] <;> rfl), by repeat (first | (with_reducible first | exact HB.out | apply below_alloc | apply pw_below_drewN | apply below_drew1) | exact HB.out)⟩
        · replace c6 := Bool.eq_false_iff.mpr c6
          subst c6
          have H1 : (some false) = some r := by rw [if_neg (show ¬ (false = true) by decide)] at H; exact H
          clear H
          have H := H1
          clear H1
          obtain rfl := Option.some.inj H
          go_enter Tryd.func21, Tryd.ntmps21
          go_wp2_with (first | ((with_reducible refine gate_callee (f := 22) rfl ?_); refine goesL_ (some 6) rfl rfl Tryd.func22 (by kernel_rfl) rfl #[.string (⟨#[97, 98, 10, 99, 100]⟩ : ByteArray), .int .i64 0, .string (⟨#[106]⟩ : ByteArray), .int .i64 0, .int .i64 1] rfl (by (try simp only [List.map_toArray, List.map_cons, List.map_nil]); first | done | rfl | (simp only [List.length_drop, List.length_take]; rfl)) ?_; (with_reducible refine (move_Go.calls (⟨#[97, 98, 10, 99, 100]⟩ : ByteArray) 0 (⟨#[106]⟩ : ByteArray) 0 1 t101 true _ A1.out).mono ?_); rintro e w17 ⟨rfl, hb⟩; refine ⟨_, rfl, ?_⟩; have n0_ := Aside0.mk (below_step (by repeat (first | (with_reducible first | exact HB.out | apply below_alloc | apply pw_below_drewN | apply below_drew1) | exact HB.out)) hb); clear HB; have HB := n0_; clear n0_; (try clear hb); (try clear hb2); (try clear hk); (try clear hi)) | ((with_reducible refine gate_callee (f := 22) rfl ?_); refine goesL_ (some 10) rfl rfl Tryd.func22 (by kernel_rfl) rfl #[.string (⟨#[97, 98, 10, 99, 100]⟩ : ByteArray), .int .i64 0, .string (⟨#[108]⟩ : ByteArray), .int .i64 9, .int .i64 0] rfl (by (try simp only [List.map_toArray, List.map_cons, List.map_nil]); first | done | rfl | (simp only [List.length_drop, List.length_take]; rfl)) ?_; (with_reducible refine (move_Go.calls (⟨#[97, 98, 10, 99, 100]⟩ : ByteArray) 0 (⟨#[108]⟩ : ByteArray) 9 0 t103 false _ A2.out).mono ?_); rintro e w18 ⟨rfl, hb⟩; refine ⟨_, rfl, ?_⟩; have n0_ := Aside0.mk (below_step (by repeat (first | (with_reducible first | exact HB.out | apply below_alloc | apply pw_below_drewN | apply below_drew1) | exact HB.out)) hb); clear HB; have HB := n0_; clear n0_; (try clear hb); (try clear hb2); (try clear hk); (try clear hi)))
          go_ret
          exact ⟨by first | rfl | (simp [errW_none, errW_some] <;> rfl) | (simp [*, errW_none, errW_some] <;> rfl), by repeat (first | (with_reducible first | exact HB.out | apply below_alloc | apply pw_below_drewN | apply below_drew1) | exact HB.out)⟩
      · rw [if_neg c5] at H
        have c5b0 : (t103 == 2) = false := beq_eq_false_iff_ne.mpr c5
        have c5b1 : (t103 != 2) = true := bne_iff_ne.mpr c5
        obtain rfl := Option.some.inj H
        go_enter Tryd.func21, Tryd.ntmps21
        go_wp2_with (first | ((with_reducible refine gate_callee (f := 22) rfl ?_); refine goesL_ (some 6) rfl rfl Tryd.func22 (by kernel_rfl) rfl #[.string (⟨#[97, 98, 10, 99, 100]⟩ : ByteArray), .int .i64 0, .string (⟨#[106]⟩ : ByteArray), .int .i64 0, .int .i64 1] rfl (by (try simp only [List.map_toArray, List.map_cons, List.map_nil]); first | done | rfl | (simp only [List.length_drop, List.length_take]; rfl)) ?_; (with_reducible refine (move_Go.calls (⟨#[97, 98, 10, 99, 100]⟩ : ByteArray) 0 (⟨#[106]⟩ : ByteArray) 0 1 t101 true _ A1.out).mono ?_); rintro e w19 ⟨rfl, hb⟩; refine ⟨_, rfl, ?_⟩; have n0_ := Aside0.mk (below_step (by repeat (first | (with_reducible first | exact HB.out | apply below_alloc | apply pw_below_drewN | apply below_drew1) | exact HB.out)) hb); clear HB; have HB := n0_; clear n0_; (try clear hb); (try clear hb2); (try clear hk); (try clear hi)) | ((with_reducible refine gate_callee (f := 22) rfl ?_); refine goesL_ (some 10) rfl rfl Tryd.func22 (by kernel_rfl) rfl #[.string (⟨#[97, 98, 10, 99, 100]⟩ : ByteArray), .int .i64 0, .string (⟨#[108]⟩ : ByteArray), .int .i64 9, .int .i64 0] rfl (by (try simp only [List.map_toArray, List.map_cons, List.map_nil]); first | done | rfl | (simp only [List.length_drop, List.length_take]; rfl)) ?_; (with_reducible refine (move_Go.calls (⟨#[97, 98, 10, 99, 100]⟩ : ByteArray) 0 (⟨#[108]⟩ : ByteArray) 9 0 t103 t104 _ A2.out).mono ?_); rintro e w20 ⟨rfl, hb⟩; refine ⟨_, rfl, ?_⟩; have n0_ := Aside0.mk (below_step (by repeat (first | (with_reducible first | exact HB.out | apply below_alloc | apply pw_below_drewN | apply below_drew1) | exact HB.out)) hb); clear HB; have HB := n0_; clear n0_; (try clear hb); (try clear hb2); (try clear hk); (try clear hi)))
        go_ret
        exact ⟨by first | rfl | (simp [errW_none, errW_some] <;> rfl) | (simp [*, errW_none, errW_some] <;> rfl), by repeat (first | (with_reducible first | exact HB.out | apply below_alloc | apply pw_below_drewN | apply below_drew1) | exact HB.out)⟩
    · replace c4 := Bool.eq_false_iff.mpr c4
      subst c4
      have H1 : (some false) = some r := by rw [if_neg (show ¬ (false = true) by decide)] at H; exact H
      clear H
      have H := H1
      clear H1
      obtain rfl := Option.some.inj H
      go_enter Tryd.func21, Tryd.ntmps21
      go_wp2_with (first | ((with_reducible refine gate_callee (f := 22) rfl ?_); refine goesL_ (some 6) rfl rfl Tryd.func22 (by kernel_rfl) rfl #[.string (⟨#[97, 98, 10, 99, 100]⟩ : ByteArray), .int .i64 0, .string (⟨#[106]⟩ : ByteArray), .int .i64 0, .int .i64 1] rfl (by (try simp only [List.map_toArray, List.map_cons, List.map_nil]); first | done | rfl | (simp only [List.length_drop, List.length_take]; rfl)) ?_; (with_reducible refine (move_Go.calls (⟨#[97, 98, 10, 99, 100]⟩ : ByteArray) 0 (⟨#[106]⟩ : ByteArray) 0 1 t101 false _ A1.out).mono ?_); rintro e w21 ⟨rfl, hb⟩; refine ⟨_, rfl, ?_⟩; have n0_ := Aside0.mk (below_step (by repeat (first | (with_reducible first | exact HB.out | apply below_alloc | apply pw_below_drewN | apply below_drew1) | exact HB.out)) hb); clear HB; have HB := n0_; clear n0_; (try clear hb); (try clear hb2); (try clear hk); (try clear hi)) | ((with_reducible refine gate_callee (f := 22) rfl ?_); refine goesL_ (some 10) rfl rfl Tryd.func22 (by kernel_rfl) rfl #[.string (⟨#[97, 98, 10, 99, 100]⟩ : ByteArray), .int .i64 0, .string (⟨#[108]⟩ : ByteArray), .int .i64 9, .int .i64 0] rfl (by (try simp only [List.map_toArray, List.map_cons, List.map_nil]); first | done | rfl | (simp only [List.length_drop, List.length_take]; rfl)) ?_; (with_reducible refine (move_Go.calls (⟨#[97, 98, 10, 99, 100]⟩ : ByteArray) 0 (⟨#[108]⟩ : ByteArray) 9 0 t103 t104 _ A2.out).mono ?_); rintro e w22 ⟨rfl, hb⟩; refine ⟨_, rfl, ?_⟩; have n0_ := Aside0.mk (below_step (by repeat (first | (with_reducible first | exact HB.out | apply below_alloc | apply pw_below_drewN | apply below_drew1) | exact HB.out)) hb); clear HB; have HB := n0_; clear n0_; (try clear hb); (try clear hb2); (try clear hk); (try clear hi)))
      go_ret
      exact ⟨by first | rfl | (simp [errW_none, errW_some] <;> rfl) | (simp [*, errW_none, errW_some] <;> rfl), by repeat (first | (with_reducible first | exact HB.out | apply below_alloc | apply pw_below_drewN | apply below_drew1) | exact HB.out)⟩
  · rw [if_neg c3] at H
    have c3b0 : (t101 == 4) = false := beq_eq_false_iff_ne.mpr c3
    have c3b1 : (t101 != 4) = true := bne_iff_ne.mpr c3
    obtain rfl := Option.some.inj H
    go_enter Tryd.func21, Tryd.ntmps21
    go_wp2_with (first | ((with_reducible refine gate_callee (f := 22) rfl ?_); refine goesL_ (some 6) rfl rfl Tryd.func22 (by kernel_rfl) rfl #[.string (⟨#[97, 98, 10, 99, 100]⟩ : ByteArray), .int .i64 0, .string (⟨#[106]⟩ : ByteArray), .int .i64 0, .int .i64 1] rfl (by (try simp only [List.map_toArray, List.map_cons, List.map_nil]); first | done | rfl | (simp only [List.length_drop, List.length_take]; rfl)) ?_; (with_reducible refine (move_Go.calls (⟨#[97, 98, 10, 99, 100]⟩ : ByteArray) 0 (⟨#[106]⟩ : ByteArray) 0 1 t101 t102 _ A1.out).mono ?_); rintro e w23 ⟨rfl, hb⟩; refine ⟨_, rfl, ?_⟩; have n0_ := Aside0.mk (below_step (by repeat (first | (with_reducible first | exact HB.out | apply below_alloc | apply pw_below_drewN | apply below_drew1) | exact HB.out)) hb); clear HB; have HB := n0_; clear n0_; (try clear hb); (try clear hb2); (try clear hk); (try clear hi)) | ((with_reducible refine gate_callee (f := 22) rfl ?_); refine goesL_ (some 10) rfl rfl Tryd.func22 (by kernel_rfl) rfl #[.string (⟨#[97, 98, 10, 99, 100]⟩ : ByteArray), .int .i64 0, .string (⟨#[108]⟩ : ByteArray), .int .i64 9, .int .i64 0] rfl (by (try simp only [List.map_toArray, List.map_cons, List.map_nil]); first | done | rfl | (simp only [List.length_drop, List.length_take]; rfl)) ?_; (with_reducible refine (move_Go.calls (⟨#[97, 98, 10, 99, 100]⟩ : ByteArray) 0 (⟨#[108]⟩ : ByteArray) 9 0 t103 t104 _ A2.out).mono ?_); rintro e w24 ⟨rfl, hb⟩; refine ⟨_, rfl, ?_⟩; have n0_ := Aside0.mk (below_step (by repeat (first | (with_reducible first | exact HB.out | apply below_alloc | apply pw_below_drewN | apply below_drew1) | exact HB.out)) hb); clear HB; have HB := n0_; clear n0_; (try clear hb); (try clear hb2); (try clear hk); (try clear hi)))
    go_ret
    exact ⟨by first | rfl | (simp [errW_none, errW_some] <;> rfl) | (simp [*, errW_none, errW_some] <;> rfl), by repeat (first | (with_reducible first | exact HB.out | apply below_alloc | apply pw_below_drewN | apply below_drew1) | exact HB.out)⟩

/-! ### calamusref14_Has -/
def calamusref14_Has.l0 : Nat → ByteArray → List ByteArray → Int → Int → Option (Bool)
  | 0, _, _, _, _ => none
  | k + 1, x0, x5, x6, x7 => if x7 < x6 then (if 0 ≤ x7 then (if x7 < (x5.length : Int) then (if (rdOf ByteArray.empty x5 x7).toList = x0.toList then (some true) else (calamusref14_Has.l0 k x0 x5 x6 (wrap64 (x7 + 1)))) else (none)) else (none)) else (some false)
def calamusref14_Has.f (k : Nat) (a0 : ByteArray) : Option (Bool) := (some (([(⟨#[104]⟩ : ByteArray), (⟨#[108]⟩ : ByteArray), (⟨#[48]⟩ : ByteArray), (⟨#[94]⟩ : ByteArray), (⟨#[36]⟩ : ByteArray), (⟨#[124]⟩ : ByteArray), (⟨#[106]⟩ : ByteArray), (⟨#[107]⟩ : ByteArray), (⟨#[103, 103]⟩ : ByteArray), (⟨#[71]⟩ : ByteArray)] : List ByteArray) : List ByteArray)).bind fun y107 => (calamusref14_Has.l0 k a0 y107 (y107.length : Int) 0)
theorem calamusref14_Has.mono_l : ∀ k, (∀ y0 y1 y2 y3, LeO (calamusref14_Has.l0 k y0 y1 y2 y3) (calamusref14_Has.l0 (k + 1) y0 y1 y2 y3))
  | 0 => fun _ _ _ _ r h => by simp [calamusref14_Has.l0] at h
  | k + 1 => by
    have ih0 := calamusref14_Has.mono_l k
    · intro y0 y1 y2 y3
      unfold calamusref14_Has.l0
      repeat' first
      | (with_reducible exact ih0 _ _ _ _)
      | (with_reducible exact LeO.refl _)
      | (with_reducible exact LeO.none _)
      | (with_reducible refine LeO.ite ?_ ?_)
      | (with_reducible refine LeO.bind ?_ (fun _ => ?_))
      | exact ih0 _ _ _ _
      | exact LeO.none _
      | refine LeO.ite ?_ ?_
      | refine LeO.bind ?_ (fun _ => ?_)
theorem calamusref14_Has.mono : ∀ a0 k, LeO (calamusref14_Has.f k a0) (calamusref14_Has.f (k + 1) a0) := by
  intro a0 k
  have ih0 := calamusref14_Has.mono_l k
  unfold calamusref14_Has.f
  repeat' first
      | (with_reducible exact ih0 _ _ _ _)
      | (with_reducible exact LeO.refl _)
      | (with_reducible exact LeO.none _)
      | (with_reducible refine LeO.ite ?_ ?_)
      | (with_reducible refine LeO.bind ?_ (fun _ => ?_))
      | exact ih0 _ _ _ _
      | exact LeO.none _
      | refine LeO.ite ?_ ?_
      | refine LeO.bind ?_ (fun _ => ?_)
set_option maxHeartbeats 8000000 in
set_option maxRecDepth 100000 in
theorem calamusref14_Has.calls (k : Nat) (a0 : ByteArray) (r : Bool) (w : World) (h : calamusref14_Has.f k a0 = some r) :
    Calls Tryd.prog 25 #[.string a0] w fun e w' => e = .returned (.bool r) ∧ Below w.heap.size w w' := by
  have HB := Aside0.mk (Below.refl w.heap.size w)
  have H : ((some (([(⟨#[104]⟩ : ByteArray), (⟨#[108]⟩ : ByteArray), (⟨#[48]⟩ : ByteArray), (⟨#[94]⟩ : ByteArray), (⟨#[36]⟩ : ByteArray), (⟨#[124]⟩ : ByteArray), (⟨#[106]⟩ : ByteArray), (⟨#[107]⟩ : ByteArray), (⟨#[103, 103]⟩ : ByteArray), (⟨#[71]⟩ : ByteArray)] : List ByteArray) : List ByteArray)).bind fun y107 => (calamusref14_Has.l0 k a0 y107 (y107.length : Int) 0)) = some r := h
  clear h
  obtain ⟨y107, hy107⟩ : ∃ y_ : List ByteArray, y_ = (([(⟨#[104]⟩ : ByteArray), (⟨#[108]⟩ : ByteArray), (⟨#[48]⟩ : ByteArray), (⟨#[94]⟩ : ByteArray), (⟨#[36]⟩ : ByteArray), (⟨#[124]⟩ : ByteArray), (⟨#[106]⟩ : ByteArray), (⟨#[107]⟩ : ByteArray), (⟨#[103, 103]⟩ : ByteArray), (⟨#[71]⟩ : ByteArray)] : List ByteArray)) := ⟨_, rfl⟩
  replace H : (calamusref14_Has.l0 k a0 y107 (y107.length : Int) 0) = some r := by first | (rw [hy107]; with_reducible exact H) | (have H2_ := (Option.bind_some _ _).symm.trans H; rw [hy107]; with_reducible exact H2_) | (have H2_ := (Option.bind_some _ _).symm.trans H; with_reducible exact H2_) | with_reducible exact H | (rw [hy107]; exact H) | exact H
  have Ny107 := Aside0.mk hy107
  clear hy107
  have H' := Aside0.mk H
  clear H
  go_enter Tryd.func25, Tryd.ntmps25
  go_wp2_with (first | ((with_reducible refine gate_dst (N := 5) rfl ?_); refine Kd.R_lit Kd.string _ 9 ?hg (N := 5) ?hd (xs := ([(⟨#[104]⟩ : ByteArray), (⟨#[108]⟩ : ByteArray), (⟨#[48]⟩ : ByteArray), (⟨#[94]⟩ : ByteArray), (⟨#[36]⟩ : ByteArray), (⟨#[124]⟩ : ByteArray), (⟨#[106]⟩ : ByteArray), (⟨#[107]⟩ : ByteArray), (⟨#[103, 103]⟩ : ByteArray), (⟨#[71]⟩ : ByteArray)] : List ByteArray)) (inner := [.string (⟨#[104]⟩ : ByteArray), .string (⟨#[108]⟩ : ByteArray), .string (⟨#[48]⟩ : ByteArray), .string (⟨#[94]⟩ : ByteArray), .string (⟨#[36]⟩ : ByteArray), .string (⟨#[124]⟩ : ByteArray), .string (⟨#[106]⟩ : ByteArray), .string (⟨#[107]⟩ : ByteArray), .string (⟨#[103, 103]⟩ : ByteArray), .string (⟨#[71]⟩ : ByteArray)]) (ok := fun _ => True) (okp := fun _ => True) ?hr ?hp (fun _ hk => hk) trivial (Below.refl _ _) (Nat.le_refl _) (by simp) ?_; (case hd => rfl); (case hg => rfl); (case hr => first | (go_simp; done) | (go_simp; rfl)); (case hp => exact (Reps.one (show Kd.M Kd.string _ _ _ (⟨#[104]⟩ : ByteArray) [.string (⟨#[104]⟩ : ByteArray)] from rfl) (Reps.one (show Kd.M Kd.string _ _ _ (⟨#[108]⟩ : ByteArray) [.string (⟨#[108]⟩ : ByteArray)] from rfl) (Reps.one (show Kd.M Kd.string _ _ _ (⟨#[48]⟩ : ByteArray) [.string (⟨#[48]⟩ : ByteArray)] from rfl) (Reps.one (show Kd.M Kd.string _ _ _ (⟨#[94]⟩ : ByteArray) [.string (⟨#[94]⟩ : ByteArray)] from rfl) (Reps.one (show Kd.M Kd.string _ _ _ (⟨#[36]⟩ : ByteArray) [.string (⟨#[36]⟩ : ByteArray)] from rfl) (Reps.one (show Kd.M Kd.string _ _ _ (⟨#[124]⟩ : ByteArray) [.string (⟨#[124]⟩ : ByteArray)] from rfl) (Reps.one (show Kd.M Kd.string _ _ _ (⟨#[106]⟩ : ByteArray) [.string (⟨#[106]⟩ : ByteArray)] from rfl) (Reps.one (show Kd.M Kd.string _ _ _ (⟨#[107]⟩ : ByteArray) [.string (⟨#[107]⟩ : ByteArray)] from rfl) (Reps.one (show Kd.M Kd.string _ _ _ (⟨#[103, 103]⟩ : ByteArray) [.string (⟨#[103, 103]⟩ : ByteArray)] from rfl) (Reps.one (show Kd.M Kd.string _ _ _ (⟨#[71]⟩ : ByteArray) [.string (⟨#[71]⟩ : ByteArray)] from rfl) (Reps.none _ _)))))))))))); intro v108 w2 ho3 hb hg_ hnew_; clear hg_ hnew_; (first | rw [← Ny107.out] at ho3 | (simp only [Int.reduceToNat] at ho3; rw [← Ny107.out] at ho3)); have n0_ := Aside0.mk (Kd.R_lower ho3 (below_size (by repeat (first | (with_reducible first | exact HB.out | apply below_alloc | apply pw_below_drewN | apply below_drew1) | exact HB.out)))); have n1_ := Aside0.mk (below_step (by repeat (first | (with_reducible first | exact HB.out | apply below_alloc | apply pw_below_drewN | apply below_drew1) | exact HB.out)) hb); clear HB; have HO109 := n0_; have HB := n1_; clear n0_ n1_; clear hb ho3; obtain ⟨Ao4, co4, eo4⟩ := Kd.R_slice HO109.out; subst eo4))
  go_loopg [7] k (fun kq v7 w' => ∃ (x7_1 : Int), v7 = .int .i64 x7_1 ∧ Aside0 (calamusref14_Has.l0 kq a0 y107 (y107.length : Int) x7_1 = some r) ∧ Aside0 (kq ≤ k) ∧ Aside0 (Kd.R Kd.string 9 w' w.heap.size (fun _ => True) (.slice Ao4 y107.length co4) y107) ∧ Aside0 (Below w.heap.size w w'))
  case atStart => exact ⟨(0), (by first | rfl | (simp; done) | (simp [*]; done)), H', ⟨Nat.le_refl _⟩, ⟨by (with_reducible repeat (first | apply Kd.R_alloc | apply Kd.R_drewN | apply Kd.R_drew)); exact HO109.out⟩, ⟨by repeat (first | (with_reducible first | exact HB.out | apply below_alloc | apply pw_below_drewN | apply below_drew1) | exact HB.out)⟩⟩
  case round =>
    clear H'
    try clear c2
    try clear p2
    obtain ⟨x7_1, rfl, HA, HK1, HO_5, HB⟩ := hrel
    cases gk with
    | zero => exact absurd HA.out (by simp [calamusref14_Has.l0])
    | succ k1 =>
      have H := HA.out
      clear HA
      simp only [calamusref14_Has.l0] at H
      by_cases c5 : x7_1 < (y107.length : Int)
      · rw [if_pos c5] at H
        have c5b0 : decide (x7_1 < (y107.length : Int)) = true := decide_eq_true c5
        clear c5
        by_cases c6 : 0 ≤ x7_1
        · rw [if_pos c6] at H
          have c6b0 : decide (0 ≤ x7_1) = true := decide_eq_true c6
          clear c6
          by_cases c7 : x7_1 < (y107.length : Int)
          · rw [if_pos c7] at H
            have c7b0 : decide (x7_1 < (y107.length : Int)) = true := decide_eq_true c7
            clear c7
            by_cases c8 : (rdOf ByteArray.empty y107 x7_1).toList = a0.toList
            · rw [if_pos c8] at H
              have c8b0 : ((rdOf ByteArray.empty y107 x7_1).toList == a0.toList) = true := beq_iff_eq.mpr c8
              have c8b1 : ((rdOf ByteArray.empty y107 x7_1).toList != a0.toList) = false := bne_eq_false_iff_eq.mpr c8
              clear c8
              obtain rfl := Option.some.inj H
              have p110 : 0 ≤ (x7_1 : Int) := of_decide_eq_true (by first | (with_reducible assumption) | assumption)
              have q110 : x7_1 < (y107.length : Int) := of_decide_eq_true (by first | (with_reducible assumption) | assumption)
              obtain ⟨ad110, e110, hx110_0⟩ := Kd.at_string (Kd.R_reads' HO_5.out).2.2 x7_1 p110 q110
              cases e110
              replace p110 := eq_true p110
              replace q110 := eq_true q110
              go_wp2
              go_ret
              exact ⟨by first | rfl | (simp [errW_none, errW_some] <;> rfl) | (simp [*, errW_none, errW_some] <;> rfl), by repeat (first | (with_reducible first | exact HB.out | apply below_alloc | apply pw_below_drewN | apply below_drew1) | exact HB.out)⟩
            · rw [if_neg c8] at H
              have c8b0 : ((rdOf ByteArray.empty y107 x7_1).toList == a0.toList) = false := beq_eq_false_iff_ne.mpr c8
              have c8b1 : ((rdOf ByteArray.empty y107 x7_1).toList != a0.toList) = true := bne_iff_ne.mpr c8
              have H' := Aside0.mk H
              clear H
              have p110 : 0 ≤ (x7_1 : Int) := of_decide_eq_true (by first | (with_reducible assumption) | assumption)
              have q110 : x7_1 < (y107.length : Int) := of_decide_eq_true (by first | (with_reducible assumption) | assumption)
              obtain ⟨ad110, e110, hx110_0⟩ := Kd.at_string (Kd.R_reads' HO_5.out).2.2 x7_1 p110 q110
              cases e110
              replace p110 := eq_true p110
              replace q110 := eq_true q110
              go_wp2
              go_roundg k1
              case measure => have := HK1.out; omega
              case rel => exact ⟨(wrap64 (x7_1 + 1)), (by first | rfl | (simp; done) | (simp [*]; done)), H', ⟨by have := HK1.out; omega⟩, ⟨by (with_reducible repeat (first | apply Kd.R_alloc | apply Kd.R_drewN | apply Kd.R_drew)); exact HO_5.out⟩, ⟨by repeat (first | (with_reducible first | exact HB.out | apply below_alloc | apply pw_below_drewN | apply below_drew1) | exact HB.out)⟩⟩
          · rw [if_neg c7] at H
            exact absurd H (by simp)
        · rw [if_neg c6] at H
          exact absurd H (by simp)
      · rw [if_neg c5] at H
        have c5b0 : decide (x7_1 < (y107.length : Int)) = false := decide_eq_false c5
        clear c5
        obtain rfl := Option.some.inj H
        go_wp2
        go_ret
        exact ⟨by first | rfl | (simp [errW_none, errW_some] <;> rfl) | (simp [*, errW_none, errW_some] <;> rfl), by repeat (first | (with_reducible first | exact HB.out | apply below_alloc | apply pw_below_drewN | apply below_drew1) | exact HB.out)⟩








/-! ### calamusref14_least -/
def calamusref14_least.f (a0 : Int) (a1 : Int) : Option (Int) := if a0 < a1 then (some a0) else (some a1)
set_option maxHeartbeats 8000000 in
set_option maxRecDepth 100000 in
theorem calamusref14_least.calls (a0 : Int) (a1 : Int) (r : Int) (w : World) (h : calamusref14_least.f a0 a1 = some r) :
    Calls Tryd.prog 43 #[.int .i64 a0, .int .i64 a1] w fun e w' => e = .returned (.int .i64 r) ∧ Drawn0 w w' := by
  have H : (if a0 < a1 then (some a0) else (some a1)) = some r := h
  clear h
  by_cases c3 : a0 < a1
  · rw [if_pos c3] at H
    have c3b0 : decide (a0 < a1) = true := decide_eq_true c3
    clear c3
    obtain rfl := Option.some.inj H
    go_enter Tryd.func43, Tryd.ntmps43
    go_wp2
    go_ret
    exact ⟨by first | rfl | (simp; done) | (simp [*]; done), by repeat (first | exact Drawn0.refl _ | apply Drawn0.step)⟩
  · rw [if_neg c3] at H
    have c3b0 : decide (a0 < a1) = false := decide_eq_false c3
    clear c3
    obtain rfl := Option.some.inj H
    go_enter Tryd.func43, Tryd.ntmps43
    go_wp2
    go_ret
    exact ⟨by first | rfl | (simp; done) | (simp [*]; done), by repeat (first | exact Drawn0.refl _ | apply Drawn0.step)⟩


/-! ### calamusref04_Normal -/
def calamusref04_Normal.f (a0 : ByteArray) (a1 : Int) : Option (Bool) := (calamusref03_Place.f a0 a1).bind fun t111 => (if t111 = true then ((calamusref04_Of.f a0 a1).bind fun t112 => ((calamusref04_End.f a0 t112).bind fun t113 => (if a1 < t113 then (some true) else ((calamusref04_Start.f a0 t112).bind fun t114 => (some (t114 == a1)))))) else (some false))
set_option maxHeartbeats 8000000 in
set_option maxRecDepth 100000 in
theorem calamusref04_Normal.calls (a0 : ByteArray) (a1 : Int) (r : Bool) (w : World) (h : calamusref04_Normal.f a0 a1 = some r) :
    Calls Tryd.prog 88 #[.string a0, .int .i64 a1] w fun e w' => e = .returned (.bool r) ∧ Below w.heap.size w w' := by
  have HB := Aside0.mk (Below.refl w.heap.size w)
  have H : ((calamusref03_Place.f a0 a1).bind fun t111 => (if t111 = true then ((calamusref04_Of.f a0 a1).bind fun t112 => ((calamusref04_End.f a0 t112).bind fun t113 => (if a1 < t113 then (some true) else ((calamusref04_Start.f a0 t112).bind fun t114 => (some (t114 == a1)))))) else (some false))) = some r := h
  clear h
  replace H := Option.bind_eq_some_iff.mp H
  obtain ⟨t111, A30, H⟩ := H
  replace H : (if t111 = true then ((calamusref04_Of.f a0 a1).bind fun t112 => ((calamusref04_End.f a0 t112).bind fun t113 => (if a1 < t113 then (some true) else ((calamusref04_Start.f a0 t112).bind fun t114 => (some (t114 == a1)))))) else (some false)) = some r := H
  have A3 := Aside0.mk A30
  clear A30
  by_cases c4 : t111 = true
  · subst c4
    have H1 : ((calamusref04_Of.f a0 a1).bind fun t112 => ((calamusref04_End.f a0 t112).bind fun t113 => (if a1 < t113 then (some true) else ((calamusref04_Start.f a0 t112).bind fun t114 => (some (t114 == a1)))))) = some r := by rw [if_pos rfl] at H; exact H
    clear H
    have H := H1
    clear H1
    replace H := Option.bind_eq_some_iff.mp H
    obtain ⟨t112, A50, H⟩ := H
    replace H : ((calamusref04_End.f a0 t112).bind fun t113 => (if a1 < t113 then (some true) else ((calamusref04_Start.f a0 t112).bind fun t114 => (some (t114 == a1))))) = some r := H
    have A5 := Aside0.mk A50
    clear A50
    replace H := Option.bind_eq_some_iff.mp H
    obtain ⟨t113, A60, H⟩ := H
    replace H : (if a1 < t113 then (some true) else ((calamusref04_Start.f a0 t112).bind fun t114 => (some (t114 == a1)))) = some r := H
    have A6 := Aside0.mk A60
    clear A60
    by_cases c7 : a1 < t113
    · rw [if_pos c7] at H
      have c7b0 : decide (a1 < t113) = true := decide_eq_true c7
      clear c7
      obtain rfl := Option.some.inj H
      go_enter Tryd.func88, Tryd.ntmps88
      go_wp2_with (first | ((with_reducible refine gate_callee (f := 29) rfl ?_); refine goesL_ (some 8) rfl rfl Tryd.func29 (by kernel_rfl) rfl #[.string a0, .int .i64 a1] rfl (by (try simp only [List.map_toArray, List.map_cons, List.map_nil]); first | done | rfl | (simp only [List.length_drop, List.length_take]; rfl)) ?_; (with_reducible refine (calamusref03_Place.calls a0 a1 true _ A3.out).mono ?_); rintro e w8 ⟨rfl, hb⟩; refine ⟨_, rfl, ?_⟩; have n0_ := Aside0.mk (below_step (by repeat (first | (with_reducible first | exact HB.out | apply below_alloc | apply pw_below_drewN | apply below_drew1) | exact HB.out)) hb); clear HB; have HB := n0_; clear n0_; (try clear hb); (try clear hb2); (try clear hk); (try clear hi)) | ((with_reducible refine gate_callee (f := 31) rfl ?_); refine goesL_ (some 12) rfl rfl Tryd.func31 (by kernel_rfl) rfl #[.string a0, .int .i64 a1] rfl (by (try simp only [List.map_toArray, List.map_cons, List.map_nil]); first | done | rfl | (simp only [List.length_drop, List.length_take]; rfl)) ?_; (with_reducible refine (calamusref04_Of.calls a0 a1 t112 _ A5.out).mono ?_); rintro e w9 ⟨rfl, hb⟩; refine ⟨_, rfl, ?_⟩; have n0_ := Aside0.mk (below_step (by repeat (first | (with_reducible first | exact HB.out | apply below_alloc | apply pw_below_drewN | apply below_drew1) | exact HB.out)) hb); clear HB; have HB := n0_; clear n0_; (try clear hb); (try clear hb2); (try clear hk); (try clear hi)) | ((with_reducible refine gate_callee (f := 40) rfl ?_); refine goesL_ (some 16) rfl rfl Tryd.func40 (by kernel_rfl) rfl #[.string a0, .int .i64 t112] rfl (by (try simp only [List.map_toArray, List.map_cons, List.map_nil]); first | done | rfl | (simp only [List.length_drop, List.length_take]; rfl)) ?_; (with_reducible refine (calamusref04_End.calls a0 t112 t113 _ A6.out).mono ?_); rintro e w10 ⟨rfl, hb⟩; refine ⟨_, rfl, ?_⟩; have n0_ := Aside0.mk (below_step (by repeat (first | (with_reducible first | exact HB.out | apply below_alloc | apply pw_below_drewN | apply below_drew1) | exact HB.out)) hb); clear HB; have HB := n0_; clear n0_; (try clear hb); (try clear hb2); (try clear hk); (try clear hi)))
      go_ret
      exact ⟨by first | rfl | (simp [errW_none, errW_some] <;> rfl) | (simp [*, errW_none, errW_some] <;> rfl), by repeat (first | (with_reducible first | exact HB.out | apply below_alloc | apply pw_below_drewN | apply below_drew1) | exact HB.out)⟩
    · rw [if_neg c7] at H
      have c7b0 : decide (a1 < t113) = false := decide_eq_false c7
      clear c7
      replace H := Option.bind_eq_some_iff.mp H
      obtain ⟨t114, A110, H⟩ := H
      replace H : (some (t114 == a1)) = some r := H
      have A11 := Aside0.mk A110
      clear A110
      obtain rfl := Option.some.inj H
      go_enter Tryd.func88, Tryd.ntmps88
      go_wp2_with (first | ((with_reducible refine gate_callee (f := 29) rfl ?_); refine goesL_ (some 8) rfl rfl Tryd.func29 (by kernel_rfl) rfl #[.string a0, .int .i64 a1] rfl (by (try simp only [List.map_toArray, List.map_cons, List.map_nil]); first | done | rfl | (simp only [List.length_drop, List.length_take]; rfl)) ?_; (with_reducible refine (calamusref03_Place.calls a0 a1 true _ A3.out).mono ?_); rintro e w12 ⟨rfl, hb⟩; refine ⟨_, rfl, ?_⟩; have n0_ := Aside0.mk (below_step (by repeat (first | (with_reducible first | exact HB.out | apply below_alloc | apply pw_below_drewN | apply below_drew1) | exact HB.out)) hb); clear HB; have HB := n0_; clear n0_; (try clear hb); (try clear hb2); (try clear hk); (try clear hi)) | ((with_reducible refine gate_callee (f := 31) rfl ?_); refine goesL_ (some 12) rfl rfl Tryd.func31 (by kernel_rfl) rfl #[.string a0, .int .i64 a1] rfl (by (try simp only [List.map_toArray, List.map_cons, List.map_nil]); first | done | rfl | (simp only [List.length_drop, List.length_take]; rfl)) ?_; (with_reducible refine (calamusref04_Of.calls a0 a1 t112 _ A5.out).mono ?_); rintro e w13 ⟨rfl, hb⟩; refine ⟨_, rfl, ?_⟩; have n0_ := Aside0.mk (below_step (by repeat (first | (with_reducible first | exact HB.out | apply below_alloc | apply pw_below_drewN | apply below_drew1) | exact HB.out)) hb); clear HB; have HB := n0_; clear n0_; (try clear hb); (try clear hb2); (try clear hk); (try clear hi)) | ((with_reducible refine gate_callee (f := 40) rfl ?_); refine goesL_ (some 16) rfl rfl Tryd.func40 (by kernel_rfl) rfl #[.string a0, .int .i64 t112] rfl (by (try simp only [List.map_toArray, List.map_cons, List.map_nil]); first | done | rfl | (simp only [List.length_drop, List.length_take]; rfl)) ?_; (with_reducible refine (calamusref04_End.calls a0 t112 t113 _ A6.out).mono ?_); rintro e w14 ⟨rfl, hb⟩; refine ⟨_, rfl, ?_⟩; have n0_ := Aside0.mk (below_step (by repeat (first | (with_reducible first | exact HB.out | apply below_alloc | apply pw_below_drewN | apply below_drew1) | exact HB.out)) hb); clear HB; have HB := n0_; clear n0_; (try clear hb); (try clear hb2); (try clear hk); (try clear hi)) | (go_at_call 33; (with_reducible refine (calamusref04_Start.calls a0 t112 t114 _ A11.out).mono ?_); rintro e w15 ⟨rfl, hb⟩; have n0_ := Aside0.mk (below_step (by repeat (first | (with_reducible first | exact HB.out | apply below_alloc | apply pw_below_drewN | apply below_drew1) | exact HB.out)) hb); clear HB; have HB := n0_; clear n0_; (try clear hb); (try clear hb2); (try clear hk); (try clear hi)))
      go_ret
      exact ⟨by first | rfl | (simp [errW_none, errW_some] <;> rfl) | (simp [*, errW_none, errW_some] <;> rfl), by repeat (first | (with_reducible first | exact HB.out | apply below_alloc | apply pw_below_drewN | apply below_drew1) | exact HB.out)⟩
  · replace c4 := Bool.eq_false_iff.mpr c4
    subst c4
    have H1 : (some false) = some r := by rw [if_neg (show ¬ (false = true) by decide)] at H; exact H
    clear H
    have H := H1
    clear H1
    obtain rfl := Option.some.inj H
    go_enter Tryd.func88, Tryd.ntmps88
    go_wp2_with (first | ((with_reducible refine gate_callee (f := 29) rfl ?_); refine goesL_ (some 8) rfl rfl Tryd.func29 (by kernel_rfl) rfl #[.string a0, .int .i64 a1] rfl (by (try simp only [List.map_toArray, List.map_cons, List.map_nil]); first | done | rfl | (simp only [List.length_drop, List.length_take]; rfl)) ?_; (with_reducible refine (calamusref03_Place.calls a0 a1 false _ A3.out).mono ?_); rintro e w16 ⟨rfl, hb⟩; refine ⟨_, rfl, ?_⟩; have n0_ := Aside0.mk (below_step (by repeat (first | (with_reducible first | exact HB.out | apply below_alloc | apply pw_below_drewN | apply below_drew1) | exact HB.out)) hb); clear HB; have HB := n0_; clear n0_; (try clear hb); (try clear hb2); (try clear hk); (try clear hi)))
    go_ret
    exact ⟨by first | rfl | (simp [errW_none, errW_some] <;> rfl) | (simp [*, errW_none, errW_some] <;> rfl), by repeat (first | (with_reducible first | exact HB.out | apply below_alloc | apply pw_below_drewN | apply below_drew1) | exact HB.out)⟩


/-! ### calamusref04_Clamp -/
mutual
def calamusref04_Clamp.j0 : Nat → ByteArray → Int → Option (Int)
  | 0, _, _ => none
  | k + 1, x0, x1 => if x1 > (x0.size : Int) then (calamusref04_Clamp.j1 k x0 (x0.size : Int)) else (calamusref04_Clamp.j1 k x0 x1)
def calamusref04_Clamp.j1 : Nat → ByteArray → Int → Option (Int)
  | 0, _, _ => none
  | k + 1, x0, x1 => calamusref04_Clamp.l0 k x0 x1
def calamusref04_Clamp.l0 : Nat → ByteArray → Int → Option (Int)
  | 0, _, _ => none
  | k + 1, x0, x1 => (calamusref03_Place.f x0 x1).bind fun t116 => (if t116 = true then ((calamusref04_Normal.f x0 x1).bind fun t117 => (if t117 = true then (some x1) else ((calamusref03_Prev.f x0 x1).bind fun t118 => (some t118)))) else (calamusref04_Clamp.l0 k x0 (wrap64 (x1 - 1))))
end
def calamusref04_Clamp.f (k : Nat) (a0 : ByteArray) (a1 : Int) : Option (Int) := (calamusref03_Valid.f a0).bind fun t115 => (if t115 = true then (if a1 < 0 then (calamusref04_Clamp.j0 k a0 0) else (calamusref04_Clamp.j0 k a0 a1)) else (some 0))
theorem calamusref04_Clamp.mono_l : ∀ k, (∀ y0 y1, LeO (calamusref04_Clamp.j0 k y0 y1) (calamusref04_Clamp.j0 (k + 1) y0 y1)) ∧ (∀ y0 y1, LeO (calamusref04_Clamp.j1 k y0 y1) (calamusref04_Clamp.j1 (k + 1) y0 y1)) ∧ (∀ y0 y1, LeO (calamusref04_Clamp.l0 k y0 y1) (calamusref04_Clamp.l0 (k + 1) y0 y1))
  | 0 => ⟨fun _ _ r h => by simp [calamusref04_Clamp.j0] at h, fun _ _ r h => by simp [calamusref04_Clamp.j1] at h, fun _ _ r h => by simp [calamusref04_Clamp.l0] at h⟩
  | k + 1 => by
    obtain ⟨ih0, ih1, ih2⟩ := calamusref04_Clamp.mono_l k
    refine ⟨?_, ?_, ?_⟩
    · intro y0 y1
      unfold calamusref04_Clamp.j0
      repeat' first
      | (with_reducible exact ih0 _ _)
      | (with_reducible exact ih1 _ _)
      | (with_reducible exact ih2 _ _)
      | (with_reducible exact LeO.refl _)
      | (with_reducible exact LeO.none _)
      | (with_reducible refine LeO.ite ?_ ?_)
      | (with_reducible refine LeO.bind ?_ (fun _ => ?_))
      | exact ih0 _ _
      | exact ih1 _ _
      | exact ih2 _ _
      | exact LeO.none _
      | refine LeO.ite ?_ ?_
      | refine LeO.bind ?_ (fun _ => ?_)
    · intro y0 y1
      unfold calamusref04_Clamp.j1
      repeat' first
      | (with_reducible exact ih0 _ _)
      | (with_reducible exact ih1 _ _)
      | (with_reducible exact ih2 _ _)
      | (with_reducible exact LeO.refl _)
      | (with_reducible exact LeO.none _)
      | (with_reducible refine LeO.ite ?_ ?_)
      | (with_reducible refine LeO.bind ?_ (fun _ => ?_))
      | exact ih0 _ _
      | exact ih1 _ _
      | exact ih2 _ _
      | exact LeO.none _
      | refine LeO.ite ?_ ?_
      | refine LeO.bind ?_ (fun _ => ?_)
    · intro y0 y1
      unfold calamusref04_Clamp.l0
      repeat' first
      | (with_reducible exact ih0 _ _)
      | (with_reducible exact ih1 _ _)
      | (with_reducible exact ih2 _ _)
      | (with_reducible exact LeO.refl _)
      | (with_reducible exact LeO.none _)
      | (with_reducible refine LeO.ite ?_ ?_)
      | (with_reducible refine LeO.bind ?_ (fun _ => ?_))
      | exact ih0 _ _
      | exact ih1 _ _
      | exact ih2 _ _
      | exact LeO.none _
      | refine LeO.ite ?_ ?_
      | refine LeO.bind ?_ (fun _ => ?_)
theorem calamusref04_Clamp.mono : ∀ a0 a1 k, LeO (calamusref04_Clamp.f k a0 a1) (calamusref04_Clamp.f (k + 1) a0 a1) := by
  intro a0 a1 k
  obtain ⟨ih0, ih1, ih2⟩ := calamusref04_Clamp.mono_l k
  unfold calamusref04_Clamp.f
  repeat' first
      | (with_reducible exact ih0 _ _)
      | (with_reducible exact ih1 _ _)
      | (with_reducible exact ih2 _ _)
      | (with_reducible exact LeO.refl _)
      | (with_reducible exact LeO.none _)
      | (with_reducible refine LeO.ite ?_ ?_)
      | (with_reducible refine LeO.bind ?_ (fun _ => ?_))
      | exact ih0 _ _
      | exact ih1 _ _
      | exact ih2 _ _
      | exact LeO.none _
      | refine LeO.ite ?_ ?_
      | refine LeO.bind ?_ (fun _ => ?_)
set_option maxHeartbeats 8000000 in
set_option maxRecDepth 100000 in
theorem calamusref04_Clamp.calls (k : Nat) (a0 : ByteArray) (a1 : Int) (r : Int) (w : World) (h : calamusref04_Clamp.f k a0 a1 = some r) :
    Calls Tryd.prog 74 #[.string a0, .int .i64 a1] w fun e w' => e = .returned (.int .i64 r) ∧ Below w.heap.size w w' := by
  have HB := Aside0.mk (Below.refl w.heap.size w)
  have H : ((calamusref03_Valid.f a0).bind fun t115 => (if t115 = true then (if a1 < 0 then (calamusref04_Clamp.j0 k a0 0) else (calamusref04_Clamp.j0 k a0 a1)) else (some 0))) = some r := h
  clear h
  replace H := Option.bind_eq_some_iff.mp H
  obtain ⟨t115, A30, H⟩ := H
  replace H : (if t115 = true then (if a1 < 0 then (calamusref04_Clamp.j0 k a0 0) else (calamusref04_Clamp.j0 k a0 a1)) else (some 0)) = some r := H
  have A3 := Aside0.mk A30
  clear A30
  by_cases c4 : t115 = true
  · subst c4
    have H1 : (if a1 < 0 then (calamusref04_Clamp.j0 k a0 0) else (calamusref04_Clamp.j0 k a0 a1)) = some r := by rw [if_pos rfl] at H; exact H
    clear H
    have H := H1
    clear H1
    have HC5 := Aside0.mk H
    clear H
    go_enter Tryd.func74, Tryd.ntmps74
    go_upto_if 9 with (first | ((with_reducible refine gate_callee (f := 78) rfl ?_); refine goesL_ (some 6) rfl rfl Tryd.func78 (by kernel_rfl) rfl #[.string a0] rfl (by (try simp only [List.map_toArray, List.map_cons, List.map_nil]); first | done | rfl | (simp only [List.length_drop, List.length_take]; rfl)) ?_; (with_reducible refine (calamusref03_Valid.calls a0 true _ A3.out).mono ?_); rintro e w6 ⟨rfl, hb⟩; refine ⟨_, rfl, ?_⟩; have n0_ := Aside0.mk (below_step (by repeat (first | (with_reducible first | exact HB.out | apply below_alloc | apply pw_below_drewN | apply below_drew1) | exact HB.out)) hb); clear HB; have HB := n0_; clear n0_; (try clear hb); (try clear hb2); (try clear hk); (try clear hi)))
    (try simp only [Act.put, List.setIfInBounds_toArray, List.set_cons_zero, List.set_cons_succ])
    go_cut [1] (fun v1 wc => ∃ (kq : Nat) (x1_4 : Int), v1 = .int .i64 x1_4 ∧ Aside0 (calamusref04_Clamp.j0 kq a0 x1_4 = some r) ∧ Aside0 (kq ≤ k) ∧ Aside0 (Below w.heap.size w wc))
    case first =>
      have H := HC5.out
      clear HC5
      by_cases c7 : a1 < 0
      · rw [if_pos c7] at H
        have c7b0 : decide (a1 < 0) = true := decide_eq_true c7
        clear c7
        (first | rw [c7b0] | (simp only [i64_w, i32_w]; rw [c7b0]) | skip)
        have H' := Aside0.mk H
        clear H
        go_wp2
        go_meet
        case rel => exact ⟨_, (0), (by first | rfl | (simp; done) | (simp [*]; done)), H', ⟨by first | omega | exact Nat.le_refl _⟩, ⟨by repeat (first | (with_reducible first | exact HB.out | apply below_alloc | apply pw_below_drewN | apply below_drew1) | exact HB.out)⟩⟩
      · rw [if_neg c7] at H
        have c7b0 : decide (a1 < 0) = false := decide_eq_false c7
        clear c7
        (first | rw [c7b0] | (simp only [i64_w, i32_w]; rw [c7b0]) | skip)
        have H' := Aside0.mk H
        clear H
        go_wp2
        go_meet
        case rel => exact ⟨_, (a1), (by first | rfl | (simp; done) | (simp [*]; done)), H', ⟨by first | omega | exact Nat.le_refl _⟩, ⟨by repeat (first | (with_reducible first | exact HB.out | apply below_alloc | apply pw_below_drewN | apply below_drew1) | exact HB.out)⟩⟩
    case rest =>
      clear HC5
      try clear p2
      try clear c4
      try clear c7
      try clear c7b0
      obtain ⟨kq, x1_4, rfl, HA, HJ4, HB⟩ := hcut
      cases kq with
      | zero => exact absurd HA.out (by simp [calamusref04_Clamp.j0])
      | succ kj4 =>
        have H := HA.out
        clear HA
        simp only [calamusref04_Clamp.j0] at H
        have HC8 := Aside0.mk H
        clear H
        go_upto_if 13 with (fail)
        go_cut [1] (fun v1 wc => ∃ (kq : Nat) (x1_7 : Int), v1 = .int .i64 x1_7 ∧ Aside0 (calamusref04_Clamp.j1 kq a0 x1_7 = some r) ∧ Aside0 (kq ≤ kj4) ∧ Aside0 (Below w.heap.size w wc))
        case first =>
          have H := HC8.out
          clear HC8
          by_cases c9 : x1_4 > (a0.size : Int)
          · rw [if_pos c9] at H
            have c9b0 : decide ((a0.size : Int) < x1_4) = true := decide_eq_true c9
            clear c9
            (first | rw [c9b0] | (simp only [i64_w, i32_w]; rw [c9b0]) | skip)
            have H' := Aside0.mk H
            clear H
            go_wp2
            go_meet
            case rel => exact ⟨_, ((a0.size : Int)), (by first | rfl | (simp; done) | (simp [*]; done)), H', ⟨by have := HJ4.out; first | omega | exact Nat.le_refl _⟩, ⟨by repeat (first | (with_reducible first | exact HB.out | apply below_alloc | apply pw_below_drewN | apply below_drew1) | exact HB.out)⟩⟩
          · rw [if_neg c9] at H
            have c9b0 : decide ((a0.size : Int) < x1_4) = false := decide_eq_false c9
            clear c9
            (first | rw [c9b0] | (simp only [i64_w, i32_w]; rw [c9b0]) | skip)
            have H' := Aside0.mk H
            clear H
            go_wp2
            go_meet
            case rel => exact ⟨_, (x1_4), (by first | rfl | (simp; done) | (simp [*]; done)), H', ⟨by have := HJ4.out; first | omega | exact Nat.le_refl _⟩, ⟨by repeat (first | (with_reducible first | exact HB.out | apply below_alloc | apply pw_below_drewN | apply below_drew1) | exact HB.out)⟩⟩
        case rest =>
          clear HC8
          try clear p2
          try clear c4
          try clear c7
          try clear c7b0
          try clear c9
          try clear c9b0
          try clear p2
          obtain ⟨kq, x1_7, rfl, HA, HJ7, HB⟩ := hcut
          cases kq with
          | zero => exact absurd HA.out (by simp [calamusref04_Clamp.j1])
          | succ kj7 =>
            have H := HA.out
            clear HA
            simp only [calamusref04_Clamp.j1] at H
            have H' := Aside0.mk H
            clear H
            go_wp2
            go_loopg [1] kj7 (fun kq v1 w' => ∃ (x1_3 : Int), v1 = .int .i64 x1_3 ∧ Aside0 (calamusref04_Clamp.l0 kq a0 x1_3 = some r) ∧ Aside0 (kq ≤ kj7) ∧ Aside0 (Below w.heap.size w w'))
            case atStart => exact ⟨(x1_7), (by first | rfl | (simp; done) | (simp [*]; done)), H', ⟨Nat.le_refl _⟩, ⟨by repeat (first | (with_reducible first | exact HB.out | apply below_alloc | apply pw_below_drewN | apply below_drew1) | exact HB.out)⟩⟩
            case round =>
              clear H'
              try clear p2
              try clear c4
              try clear c7
              try clear c7b0
              try clear c9
              try clear c9b0
              try clear p2
              obtain ⟨x1_3, rfl, HA, HK3, HB⟩ := hrel
              cases gk with
              | zero => exact absurd HA.out (by simp [calamusref04_Clamp.l0])
              | succ k3 =>
                have H := HA.out
                clear HA
                simp only [calamusref04_Clamp.l0] at H
                replace H := Option.bind_eq_some_iff.mp H
                obtain ⟨t116, A100, H⟩ := H
                replace H : (if t116 = true then ((calamusref04_Normal.f a0 x1_3).bind fun t117 => (if t117 = true then (some x1_3) else ((calamusref03_Prev.f a0 x1_3).bind fun t118 => (some t118)))) else (calamusref04_Clamp.l0 k3 a0 (wrap64 (x1_3 - 1)))) = some r := H
                have A10 := Aside0.mk A100
                clear A100
                by_cases c11 : t116 = true
                · subst c11
                  have H1 : ((calamusref04_Normal.f a0 x1_3).bind fun t117 => (if t117 = true then (some x1_3) else ((calamusref03_Prev.f a0 x1_3).bind fun t118 => (some t118)))) = some r := by rw [if_pos rfl] at H; exact H
                  clear H
                  have H := H1
                  clear H1
                  replace H := Option.bind_eq_some_iff.mp H
                  obtain ⟨t117, A120, H⟩ := H
                  replace H : (if t117 = true then (some x1_3) else ((calamusref03_Prev.f a0 x1_3).bind fun t118 => (some t118))) = some r := H
                  have A12 := Aside0.mk A120
                  clear A120
                  by_cases c13 : t117 = true
                  · subst c13
                    have H1 : (some x1_3) = some r := by rw [if_pos rfl] at H; exact H
                    clear H
                    have H := H1
                    clear H1
                    obtain rfl := Option.some.inj H
                    go_wp2_with (first | ((with_reducible refine gate_callee (f := 29) rfl ?_); refine goesL_ (some 18) rfl rfl Tryd.func29 (by kernel_rfl) rfl #[.string a0, .int .i64 x1_3] rfl (by (try simp only [List.map_toArray, List.map_cons, List.map_nil]); first | done | rfl | (simp only [List.length_drop, List.length_take]; rfl)) ?_; (with_reducible refine (calamusref03_Place.calls a0 x1_3 true _ A10.out).mono ?_); rintro e w14 ⟨rfl, hb⟩; refine ⟨_, rfl, ?_⟩; have n0_ := Aside0.mk (below_step (by repeat (first | (with_reducible first | exact HB.out | apply below_alloc | apply pw_below_drewN | apply below_drew1) | exact HB.out)) hb); clear HB; have HB := n0_; clear n0_; (try clear hb); (try clear hb2); (try clear hk); (try clear hi)) | ((with_reducible refine gate_callee (f := 88) rfl ?_); refine goesL_ (some 24) rfl rfl Tryd.func88 (by kernel_rfl) rfl #[.string a0, .int .i64 x1_3] rfl (by (try simp only [List.map_toArray, List.map_cons, List.map_nil]); first | done | rfl | (simp only [List.length_drop, List.length_take]; rfl)) ?_; (with_reducible refine (calamusref04_Normal.calls a0 x1_3 true _ A12.out).mono ?_); rintro e w15 ⟨rfl, hb⟩; refine ⟨_, rfl, ?_⟩; have n0_ := Aside0.mk (below_step (by repeat (first | (with_reducible first | exact HB.out | apply below_alloc | apply pw_below_drewN | apply below_drew1) | exact HB.out)) hb); clear HB; have HB := n0_; clear n0_; (try clear hb); (try clear hb2); (try clear hk); (try clear hi)))
                    go_ret
                    exact ⟨by first | rfl | (simp [errW_none, errW_some] <;> rfl) | (simp [*, errW_none, errW_some] <;> rfl), by repeat (first | (with_reducible first | exact HB.out | apply below_alloc | apply pw_below_drewN | apply below_drew1) | exact HB.out)⟩
                  · replace c13 := Bool.eq_false_iff.mpr c13
                    subst c13
                    have H1 : ((calamusref03_Prev.f a0 x1_3).bind fun t118 => (some t118)) = some r := by rw [if_neg (show ¬ (false = true) by decide)] at H; exact H
                    clear H
                    have H := H1
                    clear H1
                    replace H := Option.bind_eq_some_iff.mp H
                    obtain ⟨t118, A160, H⟩ := H
                    replace H : (some t118) = some r := H
                    have A16 := Aside0.mk A160
                    clear A160
                    obtain rfl := Option.some.inj H
                    go_wp2_with (first | ((with_reducible refine gate_callee (f := 29) rfl ?_); refine goesL_ (some 18) rfl rfl Tryd.func29 (by kernel_rfl) rfl #[.string a0, .int .i64 x1_3] rfl (by (try simp only [List.map_toArray, List.map_cons, List.map_nil]); first | done | rfl | (simp only [List.length_drop, List.length_take]; rfl)) ?_; (with_reducible refine (calamusref03_Place.calls a0 x1_3 true _ A10.out).mono ?_); rintro e w17 ⟨rfl, hb⟩; refine ⟨_, rfl, ?_⟩; have n0_ := Aside0.mk (below_step (by repeat (first | (with_reducible first | exact HB.out | apply below_alloc | apply pw_below_drewN | apply below_drew1) | exact HB.out)) hb); clear HB; have HB := n0_; clear n0_; (try clear hb); (try clear hb2); (try clear hk); (try clear hi)) | ((with_reducible refine gate_callee (f := 88) rfl ?_); refine goesL_ (some 24) rfl rfl Tryd.func88 (by kernel_rfl) rfl #[.string a0, .int .i64 x1_3] rfl (by (try simp only [List.map_toArray, List.map_cons, List.map_nil]); first | done | rfl | (simp only [List.length_drop, List.length_take]; rfl)) ?_; (with_reducible refine (calamusref04_Normal.calls a0 x1_3 false _ A12.out).mono ?_); rintro e w18 ⟨rfl, hb⟩; refine ⟨_, rfl, ?_⟩; have n0_ := Aside0.mk (below_step (by repeat (first | (with_reducible first | exact HB.out | apply below_alloc | apply pw_below_drewN | apply below_drew1) | exact HB.out)) hb); clear HB; have HB := n0_; clear n0_; (try clear hb); (try clear hb2); (try clear hk); (try clear hi)) | ((with_reducible refine gate_callee (f := 89) rfl ?_); refine goesL_ (some 28) rfl rfl Tryd.func89 (by kernel_rfl) rfl #[.string a0, .int .i64 x1_3] rfl (by (try simp only [List.map_toArray, List.map_cons, List.map_nil]); first | done | rfl | (simp only [List.length_drop, List.length_take]; rfl)) ?_; (with_reducible refine (calamusref03_Prev.calls a0 x1_3 t118 _ A16.out).mono ?_); rintro e w19 ⟨rfl, hb⟩; refine ⟨_, rfl, ?_⟩; have n0_ := Aside0.mk (below_step (by repeat (first | (with_reducible first | exact HB.out | apply below_alloc | apply pw_below_drewN | apply below_drew1) | exact HB.out)) hb); clear HB; have HB := n0_; clear n0_; (try clear hb); (try clear hb2); (try clear hk); (try clear hi)))
                    go_ret
                    exact ⟨by first | rfl | (simp [errW_none, errW_some] <;> rfl) | (simp [*, errW_none, errW_some] <;> rfl), by repeat (first | (with_reducible first | exact HB.out | apply below_alloc | apply pw_below_drewN | apply below_drew1) | exact HB.out)⟩
                · replace c11 := Bool.eq_false_iff.mpr c11
                  subst c11
                  have H1 : (calamusref04_Clamp.l0 k3 a0 (wrap64 (x1_3 - 1))) = some r := by rw [if_neg (show ¬ (false = true) by decide)] at H; exact H
                  clear H
                  have H := H1
                  clear H1
                  have H' := Aside0.mk H
                  clear H
                  go_wp2_with (first | ((with_reducible refine gate_callee (f := 29) rfl ?_); refine goesL_ (some 18) rfl rfl Tryd.func29 (by kernel_rfl) rfl #[.string a0, .int .i64 x1_3] rfl (by (try simp only [List.map_toArray, List.map_cons, List.map_nil]); first | done | rfl | (simp only [List.length_drop, List.length_take]; rfl)) ?_; (with_reducible refine (calamusref03_Place.calls a0 x1_3 false _ A10.out).mono ?_); rintro e w20 ⟨rfl, hb⟩; refine ⟨_, rfl, ?_⟩; have n0_ := Aside0.mk (below_step (by repeat (first | (with_reducible first | exact HB.out | apply below_alloc | apply pw_below_drewN | apply below_drew1) | exact HB.out)) hb); clear HB; have HB := n0_; clear n0_; (try clear hb); (try clear hb2); (try clear hk); (try clear hi)))
                  go_roundg k3
                  case measure => have := HJ4.out; have := HJ7.out; have := HK3.out; omega
                  case rel => exact ⟨(wrap64 (x1_3 - 1)), (by first | rfl | (simp; done) | (simp [*]; done)), H', ⟨by have := HJ4.out; have := HJ7.out; have := HK3.out; omega⟩, ⟨by repeat (first | (with_reducible first | exact HB.out | apply below_alloc | apply pw_below_drewN | apply below_drew1) | exact HB.out)⟩⟩
  · replace c4 := Bool.eq_false_iff.mpr c4
    subst c4
    have H1 : (some 0) = some r := by rw [if_neg (show ¬ (false = true) by decide)] at H; exact H
    clear H
    have H := H1
    clear H1
    obtain rfl := Option.some.inj H
    go_enter Tryd.func74, Tryd.ntmps74
    go_wp2_with (first | ((with_reducible refine gate_callee (f := 78) rfl ?_); refine goesL_ (some 6) rfl rfl Tryd.func78 (by kernel_rfl) rfl #[.string a0] rfl (by (try simp only [List.map_toArray, List.map_cons, List.map_nil]); first | done | rfl | (simp only [List.length_drop, List.length_take]; rfl)) ?_; (with_reducible refine (calamusref03_Valid.calls a0 false _ A3.out).mono ?_); rintro e w21 ⟨rfl, hb⟩; refine ⟨_, rfl, ?_⟩; have n0_ := Aside0.mk (below_step (by repeat (first | (with_reducible first | exact HB.out | apply below_alloc | apply pw_below_drewN | apply below_drew1) | exact HB.out)) hb); clear HB; have HB := n0_; clear n0_; (try clear hb); (try clear hb2); (try clear hk); (try clear hi)))
    go_ret
    exact ⟨by first | rfl | (simp [errW_none, errW_some] <;> rfl) | (simp [*, errW_none, errW_some] <;> rfl), by repeat (first | (with_reducible first | exact HB.out | apply below_alloc | apply pw_below_drewN | apply below_drew1) | exact HB.out)⟩

/-! ### calamusref04_First -/
mutual
def calamusref04_First.j1 : Nat → ByteArray → Int → Int → Option (Int)
  | 0, _, _, _ => none
  | k + 1, x0, x1, x5 => (calamusref04_End.f x0 x1).bind fun t122 => (if x5 = t122 then ((calamusref04_Clamp.f k x0 x5).bind fun t123 => (some t123)) else (some x5))
def calamusref04_First.l0 : Nat → ByteArray → Int → Int → Option (Int)
  | 0, _, _, _ => none
  | k + 1, x0, x1, x5 => (calamusref04_End.f x0 x1).bind fun t121 => (if x5 < t121 then (if 0 ≤ x5 then (if x5 < (x0.size : Int) then (if (bt x0 x5) = 32 then (calamusref04_First.l0 k x0 x1 (wrap64 (x5 + 1))) else (if (bt x0 x5) = 9 then (calamusref04_First.l0 k x0 x1 (wrap64 (x5 + 1))) else (calamusref04_First.j1 k x0 x1 x5))) else (none)) else (none)) else (calamusref04_First.j1 k x0 x1 x5))
end
def calamusref04_First.f (k : Nat) (a0 : ByteArray) (a1 : Int) : Option (Int) := (calamusref04_Start.f a0 a1).bind fun t119 => (if t119 < 0 then (some (-1)) else ((calamusref04_Start.f a0 a1).bind fun t120 => (calamusref04_First.l0 k a0 a1 t120)))
theorem calamusref04_First.mono_l : ∀ k, (∀ y0 y1 y2, LeO (calamusref04_First.j1 k y0 y1 y2) (calamusref04_First.j1 (k + 1) y0 y1 y2)) ∧ (∀ y0 y1 y2, LeO (calamusref04_First.l0 k y0 y1 y2) (calamusref04_First.l0 (k + 1) y0 y1 y2))
  | 0 => ⟨fun _ _ _ r h => by simp [calamusref04_First.j1] at h, fun _ _ _ r h => by simp [calamusref04_First.l0] at h⟩
  | k + 1 => by
    obtain ⟨ih0, ih1⟩ := calamusref04_First.mono_l k
    refine ⟨?_, ?_⟩
    · intro y0 y1 y2
      unfold calamusref04_First.j1
      repeat' first
      | (with_reducible exact ih0 _ _ _)
      | (with_reducible exact ih1 _ _ _)
      | (with_reducible exact calamusref04_Clamp.mono _ _ _)
      | (with_reducible exact LeO.refl _)
      | (with_reducible exact LeO.none _)
      | (with_reducible refine LeO.ite ?_ ?_)
      | (with_reducible refine LeO.bind ?_ (fun _ => ?_))
      | exact ih0 _ _ _
      | exact ih1 _ _ _
      | exact calamusref04_Clamp.mono _ _ _
      | exact LeO.none _
      | refine LeO.ite ?_ ?_
      | refine LeO.bind ?_ (fun _ => ?_)
    · intro y0 y1 y2
      unfold calamusref04_First.l0
      repeat' first
      | (with_reducible exact ih0 _ _ _)
      | (with_reducible exact ih1 _ _ _)
      | (with_reducible exact calamusref04_Clamp.mono _ _ _)
      | (with_reducible exact LeO.refl _)
      | (with_reducible exact LeO.none _)
      | (with_reducible refine LeO.ite ?_ ?_)
      | (with_reducible refine LeO.bind ?_ (fun _ => ?_))
      | exact ih0 _ _ _
      | exact ih1 _ _ _
      | exact calamusref04_Clamp.mono _ _ _
      | exact LeO.none _
      | refine LeO.ite ?_ ?_
      | refine LeO.bind ?_ (fun _ => ?_)
theorem calamusref04_First.mono : ∀ a0 a1 k, LeO (calamusref04_First.f k a0 a1) (calamusref04_First.f (k + 1) a0 a1) := by
  intro a0 a1 k
  obtain ⟨ih0, ih1⟩ := calamusref04_First.mono_l k
  unfold calamusref04_First.f
  repeat' first
      | (with_reducible exact ih0 _ _ _)
      | (with_reducible exact ih1 _ _ _)
      | (with_reducible exact calamusref04_Clamp.mono _ _ _)
      | (with_reducible exact LeO.refl _)
      | (with_reducible exact LeO.none _)
      | (with_reducible refine LeO.ite ?_ ?_)
      | (with_reducible refine LeO.bind ?_ (fun _ => ?_))
      | exact ih0 _ _ _
      | exact ih1 _ _ _
      | exact calamusref04_Clamp.mono _ _ _
      | exact LeO.none _
      | refine LeO.ite ?_ ?_
      | refine LeO.bind ?_ (fun _ => ?_)
set_option maxHeartbeats 8000000 in
set_option maxRecDepth 100000 in
theorem calamusref04_First.calls (k : Nat) (a0 : ByteArray) (a1 : Int) (r : Int) (w : World) (h : calamusref04_First.f k a0 a1 = some r) :
    Calls Tryd.prog 44 #[.string a0, .int .i64 a1] w fun e w' => e = .returned (.int .i64 r) ∧ Below w.heap.size w w' := by
  have HB := Aside0.mk (Below.refl w.heap.size w)
  have H : ((calamusref04_Start.f a0 a1).bind fun t119 => (if t119 < 0 then (some (-1)) else ((calamusref04_Start.f a0 a1).bind fun t120 => (calamusref04_First.l0 k a0 a1 t120)))) = some r := h
  clear h
  replace H := Option.bind_eq_some_iff.mp H
  obtain ⟨t119, A30, H⟩ := H
  replace H : (if t119 < 0 then (some (-1)) else ((calamusref04_Start.f a0 a1).bind fun t120 => (calamusref04_First.l0 k a0 a1 t120))) = some r := H
  have A3 := Aside0.mk A30
  clear A30
  by_cases c4 : t119 < 0
  · rw [if_pos c4] at H
    have c4b0 : decide (t119 < 0) = true := decide_eq_true c4
    clear c4
    obtain rfl := Option.some.inj H
    go_enter Tryd.func44, Tryd.ntmps44
    go_wp2_with (first | ((with_reducible refine gate_callee (f := 33) rfl ?_); refine goesL_ (some 8) rfl rfl Tryd.func33 (by kernel_rfl) rfl #[.string a0, .int .i64 a1] rfl (by (try simp only [List.map_toArray, List.map_cons, List.map_nil]); first | done | rfl | (simp only [List.length_drop, List.length_take]; rfl)) ?_; (with_reducible refine (calamusref04_Start.calls a0 a1 t119 _ A3.out).mono ?_); rintro e w5 ⟨rfl, hb⟩; refine ⟨_, rfl, ?_⟩; have n0_ := Aside0.mk (below_step (by repeat (first | (with_reducible first | exact HB.out | apply below_alloc | apply pw_below_drewN | apply below_drew1) | exact HB.out)) hb); clear HB; have HB := n0_; clear n0_; (try clear hb); (try clear hb2); (try clear hk); (try clear hi)))
    go_ret
    exact ⟨by first | rfl | (simp [errW_none, errW_some] <;> rfl) | (simp [*, errW_none, errW_some] <;> rfl), by repeat (first | (with_reducible first | exact HB.out | apply below_alloc | apply pw_below_drewN | apply below_drew1) | exact HB.out)⟩
  · rw [if_neg c4] at H
    have c4b0 : decide (t119 < 0) = false := decide_eq_false c4
    clear c4
    replace H := Option.bind_eq_some_iff.mp H
    obtain ⟨t120, A60, H⟩ := H
    replace H : (calamusref04_First.l0 k a0 a1 t120) = some r := H
    have A6 := Aside0.mk A60
    clear A60
    have HC7 := Aside0.mk H
    clear H
    go_enter Tryd.func44, Tryd.ntmps44
    go_upto_block 0 with (first | ((with_reducible refine gate_callee (f := 33) rfl ?_); refine goesL_ (some 8) rfl rfl Tryd.func33 (by kernel_rfl) rfl #[.string a0, .int .i64 a1] rfl (by (try simp only [List.map_toArray, List.map_cons, List.map_nil]); first | done | rfl | (simp only [List.length_drop, List.length_take]; rfl)) ?_; (with_reducible refine (calamusref04_Start.calls a0 a1 t119 _ A3.out).mono ?_); rintro e w8 ⟨rfl, hb⟩; refine ⟨_, rfl, ?_⟩; have n0_ := Aside0.mk (below_step (by repeat (first | (with_reducible first | exact HB.out | apply below_alloc | apply pw_below_drewN | apply below_drew1) | exact HB.out)) hb); clear HB; have HB := n0_; clear n0_; (try clear hb); (try clear hb2); (try clear hk); (try clear hi)) | ((with_reducible refine gate_callee (f := 33) rfl ?_); refine goesL_ (some 12) rfl rfl Tryd.func33 (by kernel_rfl) rfl #[.string a0, .int .i64 a1] rfl (by (try simp only [List.map_toArray, List.map_cons, List.map_nil]); first | done | rfl | (simp only [List.length_drop, List.length_take]; rfl)) ?_; (with_reducible refine (calamusref04_Start.calls a0 a1 t120 _ A6.out).mono ?_); rintro e w9 ⟨rfl, hb⟩; refine ⟨_, rfl, ?_⟩; have n0_ := Aside0.mk (below_step (by repeat (first | (with_reducible first | exact HB.out | apply below_alloc | apply pw_below_drewN | apply below_drew1) | exact HB.out)) hb); clear HB; have HB := n0_; clear n0_; (try clear hb); (try clear hb2); (try clear hk); (try clear hi)))
    (try simp only [Act.put, List.setIfInBounds_toArray, List.set_cons_zero, List.set_cons_succ])
    go_cut [5] (fun v5 wc => ∃ (kq : Nat) (x5_6 : Int), v5 = .int .i64 x5_6 ∧ Aside0 (calamusref04_First.j1 kq a0 a1 x5_6 = some r) ∧ Aside0 (kq ≤ k) ∧ Aside0 (Below w.heap.size w wc))
    case first =>
      have H := HC7.out
      clear HC7
      have H' := Aside0.mk H
      clear H
      go_wp2
      go_loopg [5] k (fun kq v5 w' => ∃ (x5_1 : Int), v5 = .int .i64 x5_1 ∧ Aside0 (calamusref04_First.l0 kq a0 a1 x5_1 = some r) ∧ Aside0 (kq ≤ k) ∧ Aside0 (Below w.heap.size w w'))
      case atStart => exact ⟨(t120), (by first | rfl | (simp; done) | (simp [*]; done)), H', ⟨Nat.le_refl _⟩, ⟨by repeat (first | (with_reducible first | exact HB.out | apply below_alloc | apply pw_below_drewN | apply below_drew1) | exact HB.out)⟩⟩
      case round =>
        clear H'
        try clear p2
        try clear c3
        try clear c4
        try clear c4b0
        obtain ⟨x5_1, rfl, HA, HK1, HB⟩ := hrel
        cases gk with
        | zero => exact absurd HA.out (by simp [calamusref04_First.l0])
        | succ k1 =>
          have H := HA.out
          clear HA
          simp only [calamusref04_First.l0] at H
          replace H := Option.bind_eq_some_iff.mp H
          obtain ⟨t121, A100, H⟩ := H
          replace H : (if x5_1 < t121 then (if 0 ≤ x5_1 then (if x5_1 < (a0.size : Int) then (if (bt a0 x5_1) = 32 then (calamusref04_First.l0 k1 a0 a1 (wrap64 (x5_1 + 1))) else (if (bt a0 x5_1) = 9 then (calamusref04_First.l0 k1 a0 a1 (wrap64 (x5_1 + 1))) else (calamusref04_First.j1 k1 a0 a1 x5_1))) else (none)) else (none)) else (calamusref04_First.j1 k1 a0 a1 x5_1)) = some r := H
          have A10 := Aside0.mk A100
          clear A100
          by_cases c11 : x5_1 < t121
          · rw [if_pos c11] at H
            have c11b0 : decide (x5_1 < t121) = true := decide_eq_true c11
            clear c11
            (first | rw [c11b0] | (simp only [i64_w, i32_w]; rw [c11b0]) | skip)
            by_cases c12 : 0 ≤ x5_1
            · rw [if_pos c12] at H
              have c12b0 : decide (0 ≤ x5_1) = true := decide_eq_true c12
              clear c12
              by_cases c13 : x5_1 < (a0.size : Int)
              · rw [if_pos c13] at H
                have c13b0 : decide (x5_1 < (a0.size : Int)) = true := decide_eq_true c13
                clear c13
                by_cases c15 : (bt a0 x5_1) = 32
                · rw [if_pos c15] at H
                  have c15b0 : ((bt a0 x5_1) == 32) = true := beq_iff_eq.mpr c15
                  have c15b1 : ((bt a0 x5_1) != 32) = false := bne_eq_false_iff_eq.mpr c15
                  clear c15
                  have H' := Aside0.mk H
                  clear H
                  go_wp2_with (first | ((with_reducible refine gate_callee (f := 40) rfl ?_); refine goesL_ (some 16) rfl rfl Tryd.func40 (by kernel_rfl) rfl #[.string a0, .int .i64 a1] rfl (by (try simp only [List.map_toArray, List.map_cons, List.map_nil]); first | done | rfl | (simp only [List.length_drop, List.length_take]; rfl)) ?_; (with_reducible refine (calamusref04_End.calls a0 a1 t121 _ A10.out).mono ?_); rintro e w16 ⟨rfl, hb⟩; refine ⟨_, rfl, ?_⟩; have n0_ := Aside0.mk (below_step (by repeat (first | (with_reducible first | exact HB.out | apply below_alloc | apply pw_below_drewN | apply below_drew1) | exact HB.out)) hb); clear HB; have HB := n0_; clear n0_; (try clear hb); (try clear hb2); (try clear hk); (try clear hi); have p14 : 0 ≤ (x5_1 : Int) := of_decide_eq_true (by first | (with_reducible assumption) | assumption); have q14 : x5_1 < (a0.size : Int) := of_decide_eq_true (by first | (with_reducible assumption) | assumption); have hx14 := bt_at a0 x5_1; replace p14 := eq_true p14; replace q14 := eq_true q14))
                  go_roundg k1
                  case measure => have := HK1.out; omega
                  case rel => exact ⟨(wrap64 (x5_1 + 1)), (by first | rfl | (simp; done) | (simp [*]; done)), H', ⟨by have := HK1.out; omega⟩, ⟨by repeat (first | (with_reducible first | exact HB.out | apply below_alloc | apply pw_below_drewN | apply below_drew1) | exact HB.out)⟩⟩
                · rw [if_neg c15] at H
                  have c15b0 : ((bt a0 x5_1) == 32) = false := beq_eq_false_iff_ne.mpr c15
                  have c15b1 : ((bt a0 x5_1) != 32) = true := bne_iff_ne.mpr c15
                  by_cases c18 : (bt a0 x5_1) = 9
                  · rw [if_pos c18] at H
                    have c18b0 : ((bt a0 x5_1) == 9) = true := beq_iff_eq.mpr c18
                    have c18b1 : ((bt a0 x5_1) != 9) = false := bne_eq_false_iff_eq.mpr c18
                    clear c18
                    have H' := Aside0.mk H
                    clear H
                    go_wp2_with (first | ((with_reducible refine gate_callee (f := 40) rfl ?_); refine goesL_ (some 16) rfl rfl Tryd.func40 (by kernel_rfl) rfl #[.string a0, .int .i64 a1] rfl (by (try simp only [List.map_toArray, List.map_cons, List.map_nil]); first | done | rfl | (simp only [List.length_drop, List.length_take]; rfl)) ?_; (with_reducible refine (calamusref04_End.calls a0 a1 t121 _ A10.out).mono ?_); rintro e w19 ⟨rfl, hb⟩; refine ⟨_, rfl, ?_⟩; have n0_ := Aside0.mk (below_step (by repeat (first | (with_reducible first | exact HB.out | apply below_alloc | apply pw_below_drewN | apply below_drew1) | exact HB.out)) hb); clear HB; have HB := n0_; clear n0_; (try clear hb); (try clear hb2); (try clear hk); (try clear hi); have p14 : 0 ≤ (x5_1 : Int) := of_decide_eq_true (by first | (with_reducible assumption) | assumption); have q14 : x5_1 < (a0.size : Int) := of_decide_eq_true (by first | (with_reducible assumption) | assumption); have hx14 := bt_at a0 x5_1; replace p14 := eq_true p14; replace q14 := eq_true q14; have p17 : 0 ≤ (x5_1 : Int) := of_decide_eq_true (by first | (with_reducible assumption) | assumption); have q17 : x5_1 < (a0.size : Int) := of_decide_eq_true (by first | (with_reducible assumption) | assumption); have hx17 := bt_at a0 x5_1; replace p17 := eq_true p17; replace q17 := eq_true q17))
                    go_roundg k1
                    case measure => have := HK1.out; omega
                    case rel => exact ⟨(wrap64 (x5_1 + 1)), (by first | rfl | (simp; done) | (simp [*]; done)), H', ⟨by have := HK1.out; omega⟩, ⟨by repeat (first | (with_reducible first | exact HB.out | apply below_alloc | apply pw_below_drewN | apply below_drew1) | exact HB.out)⟩⟩
                  · rw [if_neg c18] at H
                    have c18b0 : ((bt a0 x5_1) == 9) = false := beq_eq_false_iff_ne.mpr c18
                    have c18b1 : ((bt a0 x5_1) != 9) = true := bne_iff_ne.mpr c18
                    have H' := Aside0.mk H
                    clear H
                    go_wp2_with (first | ((with_reducible refine gate_callee (f := 40) rfl ?_); refine goesL_ (some 16) rfl rfl Tryd.func40 (by kernel_rfl) rfl #[.string a0, .int .i64 a1] rfl (by (try simp only [List.map_toArray, List.map_cons, List.map_nil]); first | done | rfl | (simp only [List.length_drop, List.length_take]; rfl)) ?_; (with_reducible refine (calamusref04_End.calls a0 a1 t121 _ A10.out).mono ?_); rintro e w20 ⟨rfl, hb⟩; refine ⟨_, rfl, ?_⟩; have n0_ := Aside0.mk (below_step (by repeat (first | (with_reducible first | exact HB.out | apply below_alloc | apply pw_below_drewN | apply below_drew1) | exact HB.out)) hb); clear HB; have HB := n0_; clear n0_; (try clear hb); (try clear hb2); (try clear hk); (try clear hi); have p14 : 0 ≤ (x5_1 : Int) := of_decide_eq_true (by first | (with_reducible assumption) | assumption); have q14 : x5_1 < (a0.size : Int) := of_decide_eq_true (by first | (with_reducible assumption) | assumption); have hx14 := bt_at a0 x5_1; replace p14 := eq_true p14; replace q14 := eq_true q14; have p17 : 0 ≤ (x5_1 : Int) := of_decide_eq_true (by first | (with_reducible assumption) | assumption); have q17 : x5_1 < (a0.size : Int) := of_decide_eq_true (by first | (with_reducible assumption) | assumption); have hx17 := bt_at a0 x5_1; replace p17 := eq_true p17; replace q17 := eq_true q17))
                    go_meet
                    case rel => exact ⟨_, (x5_1), (by first | rfl | (simp; done) | (simp [*]; done)), H', ⟨by have := HK1.out; first | omega | exact Nat.le_refl _⟩, ⟨by repeat (first | (with_reducible first | exact HB.out | apply below_alloc | apply pw_below_drewN | apply below_drew1) | exact HB.out)⟩⟩
              · rw [if_neg c13] at H
                exact absurd H (by simp)
            · rw [if_neg c12] at H
              exact absurd H (by simp)
          · rw [if_neg c11] at H
            have c11b0 : decide (x5_1 < t121) = false := decide_eq_false c11
            clear c11
            (first | rw [c11b0] | (simp only [i64_w, i32_w]; rw [c11b0]) | skip)
            have H' := Aside0.mk H
            clear H
            go_wp2_with (first | ((with_reducible refine gate_callee (f := 40) rfl ?_); refine goesL_ (some 16) rfl rfl Tryd.func40 (by kernel_rfl) rfl #[.string a0, .int .i64 a1] rfl (by (try simp only [List.map_toArray, List.map_cons, List.map_nil]); first | done | rfl | (simp only [List.length_drop, List.length_take]; rfl)) ?_; (with_reducible refine (calamusref04_End.calls a0 a1 t121 _ A10.out).mono ?_); rintro e w21 ⟨rfl, hb⟩; refine ⟨_, rfl, ?_⟩; have n0_ := Aside0.mk (below_step (by repeat (first | (with_reducible first | exact HB.out | apply below_alloc | apply pw_below_drewN | apply below_drew1) | exact HB.out)) hb); clear HB; have HB := n0_; clear n0_; (try clear hb); (try clear hb2); (try clear hk); (try clear hi)))
            go_meet
            case rel => exact ⟨_, (x5_1), (by first | rfl | (simp; done) | (simp [*]; done)), H', ⟨by have := HK1.out; first | omega | exact Nat.le_refl _⟩, ⟨by repeat (first | (with_reducible first | exact HB.out | apply below_alloc | apply pw_below_drewN | apply below_drew1) | exact HB.out)⟩⟩
    case rest =>
      clear HC7
      try clear c1
      try clear p1
      try clear q1
      try clear hx1
      try clear p2
      try clear c3
      try clear c4
      try clear c4b0
      try clear p6
      try clear c11
      try clear c11b0
      try clear c12
      try clear c12b0
      try clear c13
      try clear c13b0
      try clear p14
      try clear q14
      try clear hx14
      try clear c15
      try clear c15b0
      try clear c15b1
      try clear p17
      try clear q17
      try clear hx17
      try clear c18
      try clear c18b0
      try clear c18b1
      try clear p14
      try clear p17
      try clear p2
      try clear q14
      try clear q17
      obtain ⟨kq, x5_6, rfl, HA, HJ6, HB⟩ := hcut
      cases kq with
      | zero => exact absurd HA.out (by simp [calamusref04_First.j1])
      | succ kj6 =>
        have H := HA.out
        clear HA
        simp only [calamusref04_First.j1] at H
        replace H := Option.bind_eq_some_iff.mp H
        obtain ⟨t122, A220, H⟩ := H
        replace H : (if x5_6 = t122 then ((calamusref04_Clamp.f kj6 a0 x5_6).bind fun t123 => (some t123)) else (some x5_6)) = some r := H
        have A22 := Aside0.mk A220
        clear A220
        by_cases c23 : x5_6 = t122
        · rw [if_pos c23] at H
          have c23b0 : (x5_6 == t122) = true := beq_iff_eq.mpr c23
          have c23b1 : (x5_6 != t122) = false := bne_eq_false_iff_eq.mpr c23
          clear c23
          replace H := Option.bind_eq_some_iff.mp H
          obtain ⟨t123, A240, H⟩ := H
          replace H : (some t123) = some r := H
          have A24 := Aside0.mk A240
          clear A240
          obtain rfl := Option.some.inj H
          go_wp2_with (first | ((with_reducible refine gate_callee (f := 40) rfl ?_); refine goesL_ (some 35) rfl rfl Tryd.func40 (by kernel_rfl) rfl #[.string a0, .int .i64 a1] rfl (by (try simp only [List.map_toArray, List.map_cons, List.map_nil]); first | done | rfl | (simp only [List.length_drop, List.length_take]; rfl)) ?_; (with_reducible refine (calamusref04_End.calls a0 a1 t122 _ A22.out).mono ?_); rintro e w25 ⟨rfl, hb⟩; refine ⟨_, rfl, ?_⟩; have n0_ := Aside0.mk (below_step (by repeat (first | (with_reducible first | exact HB.out | apply below_alloc | apply pw_below_drewN | apply below_drew1) | exact HB.out)) hb); clear HB; have HB := n0_; clear n0_; (try clear hb); (try clear hb2); (try clear hk); (try clear hi)) | ((with_reducible refine gate_callee (f := 74) rfl ?_); refine goesL_ (some 39) rfl rfl Tryd.func74 (by kernel_rfl) rfl #[.string a0, .int .i64 x5_6] rfl (by (try simp only [List.map_toArray, List.map_cons, List.map_nil]); first | done | rfl | (simp only [List.length_drop, List.length_take]; rfl)) ?_; (with_reducible refine (calamusref04_Clamp.calls kj6 a0 x5_6 t123 _ A24.out).mono ?_); rintro e w26 ⟨rfl, hb⟩; refine ⟨_, rfl, ?_⟩; have n0_ := Aside0.mk (below_step (by repeat (first | (with_reducible first | exact HB.out | apply below_alloc | apply pw_below_drewN | apply below_drew1) | exact HB.out)) hb); clear HB; have HB := n0_; clear n0_; (try clear hb); (try clear hb2); (try clear hk); (try clear hi)))
          go_ret
          exact ⟨by first | rfl | (simp [errW_none, errW_some] <;> rfl) | (simp [*, errW_none, errW_some] <;> rfl), by repeat (first | (with_reducible first | exact HB.out | apply below_alloc | apply pw_below_drewN | apply below_drew1) | exact HB.out)⟩
        · rw [if_neg c23] at H
          have c23b0 : (x5_6 == t122) = false := beq_eq_false_iff_ne.mpr c23
          have c23b1 : (x5_6 != t122) = true := bne_iff_ne.mpr c23
          obtain rfl := Option.some.inj H
          go_wp2_with (first | ((with_reducible refine gate_callee (f := 40) rfl ?_); refine goesL_ (some 35) rfl rfl Tryd.func40 (by kernel_rfl) rfl #[.string a0, .int .i64 a1] rfl (by (try simp only [List.map_toArray, List.map_cons, List.map_nil]); first | done | rfl | (simp only [List.length_drop, List.length_take]; rfl)) ?_; (with_reducible refine (calamusref04_End.calls a0 a1 t122 _ A22.out).mono ?_); rintro e w27 ⟨rfl, hb⟩; refine ⟨_, rfl, ?_⟩; have n0_ := Aside0.mk (below_step (by repeat (first | (with_reducible first | exact HB.out | apply below_alloc | apply pw_below_drewN | apply below_drew1) | exact HB.out)) hb); clear HB; have HB := n0_; clear n0_; (try clear hb); (try clear hb2); (try clear hk); (try clear hi)))
          go_ret
          exact ⟨by first | rfl | (simp [errW_none, errW_some] <;> rfl) | (simp [*, errW_none, errW_some] <;> rfl), by repeat (first | (with_reducible first | exact HB.out | apply below_alloc | apply pw_below_drewN | apply below_drew1) | exact HB.out)⟩

end Go.Proofs.YtbilknmcikmcoaaDoor.QO
/- The document's normal places and first signs (calamusref04) and the statements LineNormal, LineLeads in plain words (MOD QO). -/
namespace Go.Proofs.YtbilknmcikmcoaaDoor
open Go.RowKit
set_option linter.unusedVariables false
set_option linter.unusedSimpArgs false
open Go.RowKit Go.Proofs.YtbilknmcikmcoaaDoor.QO Go.Proofs.YtbilknmcikmcoaaDoorW.PrintWords Go.Proofs.YtbilknmcikmcoaaDoorW.PrintMore
theorem rnormal_val (t : ByteArray) (p : Int) (ht : t.size ≤ 1000000) : calamusref04_Normal.f t p = some (normalB (ls t) p) := by
  unfold calamusref04_Normal.f normalB
  rw [calamusref03_Place.eq t p (by omega)]
  simp only [Option.bind_some]
  split
  · rename_i hp
    obtain ⟨a, rfl, ha⟩ : ∃ a : Nat, p = a ∧ a ≤ (ls t).length := by
      unfold placeB at hp; simp at hp; exact ⟨p.toNat, by omega, by simp; omega⟩
    obtain ⟨_, hl, hv⟩ := valid_at hp
    obtain ⟨h1, h2, e, h3, h4, h5⟩ := start_of hl hv
    have he := line_end hp h3
    rw [calamusref04_Of.eq t a (by omega)]
    simp only [Option.bind_some]
    rw [calamusref04_End.eq t _ (by omega), h3]
    simp only [Option.bind_some]
    rw [hp, Bool.true_and, Int.toNat_natCast]
    split
    · rename_i hlt
      have : endsB (ls t) a = false := by
        unfold endsB
        have := (end_gt hp h3).1.1 (by omega)
        rw [decide_eq_false (by omega), decide_eq_false this.2]; rfl
      rw [this]; rfl
    · rename_i hlt
      have hae : a = e := by omega
      subst hae
      have : endsB (ls t) a = true := by unfold endsB; simpa using he
      rw [this, calamusref04_Start.eq t _ (by omega), h2]
      simp only [Option.bind_some]
      congr 1
      rw [Bool.eq_iff_iff]; simp; omega
  · rename_i hp
    rw [show placeB (ls t) p = false by simpa using hp]; rfl
theorem rclamp_l0' (t : ByteArray) (ht : t.size ≤ 1000000) (hv : validL (ls t) = true) : ∀ k : Nat, k ≤ t.size → Ev (fun n => calamusref04_Clamp.l0 n t k) (if endsB (ls t) (downTo (ls t) k) = true ∧ lst (ls t) (downTo (ls t) k) < downTo (ls t) k then prevI (ls t) (downTo (ls t) k : Nat) else (downTo (ls t) k : Nat)) := by
  have hit : ∀ k : Nat, k ≤ t.size → placeB (ls t) k = true → Ev (fun n => calamusref04_Clamp.l0 n t k) (if endsB (ls t) k = true ∧ lst (ls t) k < k then prevI (ls t) (k : Nat) else (k : Nat)) := by
    intro k hk hp
    refine Ev.step (fun _ => (by rw [calamusref04_Clamp.l0])) ?_
    rw [calamusref03_Place.eq t k (by omega), rnormal_val t k ht, calamusref03_Prev.eq t k (by omega)]
    simp only [Option.bind_some]
    have hle := lst_le (ls t) k
    refine Ev.pos hp (Ev.ite (fun h => ?_) (fun h => ?_))
    · rw [if_neg (show ¬ (endsB (ls t) k = true ∧ lst (ls t) k < k) from fun hc => by
        unfold normalB at h; rw [hp, Int.toNat_natCast, hc.1] at h; simp at h; omega)]
      exact Ev.ret rfl
    · rw [if_pos (show endsB (ls t) k = true ∧ lst (ls t) k < k by
        unfold normalB at h; rw [hp, Int.toNat_natCast] at h; simp at h; exact ⟨h.1, by omega⟩)]
      exact Ev.ret rfl
  intro k
  induction k with
  | zero => intro hk; exact hit 0 hk (place_zero hv)
  | succ k ih =>
    intro hk
    rcases Bool.eq_false_or_eq_true (placeB (ls t) ((k + 1 : Nat) : Int)) with hp | hp
    · rw [downTo_hit hp]; exact hit (k + 1) hk hp
    · rw [downTo_miss hp]
      refine Ev.step (fun _ => (by rw [calamusref04_Clamp.l0])) ?_
      rw [calamusref03_Place.eq t _ (by omega)]
      simp only [Option.bind_some]
      rw [w64 (n := ((k + 1 : Nat) : Int) - 1) (by omega) (by omega), show ((k + 1 : Nat) : Int) - 1 = k by omega]
      exact Ev.neg (by rw [hp]; decide) (ih (by omega))
theorem rclamp_ev' (t : ByteArray) (p : Int) (ht : t.size ≤ 1000000) : Ev (fun k => calamusref04_Clamp.f k t p) (clampI (ls t) p) := by
  unfold calamusref04_Clamp.f clampI
  rw [calamusref03_Valid.eq t (by omega)]
  simp only [Option.bind_some]
  refine Ev.ite (fun hv => ?_) (fun hv => ?_)
  · rw [if_pos hv]
    have key : ∀ x : Int, x = cutI (ls t) p → Ev (fun k => calamusref04_Clamp.j1 k t x) (let q := downTo (ls t) (cutI (ls t) p); if endsB (ls t) q = true ∧ lst (ls t) q < q then prevI (ls t) q else q) := by
      rintro x rfl
      refine Ev.step (fun _ => (by rw [calamusref04_Clamp.j1])) ?_
      exact rclamp_l0' t ht hv _ (by unfold cutI; rw [ls_len]; omega)
    refine Ev.ite (fun h => ?_) (fun h => ?_)
    · refine Ev.step (fun _ => (by rw [calamusref04_Clamp.j0])) ?_
      exact Ev.neg (by omega) (key _ (by unfold cutI; rw [ls_len]; omega))
    · refine Ev.step (fun _ => (by rw [calamusref04_Clamp.j0])) ?_
      refine Ev.ite (fun h2 => ?_) (fun h2 => ?_)
      · exact key _ (by unfold cutI; rw [ls_len]; omega)
      · exact key _ (by unfold cutI; rw [ls_len]; omega)
  · rw [if_neg hv]; exact Ev.ret rfl
theorem rfirst_l0 (t : ByteArray) (ht : t.size ≤ 1000000) (k : Int) (b : Nat) (hb : b ≤ t.size) (he : endI (ls t) k = b) : ∀ (d p : Nat), b - p ≤ d → p ≤ b → Ev (fun n => calamusref04_First.l0 n t k p) (if p + blk (rowL (ls t) (p, b)) = b then clampI (ls t) b else ((p + blk (rowL (ls t) (p, b)) : Nat) : Int)) := by
  have hbl : b ≤ (ls t).length := by rw [ls_len]; exact hb
  have stop : ∀ p : Nat, p ≤ b → (p = b ∨ p < b ∧ ¬ (byL (ls t) p = 32 ∨ byL (ls t) p = 9)) → Ev (fun n => calamusref04_First.j1 n t k p) (if p + blk (rowL (ls t) (p, b)) = b then clampI (ls t) b else ((p + blk (rowL (ls t) (p, b)) : Nat) : Int)) := by
    intro p hp h
    refine Ev.step (fun _ => (by rw [calamusref04_First.j1])) ?_
    rw [calamusref04_End.eq t k (by omega), he]
    simp only [Option.bind_some]
    rcases h with rfl | ⟨h1, h2⟩
    · rw [blk_nil, if_pos (show p + 0 = p from rfl)]
      exact Ev.pos rfl (Ev.bind (rclamp_ev' t p ht) (Ev.ret rfl))
    · rw [blk_no h1 hbl h2, if_neg (show ¬ p + 0 = b by omega)]
      exact Ev.neg (by omega) (Ev.ret rfl)
  intro d
  induction d with
  | zero =>
    intro p h1 h2
    obtain rfl : p = b := by omega
    refine Ev.step (fun _ => (by rw [calamusref04_First.l0])) ?_
    rw [calamusref04_End.eq t k (by omega), he]
    simp only [Option.bind_some]
    exact Ev.neg (by omega) (stop p (Nat.le_refl _) (.inl rfl))
  | succ d ih =>
    intro p h1 h2
    by_cases hpb : p = b
    · exact ih p (by omega) h2
    · have hn := ih (p + 1) (by omega) (by omega)
      refine Ev.step (fun _ => (by rw [calamusref04_First.l0])) ?_
      rw [calamusref04_End.eq t k (by omega), he, bt_nat t p (by omega)]
      simp only [Option.bind_some]
      rw [w64 (n := (p : Int) + 1) (by omega) (by omega), show (p : Int) + 1 = ((p + 1 : Nat) : Int) by omega]
      have on : (byL (ls t) p = 32 ∨ byL (ls t) p = 9) → Ev (fun n => calamusref04_First.l0 n t k ((p + 1 : Nat) : Int)) (if p + blk (rowL (ls t) (p, b)) = b then clampI (ls t) b else ((p + blk (rowL (ls t) (p, b)) : Nat) : Int)) := by
        intro h
        rw [blk_yes (by omega) hbl h, show p + (blk (rowL (ls t) (p + 1, b)) + 1) = p + 1 + blk (rowL (ls t) (p + 1, b)) by omega]
        exact hn
      refine Ev.pos (by omega) (Ev.pos (by omega) (Ev.pos (by omega) (Ev.ite (fun h => on (.inl h)) (fun h => Ev.ite (fun h3 => on (.inr h3)) (fun h3 => stop p h2 (.inr ⟨by omega, by omega⟩))))))
theorem rfirst_ev (t : ByteArray) (k : Int) (ht : t.size ≤ 1000000) : Ev (fun n => calamusref04_First.f n t k) (firstI (ls t) k) := by
  unfold calamusref04_First.f firstI
  rw [calamusref04_Start.eq t k (by omega)]
  simp only [Option.bind_some]
  cases hl : lineI (ls t) k with
  | none =>
    have hs : startI (ls t) k = -1 := by unfold startI; rw [hl]
    rw [hs]; exact Ev.pos (by omega) (Ev.ret rfl)
  | some x =>
    obtain ⟨a1, a2, a3, _, _⟩ := lineI_le hl
    rw [ls_len] at a2
    have hs : startI (ls t) k = x.1 := by unfold startI; rw [hl]
    have he : endI (ls t) k = x.2 := by unfold endI; rw [hl]
    have hrl : (rowL (ls t) x).length = x.2 - x.1 := rowL_len a1 (by rw [ls_len]; exact a2)
    have key := rfirst_l0 t ht k x.2 a2 he _ x.1 (Nat.le_refl _) a1
    rw [hs]
    show Ev _ (if blk (rowL (ls t) x) = (rowL (ls t) x).length then clampI (ls t) x.2 else ((x.1 + blk (rowL (ls t) x) : Nat) : Int))
    rw [hrl]
    have e : (if x.1 + blk (rowL (ls t) (x.1, x.2)) = x.2 then clampI (ls t) x.2 else ((x.1 + blk (rowL (ls t) (x.1, x.2)) : Nat) : Int)) = (if blk (rowL (ls t) x) = x.2 - x.1 then clampI (ls t) x.2 else ((x.1 + blk (rowL (ls t) x) : Nat) : Int)) := by
      by_cases hc : blk (rowL (ls t) x) = x.2 - x.1
      · rw [if_pos hc, if_pos (show x.1 + blk (rowL (ls t) (x.1, x.2)) = x.2 by have : blk (rowL (ls t) (x.1, x.2)) = x.2 - x.1 := hc; omega)]
      · rw [if_neg hc, if_neg (show ¬ x.1 + blk (rowL (ls t) (x.1, x.2)) = x.2 by intro h; exact hc (by have : blk (rowL (ls t) (x.1, x.2)) = blk (rowL (ls t) x) := rfl; omega))]
    rw [e] at key
    exact Ev.neg (by omega) key
end Go.Proofs.YtbilknmcikmcoaaDoor
