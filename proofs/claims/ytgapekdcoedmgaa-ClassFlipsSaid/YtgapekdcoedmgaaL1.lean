/- The contract of line.find. -/
import Derived.Test.YtgapekdcoedmgaaL0
namespace Go.Proofs.Ytgapekdcoedmgaa
open Go.RowKit
set_option linter.unusedVariables false
set_option linter.unusedSimpArgs false
open Go.Shelf
attribute [local go_sem] Oper.semAt_some

theorem ret3b {a b a' b' : Int} {c c' : Bool} (h1 : a = a') (h2 : b = b') (h3 : c = c') : Ending.returned (.tuple #[.int .i64 a, .int .i64 b, .bool c]) = .returned (.tuple #[.int .i64 a', .int .i64 b', .bool c']) := by rw [h1, h2, h3]
theorem line_none {l : List UInt8} {k : Int} (h : lineI l k = none) : startI l k = -1 ∧ endI l k = -1 ∧ (lineI l k).isSome = false := by
  unfold startI endI; rw [h]; exact ⟨rfl, rfl, rfl⟩
theorem line_some {l : List UInt8} {k : Int} {x : Nat × Nat} (h : lineI l k = some x) : startI l k = x.1 ∧ endI l k = x.2 ∧ (lineI l k).isSome = true := by
  unfold startI endI; rw [h]; exact ⟨rfl, rfl, rfl⟩

/-- What lies in the blocks of line.find behind its first call. -/
theorem lfind_start (w w1 : World) (k : Int) (hx1 : Ext ((((w.alloc (.cells #[.int .i64 k] 3)).alloc (.cells #[.int .i64 0] 3)).alloc (.cells #[.int .i64 0] 3)).alloc (.cells #[.bool false] 4)) w1) :
    w.heap.size + 4 ≤ w1.heap.size ∧ Ext w w1 ∧ w1.cell? ⟨w.heap.size, 0, none⟩ = some (.int .i64 k) ∧
      (w1.cell? ⟨w.heap.size + 1, 0, none⟩ = some (.int .i64 0) ∧ w1.frozen? ⟨w.heap.size + 1, 0, none⟩ = false) ∧
      (w1.cell? ⟨w.heap.size + 1 + 1, 0, none⟩ = some (.int .i64 0) ∧ w1.frozen? ⟨w.heap.size + 1 + 1, 0, none⟩ = false) ∧
      (w1.cell? ⟨w.heap.size + 1 + 1 + 1, 0, none⟩ = some (.bool false) ∧ w1.frozen? ⟨w.heap.size + 1 + 1 + 1, 0, none⟩ = false) := by
  have hz := hx1.size
  simp at hz
  obtain ⟨hc, hf, -⟩ := hx1.rules
  simp only [World.size_alloc] at hc hf
  refine ⟨by omega, ((((Ext.refl w).alloc _).alloc _).alloc _).alloc _ |>.trans hx1, ?_, ⟨?_, ?_⟩, ⟨?_, ?_⟩, ⟨?_, ?_⟩⟩
  · rw [hc _ _ (by omega)]; simp [go_sem]
  · rw [hc _ _ (by omega)]; simp [go_sem]
  · rw [hf _ _ (by omega)]; simp [go_sem]
  · rw [hc _ _ (by omega)]; simp [go_sem]
  · rw [hf _ _ (by omega)]; simp [go_sem]
  · rw [hc _ _ (by omega)]; simp [go_sem]
  · rw [hf _ _ (by omega)]; simp [go_sem]
set_option maxHeartbeats 4000000 in
set_option maxRecDepth 100000 in
theorem lfind_bad (s : ByteArray) (k : Int) (w : World) (hs : s.size ≤ 1152921504606846976) (hv : validL (ls s) = false) : Calls Try.prog 49 #[.string s, .int .i64 k] w fun e w' => e = .returned (.tuple #[.int .i64 (startI (ls s) k), .int .i64 (endI (ls s) k), .bool (lineI (ls s) k).isSome]) ∧ Ext w w' := by
  have hn : lineI (ls s) k = none := by unfold lineI; simp [hv]
  obtain ⟨h1, h2, h3⟩ := line_none hn
  have H1 := Lib.hid h1
  have H2 := Lib.hid h2
  have H3 := Lib.hid h3
  clear h1 h2 h3 hn
  go_enter Try.func49, Try.ntmps49
  go_wp2_with (first | (go_at_call 15; refine (valid_c _ _ hs).mono ?_; rintro e w1 ⟨rfl, hx1⟩; obtain ⟨hz, hx, c0, ⟨c1, f1⟩, ⟨c2, f2⟩, ⟨c3, f3⟩⟩ := lfind_start _ _ _ hx1; clear hx1))
  refine bodyPost_ret (v := .tuple #[.int .i64 (-1), .int .i64 (-1), .bool false]) (by simp [results, Try.results49, go_sem, c1, c2, c3]) rfl ⟨ret3b H1.out.symm H2.out.symm H3.out.symm, (by (repeat (first | exact Ext.refl _ | exact ‹Ext _ _› | refine Ext.alloc ?_ _ | refine Ext.drew ?_ | refine Ext.drewN ?_ _ | (refine Ext.setCell ?_ (by first | omega | (simp; done) | (simp; omega)) _) | refine Ext.trans ?_ ‹Ext _ _›)))⟩

set_option maxHeartbeats 4000000 in
set_option maxRecDepth 100000 in
theorem lfind_ok (s : ByteArray) (k : Int) (w : World) (hs : s.size ≤ 1152921504606846976) (hv : validL (ls s) = true) : Calls Try.prog 49 #[.string s, .int .i64 k] w fun e w' => e = .returned (.tuple #[.int .i64 (startI (ls s) k), .int .i64 (endI (ls s) k), .bool (lineI (ls s) k).isSome]) ∧ Ext w w' := by
  refine (callsIn_wide (n := 5)).1 ?_
  refine callsIn_of_wp_marks Try.func49 rfl trivial ?_ rfl
  simp only [Try.ntmps49, List.size_toArray, List.length_cons, List.length_nil, Nat.reduceAdd, Nat.reduceSub, Array.replicate_succ, Array.replicate_zero, List.push_toArray, List.append_toArray, List.nil_append, List.cons_append]
  gi_wp2_with (first | ((first | refine ⟨trivial, (fun _ => by omega), ?_⟩ | refine ⟨trivial, ?_⟩); gi_at_call 15; refine (callsIn_wide.2 (valid_c _ _ hs)).mono ?_; rintro e w1 ⟨rfl, hx1⟩; obtain ⟨hz, hx, c0, ⟨c1, f1⟩, ⟨c2, f2⟩, ⟨c3, f3⟩⟩ := lfind_start _ _ _ hx1; clear hx1) | ((first | refine ⟨trivial, (fun _ => by omega), ?_⟩ | refine ⟨trivial, ?_⟩); gi_at_call 64; refine (callsIn_wide.2 (all_c _ _)).mono ?_; rintro e w2 ⟨rfl, rfl⟩))
  obtain ⟨W0, hW0⟩ : ∃ W0, (w1.alloc (.cells #[.int .i64 0] 3)).alloc (.cells #[.string s] 9) = W0 := ⟨_, rfl⟩
  have x0 : Ext w1 W0 := by rw [← hW0]; exact ((Ext.refl _).alloc _).alloc _
  have s0 : W0.heap.size = w1.heap.size + 2 := by rw [← hW0]; simp
  have d0 := x0.keep c0
  have d1 := x0.keep c1
  have g1 := x0.unfr c1 f1
  have d2 := x0.keep c2
  have g2 := x0.unfr c2 f2
  have d3 := x0.keep c3
  have g3 := x0.unfr c3 f3
  have d4 : W0.cell? ⟨w1.heap.size, 0, none⟩ = some (.int .i64 0) := by rw [← hW0]; exact ((Ext.refl _).alloc _).keep (cell_new w1 _ _)
  have g4 : W0.frozen? ⟨w1.heap.size, 0, none⟩ = false := by rw [← hW0]; exact ((Ext.refl _).alloc _).unfr (cell_new w1 _ _) (unfr_new w1 _ _)
  have d5 : W0.cell? ⟨w1.heap.size + 1, 0, none⟩ = some (.string s) := by rw [← hW0]; have := cell_new (w1.alloc (.cells #[.int .i64 0] 3)) (.string s) 9; rwa [World.size_alloc] at this
  have xw : Ext w W0 := hx.trans x0
  rw [hW0]
  clear hW0 c0 c1 f1 c2 f2 c3 f3
  have hll : (lns (ls s)).length ≤ s.size + 1 := by rw [lns_len, ← ls_len s]; have := tens_le (ls s); omega
  refine wpIn_rangeFunc_ownF rfl (by omega) (gf := 69) (lb := #[.pointer (some ⟨w1.heap.size + 1, 0, none⟩)]) rfl trivial (enters_of Try.func69 (by kernel_rfl) rfl)
    (all_stops 4 (by omega) (w1.heap.size + 1) s hs W0 d5) KeepC.t (fun W l o o' h => KeepC.b (w := W0) W l o o' h) (Below.refl _ _) (fun _ => rfl)
    (fun pre W => ((k < 0 ∨ (pre.length : Int) ≤ k) ∧ W.cell? ⟨w.heap.size, 0, none⟩ = some (.int .i64 k) ∧
      (W.cell? ⟨w.heap.size + 1, 0, none⟩ = some (.int .i64 0) ∧ W.frozen? ⟨w.heap.size + 1, 0, none⟩ = false) ∧
      (W.cell? ⟨w.heap.size + 1 + 1, 0, none⟩ = some (.int .i64 0) ∧ W.frozen? ⟨w.heap.size + 1 + 1, 0, none⟩ = false) ∧
      (W.cell? ⟨w.heap.size + 1 + 1 + 1, 0, none⟩ = some (.bool false) ∧ W.frozen? ⟨w.heap.size + 1 + 1 + 1, 0, none⟩ = false) ∧
      (W.cell? ⟨w1.heap.size, 0, none⟩ = some (.int .i64 pre.length) ∧ W.frozen? ⟨w1.heap.size, 0, none⟩ = false)) ∧ Below w.heap.size w W)
    (fun c pre W => (c = .ret ∧ ∃ x pre', pre = pre' ++ [x] ∧ (pre'.length : Int) = k ∧
      W.cell? ⟨w.heap.size + 1, 0, none⟩ = some (.int .i64 (x.1 : Nat)) ∧ W.cell? ⟨w.heap.size + 1 + 1, 0, none⟩ = some (.int .i64 (x.2 : Nat)) ∧ W.cell? ⟨w.heap.size + 1 + 1 + 1, 0, none⟩ = some (.bool true)) ∧ Below w.heap.size w W)
    (OwnFrom.and (Own.from (fun s A B row hs hg hr => ⟨hs.1, cell_kept hs.2.1 hg hr, ⟨cell_kept hs.2.2.1.1 hg hr, (frozen_kept hs.2.2.1.1 hg hr).trans hs.2.2.1.2⟩, ⟨cell_kept hs.2.2.2.1.1 hg hr, (frozen_kept hs.2.2.2.1.1 hg hr).trans hs.2.2.2.1.2⟩, ⟨cell_kept hs.2.2.2.2.1.1 hg hr, (frozen_kept hs.2.2.2.2.1.1 hg hr).trans hs.2.2.2.2.1.2⟩, ⟨cell_kept hs.2.2.2.2.2.1 hg hr, (frozen_kept hs.2.2.2.2.2.1 hg hr).trans hs.2.2.2.2.2.2⟩⟩) _) (ownFrom_below (Nat.le_refl _) (by omega)))
    (fun c => OwnFrom.and (Own.from (fun s A B row hs hg hr => ⟨hs.1, by obtain ⟨-, x, pre', h1, h2, h3, h4, h5⟩ := hs; exact ⟨x, pre', h1, h2, cell_kept h3 hg hr, cell_kept h4 hg hr, cell_kept h5 hg hr⟩⟩) _) (ownFrom_below (Nat.le_refl _) (by omega)))
    ⟨⟨by simp; omega, d0, ⟨d1, g1⟩, ⟨d2, g2⟩, ⟨d3, g3⟩, ⟨d4, g4⟩⟩, xw⟩
    (fun x => { tmps := #[.string s, .int .i64 k, undef, .pointer (some ⟨w.heap.size, 0, none⟩), .pointer (some ⟨w.heap.size + 1, 0, none⟩), .pointer (some ⟨w.heap.size + 1 + 1, 0, none⟩), .pointer (some ⟨w.heap.size + 1 + 1 + 1, 0, none⟩), .pointer (some ⟨w1.heap.size, 0, none⟩), .int .i64 (x.1 : Nat), .int .i64 (x.2 : Nat), .string s, .bool true, .bool false, .string s, .func (.func 69) #[] #[.pointer (some ⟨w1.heap.size + 1, 0, none⟩)], .int .i64 (x.1 : Nat), .int .i64 (x.2 : Nat), undef, undef, undef, undef, undef, undef, undef], defers := [] }) ?assign ?body ?done ?stop
  case assign =>
    intro l x W K hK
    simp only [encP]
    gi_wp2
    exact hK
  case body =>
    rintro l pre x W ⟨⟨hk, e0, ⟨e1, i1⟩, ⟨e2, i2⟩, ⟨e3, i3⟩, ⟨e4, i4⟩⟩, hB⟩ hlen
    gi_wp2
    all_goals (try simp only [beq_iff_eq, beq_eq_false_iff_ne] at *)
    · refine ⟨((KeepsOthers.setCell _ _ _).trans (KeepsOthers.setCell _ _ _)).trans (KeepsOthers.setCell _ _ _), ⟨rfl, x, pre, rfl, by assumption, ?_, ?_, ?_⟩, ?_⟩
      · simp [go_sem, e1]
      · simp [go_sem, e2]
      · simp [go_sem, e3]
      · exact ((hB.setCell (p := ⟨w.heap.size + 1, 0, none⟩) (by simp) _).setCell (p := ⟨w.heap.size + 1 + 1, 0, none⟩) (by simp; omega) _).setCell (p := ⟨w.heap.size + 1 + 1 + 1, 0, none⟩) (by simp; omega) _
    · refine ⟨KeepsOthers.setCell _ _ _, KeepC.setCell (by simp) _, ⟨by simp; omega, ?_, ⟨?_, ?_⟩, ⟨?_, ?_⟩, ⟨?_, ?_⟩, ⟨?_, ?_⟩⟩, ?_⟩
      · exact cell_set_ne (by omega) e0
      · exact cell_set_ne (by omega) e1
      · exact unfr_set i1
      · exact cell_set_ne (by omega) e2
      · exact unfr_set i2
      · exact cell_set_ne (by omega) e3
      · exact unfr_set i3
      · rw [cell_set_eq e4]; simp
      · exact unfr_set i4
      · exact hB.setCell (p := ⟨w1.heap.size, 0, none⟩) (by simp; omega) _
  case done =>
    rintro D xs W hD rfl ⟨⟨hk, e0, ⟨e1, i1⟩, ⟨e2, i2⟩, ⟨e3, i3⟩, ⟨e4, i4⟩⟩, hB⟩ hK
    have hn : lineI (ls s) k = none := by
      unfold lineI
      split
      · exact List.getElem?_eq_none (by omega)
      · rfl
    obtain ⟨q1, q2, q3⟩ := line_none hn
    have Q1 := Lib.hid q1
    have Q2 := Lib.hid q2
    have Q3 := Lib.hid q3
    clear q1 q2 q3 hn hk
    gi_wp2
    have hK' := (((KeepsOthers.setCell W ⟨w.heap.size + 1, 0, none⟩ (.int .i64 (-1))).trans (KeepsOthers.setCell _ ⟨w.heap.size + 1 + 1, 0, none⟩ (.int .i64 (-1)))).trans (KeepsOthers.setCell _ ⟨w.heap.size + 1 + 1 + 1, 0, none⟩ (.bool false))).same D _ hK rfl
    refine ⟨by simp, .inl ⟨_, _, rfl, run_takeDeferred hK', ?_⟩⟩
    have k1 := cell_kept (cell_set_ne (b := w.heap.size + 1 + 1 + 1) (o := 0) (u := .bool false) (by omega) (cell_set_ne (b := w.heap.size + 1 + 1) (o := 0) (u := .int .i64 (-1)) (by omega) (cell_set_eq (u := .int .i64 (-1)) e1))) (grownBy_putObj' _ D (.deferred none)) (fun r e => by cases e; exact ⟨_, hK', rfl⟩)
    have k2 := cell_kept (cell_set_ne (b := w.heap.size + 1 + 1 + 1) (o := 0) (u := .bool false) (by omega) (cell_set_eq (u := .int .i64 (-1)) (cell_set_ne (b := w.heap.size + 1) (o := 0) (u := .int .i64 (-1)) (by omega) e2))) (grownBy_putObj' _ D (.deferred none)) (fun r e => by cases e; exact ⟨_, hK', rfl⟩)
    have k3 := cell_kept (cell_set_eq (u := .bool false) (cell_set_ne (b := w.heap.size + 1 + 1) (o := 0) (u := .int .i64 (-1)) (by omega) (cell_set_ne (b := w.heap.size + 1) (o := 0) (u := .int .i64 (-1)) (by omega) e3))) (grownBy_putObj' _ D (.deferred none)) (fun r e => by cases e; exact ⟨_, hK', rfl⟩)
    refine ⟨.tuple #[.int .i64 (-1), .int .i64 (-1), .bool false], ?_, ret3b Q1.out.symm Q2.out.symm Q3.out.symm, ?_⟩
    · simp [results, Try.f49, go_sem, k1, k2, k3]
    · exact (((hB.setCell (p := ⟨w.heap.size + 1, 0, none⟩) (by simp) _).setCell (p := ⟨w.heap.size + 1 + 1, 0, none⟩) (by simp; omega) _).setCell (p := ⟨w.heap.size + 1 + 1 + 1, 0, none⟩) (by simp; omega) _).trans (belowK_b (w := w) (Nat.le_refl _) _ D _ _ (by omega) hK' rfl rfl)
  case stop =>
    rintro D c pre W hD hpre ⟨⟨rfl, x, pre', rfl, h1, h2, h3, h4⟩, hB⟩ hK
    have hn : lineI (ls s) k = some x := by
      unfold lineI
      rw [if_pos ⟨hv, by omega⟩]
      obtain ⟨t, ht⟩ := hpre
      have hk : k.toNat = pre'.length := by omega
      rw [hk, ← ht]; simp
    obtain ⟨q1, q2, q3⟩ := line_some hn
    have Q1 := Lib.hid q1
    have Q2 := Lib.hid q2
    have Q3 := Lib.hid q3
    clear q1 q2 q3 hn
    gi_wp2
    refine ⟨by simp, .inl ⟨_, _, rfl, run_takeDeferred hK, ?_⟩⟩
    have k1 := cell_kept h2 (grownBy_putObj' _ D (.deferred none)) (fun r e => by cases e; exact ⟨_, hK, rfl⟩)
    have k2 := cell_kept h3 (grownBy_putObj' _ D (.deferred none)) (fun r e => by cases e; exact ⟨_, hK, rfl⟩)
    have k3 := cell_kept h4 (grownBy_putObj' _ D (.deferred none)) (fun r e => by cases e; exact ⟨_, hK, rfl⟩)
    refine ⟨.tuple #[.int .i64 (x.1 : Nat), .int .i64 (x.2 : Nat), .bool true], ?_, ret3b Q1.out.symm Q2.out.symm Q3.out.symm, ?_⟩
    · simp [results, Try.f49, go_sem, k1, k2, k3]
    · exact hB.trans (belowK_b (w := w) (Nat.le_refl _) W D _ _ (by omega) hK rfl rfl)

theorem lfind_c (s : ByteArray) (k : Int) (w : World) (hs : s.size ≤ 1152921504606846976) : Calls Try.prog 49 #[.string s, .int .i64 k] w fun e w' => e = .returned (.tuple #[.int .i64 (startI (ls s) k), .int .i64 (endI (ls s) k), .bool (lineI (ls s) k).isSome]) ∧ Ext w w' := by
  rcases Bool.eq_false_or_eq_true (validL (ls s)) with h | h
  · exact lfind_ok s k w hs h
  · exact lfind_bad s k w hs h

end Go.Proofs.Ytgapekdcoedmgaa
