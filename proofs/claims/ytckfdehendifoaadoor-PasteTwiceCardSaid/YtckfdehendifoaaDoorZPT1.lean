/- Joined by merge.py out of this work's texts: XU, L1, L2, L3, Sg, R4, R4b, XL, XJo, QP0, XF, QP1, Cl, Cf, R5, XC, XI, QP7, PPa, PPb, PPi. -/
import Derived.Test.YtckfdehendifoaaDoorZPT0
import Derived.Test.YtckfdehendifoaaDoorProg
import Derived.Below
import Derived.Deep.Draws
import Derived.Deep.AppendLies
import Derived.Maps.AppendAt
import Derived.OwnWalk
import Derived.Laws.BytesArg
import Derived.Laws.MakeOwn
import Derived.Laws.OwnMore
import Derived.Deep.OwnRows
import Derived.Tactics
import Derived.Lib.ConvBytes
import Derived.Laws.Slices
import Derived.WalkKit
import Derived.KernelRfl
import Derived.RowKit3
import Derived.Deep.LoopGhost
import Derived.Deep.QuietTactic
import Derived.BigQuiet
import Derived.WideLaws
import Derived.Deep.DeepCutAuto
import Derived.Deep.CutBlock
import Derived.Deep.RegionHeld3
import Derived.Laws.Rows
import Derived.Lib.AppendStr
import Derived.ArgAppend
import Derived.Laws.IdiomCopy
import Derived.OrdersHeld
import Derived.Laws.BitsLemmas
import Derived.RowKit
import Derived.Test.YtckfdehendifoaaDoorWWords
import Derived.Test.YtckfdehendifoaaDoorWLast
import Derived.Test.YtckfdehendifoaaDoorWTab
import Derived.Test.YtckfdehendifoaaDoorWQPut
import Derived.Test.YtckfdehendifoaaDoorWApart
import Derived.Test.YtckfdehendifoaaDoorWArr
import Derived.Test.YtckfdehendifoaaDoorWZeros
import Derived.Test.YtckfdehendifoaaDoorWFoot
import Derived.Test.YtckfdehendifoaaDoorWKept
import Derived.Test.YtckfdehendifoaaDoorWShare
import Derived.Test.YtckfdehendifoaaDoorWN
import Derived.Test.YtckfdehendifoaaDoorWFootNe
import Derived.Test.YtckfdehendifoaaDoorWEqStruct
import Derived.Test.YtckfdehendifoaaDoorWRepsOne
import Derived.Test.YtckfdehendifoaaDoorWNEv
import Derived.Test.YtckfdehendifoaaDoorWMore
import Derived.Laws.IdiomStrings
/- The contracts of the packages utf, calamusref03 and class in the printer's form. -/
namespace Go.Proofs.YtckfdehendifoaaDoor
open Go.RowKit
set_option linter.unusedVariables false
set_option linter.unusedSimpArgs false
def utf_Valid.f (a0 : ByteArray) : Option (Bool) := if a0.size ≤ 1099511627775 then some (validL (ls a0)) else none
theorem utf_Valid.eq (a0 : ByteArray) (hg : a0.size ≤ 1099511627775) : utf_Valid.f a0 = some (validL (ls a0)) := if_pos hg
theorem utf_Valid.calls (a0 : ByteArray) (r : Bool) (w : World) (h : utf_Valid.f a0 = some r) : Calls Tryd.prog 20 #[.string a0] w fun e w' => e = .returned (.bool r) ∧ Below w.heap.size w w' := by
  unfold utf_Valid.f at h
  split at h
  · cases h; exact valid_c a0 w (by omega)
  · cases h
def utf_inner.f (a0 : Int) : Option (Bool) := if 0 ≤ a0 ∧ a0 ≤ 255 then some (inn a0) else none
theorem utf_inner.eq (a0 : Int) (hg : 0 ≤ a0 ∧ a0 ≤ 255) : utf_inner.f a0 = some (inn a0) := if_pos hg
theorem utf_inner.calls (a0 : Int) (r : Bool) (w : World) (h : utf_inner.f a0 = some r) : Calls Tryd.prog 52 #[.int .u8 a0] w fun e w' => e = .returned (.bool r) ∧ Below w.heap.size w w' := by
  unfold utf_inner.f at h
  split at h
  · cases h; exact inner_c a0 (by omega) (by omega) w
  · cases h
def utf_Place.f (a0 : ByteArray) (a1 : Int) : Option (Bool) := if a0.size ≤ 1099511627775 then some (placeB (ls a0) a1) else none
theorem utf_Place.eq (a0 : ByteArray) (a1 : Int) (hg : a0.size ≤ 1099511627775) : utf_Place.f a0 a1 = some (placeB (ls a0) a1) := if_pos hg
theorem utf_Place.calls (a0 : ByteArray) (a1 : Int) (r : Bool) (w : World) (h : utf_Place.f a0 a1 = some r) : Calls Tryd.prog 19 #[.string a0, .int .i64 a1] w fun e w' => e = .returned (.bool r) ∧ Below w.heap.size w w' := by
  unfold utf_Place.f at h
  split at h
  · cases h; exact place_c a0 a1 w (by omega)
  · cases h
def utf_Next.f (a0 : ByteArray) (a1 : Int) : Option (Int) := if a0.size ≤ 1099511627775 then some (nextI (ls a0) a1) else none
theorem utf_Next.eq (a0 : ByteArray) (a1 : Int) (hg : a0.size ≤ 1099511627775) : utf_Next.f a0 a1 = some (nextI (ls a0) a1) := if_pos hg
theorem utf_Next.calls (a0 : ByteArray) (a1 : Int) (r : Int) (w : World) (h : utf_Next.f a0 a1 = some r) : Calls Tryd.prog 25 #[.string a0, .int .i64 a1] w fun e w' => e = .returned (.int .i64 r) ∧ Below w.heap.size w w' := by
  unfold utf_Next.f at h
  split at h
  · cases h; exact next_c a0 a1 w (by omega)
  · cases h
def utf_Prev.f (a0 : ByteArray) (a1 : Int) : Option (Int) := if a0.size ≤ 1099511627775 then some (prevI (ls a0) a1) else none
theorem utf_Prev.eq (a0 : ByteArray) (a1 : Int) (hg : a0.size ≤ 1099511627775) : utf_Prev.f a0 a1 = some (prevI (ls a0) a1) := if_pos hg
theorem utf_Prev.calls (a0 : ByteArray) (a1 : Int) (r : Int) (w : World) (h : utf_Prev.f a0 a1 = some r) : Calls Tryd.prog 29 #[.string a0, .int .i64 a1] w fun e w' => e = .returned (.int .i64 r) ∧ Below w.heap.size w w' := by
  unfold utf_Prev.f at h
  split at h
  · cases h; exact prev_c a0 a1 w (by omega)
  · cases h
def utf_Rune.f (a0 : ByteArray) (a1 : Int) : Option (ByteArray) := if a0.size ≤ 1099511627775 then some (⟨(runeL (ls a0) a1).toArray⟩) else none
theorem utf_Rune.eq (a0 : ByteArray) (a1 : Int) (hg : a0.size ≤ 1099511627775) : utf_Rune.f a0 a1 = some (⟨(runeL (ls a0) a1).toArray⟩) := if_pos hg
theorem utf_Rune.calls (a0 : ByteArray) (a1 : Int) (r : ByteArray) (w : World) (h : utf_Rune.f a0 a1 = some r) : Calls Tryd.prog 18 #[.string a0, .int .i64 a1] w fun e w' => e = .returned (.string r) ∧ Below w.heap.size w w' := by
  unfold utf_Rune.f at h
  split at h
  · cases h; exact rune_c a0 a1 w (by omega)
  · cases h
def utf_Count.f (a0 : ByteArray) : Option (Int) := if a0.size ≤ 140737488351232 then some (countI (ls a0)) else none
theorem utf_Count.eq (a0 : ByteArray) (hg : a0.size ≤ 140737488351232) : utf_Count.f a0 = some (countI (ls a0)) := if_pos hg
theorem utf_Count.calls (a0 : ByteArray) (r : Int) (w : World) (h : utf_Count.f a0 = some r) : Calls Tryd.prog 16 #[.string a0] w fun e w' => e = .returned (.int .i64 r) ∧ Below w.heap.size w w' := by
  unfold utf_Count.f at h
  split at h
  · cases h; exact count_c a0 w (by omega)
  · cases h
def calamusref03_Valid.f (a0 : ByteArray) : Option (Bool) := if a0.size ≤ 1099511627775 then some (validL (ls a0)) else none
theorem calamusref03_Valid.eq (a0 : ByteArray) (hg : a0.size ≤ 1099511627775) : calamusref03_Valid.f a0 = some (validL (ls a0)) := if_pos hg
theorem calamusref03_Valid.calls (a0 : ByteArray) (r : Bool) (w : World) (h : calamusref03_Valid.f a0 = some r) : Calls Tryd.prog 31 #[.string a0] w fun e w' => e = .returned (.bool r) ∧ Below w.heap.size w w' := by
  unfold calamusref03_Valid.f at h
  split at h
  · cases h; exact rvalid_c a0 w (by omega)
  · cases h
def calamusref03_Place.f (a0 : ByteArray) (a1 : Int) : Option (Bool) := if a0.size ≤ 1099511627775 then some (placeB (ls a0) a1) else none
theorem calamusref03_Place.eq (a0 : ByteArray) (a1 : Int) (hg : a0.size ≤ 1099511627775) : calamusref03_Place.f a0 a1 = some (placeB (ls a0) a1) := if_pos hg
theorem calamusref03_Place.calls (a0 : ByteArray) (a1 : Int) (r : Bool) (w : World) (h : calamusref03_Place.f a0 a1 = some r) : Calls Tryd.prog 30 #[.string a0, .int .i64 a1] w fun e w' => e = .returned (.bool r) ∧ Below w.heap.size w w' := by
  unfold calamusref03_Place.f at h
  split at h
  · cases h; exact rplace_c a0 a1 w (by omega)
  · cases h
def calamusref03_Next.f (a0 : ByteArray) (a1 : Int) : Option (Int) := if a0.size ≤ 1099511627775 then some (nextI (ls a0) a1) else none
theorem calamusref03_Next.eq (a0 : ByteArray) (a1 : Int) (hg : a0.size ≤ 1099511627775) : calamusref03_Next.f a0 a1 = some (nextI (ls a0) a1) := if_pos hg
theorem calamusref03_Next.calls (a0 : ByteArray) (a1 : Int) (r : Int) (w : World) (h : calamusref03_Next.f a0 a1 = some r) : Calls Tryd.prog 37 #[.string a0, .int .i64 a1] w fun e w' => e = .returned (.int .i64 r) ∧ Below w.heap.size w w' := by
  unfold calamusref03_Next.f at h
  split at h
  · cases h; exact rnext_c a0 a1 w (by omega)
  · cases h
def calamusref03_Prev.f (a0 : ByteArray) (a1 : Int) : Option (Int) := if a0.size ≤ 1099511627775 then some (prevI (ls a0) a1) else none
theorem calamusref03_Prev.eq (a0 : ByteArray) (a1 : Int) (hg : a0.size ≤ 1099511627775) : calamusref03_Prev.f a0 a1 = some (prevI (ls a0) a1) := if_pos hg
theorem calamusref03_Prev.calls (a0 : ByteArray) (a1 : Int) (r : Int) (w : World) (h : calamusref03_Prev.f a0 a1 = some r) : Calls Tryd.prog 41 #[.string a0, .int .i64 a1] w fun e w' => e = .returned (.int .i64 r) ∧ Below w.heap.size w w' := by
  unfold calamusref03_Prev.f at h
  split at h
  · cases h; exact rprev_c a0 a1 w (by omega)
  · cases h
def calamusref03_Rune.f (a0 : ByteArray) (a1 : Int) : Option (ByteArray) := if a0.size ≤ 1099511627775 then some (⟨(runeL (ls a0) a1).toArray⟩) else none
theorem calamusref03_Rune.eq (a0 : ByteArray) (a1 : Int) (hg : a0.size ≤ 1099511627775) : calamusref03_Rune.f a0 a1 = some (⟨(runeL (ls a0) a1).toArray⟩) := if_pos hg
theorem calamusref03_Rune.calls (a0 : ByteArray) (a1 : Int) (r : ByteArray) (w : World) (h : calamusref03_Rune.f a0 a1 = some r) : Calls Tryd.prog 63 #[.string a0, .int .i64 a1] w fun e w' => e = .returned (.string r) ∧ Below w.heap.size w w' := by
  unfold calamusref03_Rune.f at h
  split at h
  · cases h; exact rrune_c a0 a1 w (by omega)
  · cases h
end Go.Proofs.YtckfdehendifoaaDoor
/- The contract of line.find. -/
namespace Go.Proofs.YtckfdehendifoaaDoor
open Go.RowKit
set_option linter.unusedVariables false
set_option linter.unusedSimpArgs false
open Go.Shelf
attribute [local go_sem] Oper.semAt_some

theorem ret3b {a b a' b' : Int} {c c' : Bool} (h1 : a = a') (h2 : b = b') (h3 : c = c') : Ending.returned (.tuple #[.int .i64 a, .int .i64 b, .bool c]) = .returned (.tuple #[.int .i64 a', .int .i64 b', .bool c']) := by rw [h1, h2, h3]
theorem line_none {l : List UInt8} {k : Int} (h : lineI l k = none) : startI l k = -1 ∧ endI l k = -1 ∧ (lineI l k).isSome = false := by
  unfold startI endI; rw [h]; exact ⟨rfl, rfl, rfl⟩
theorem line_some {l : List UInt8} {k : Int} {x : Nat × Nat} (h : lineI l k = some x) : startI l k = x.1 ∧ endI l k = x.2 ∧ (lineI l k).isSome = true := by
  unfold startI endI; rw [h]; exact ⟨rfl, rfl, rfl⟩

theorem lfind_start (w w1 : World) (k : Int) (hx1 : Ext ((((w.alloc (.cells #[.int .i64 k] 3)).alloc (.cells #[.int .i64 0] 3)).alloc (.cells #[.int .i64 0] 3)).alloc (.cells #[.bool false] 4)) w1) :
    w.heap.size + 4 ≤ w1.heap.size ∧ Ext w w1 ∧ w1.cell? ⟨w.heap.size, 0, none⟩ = some (.int .i64 k) ∧
      (w1.cell? ⟨w.heap.size + 1, 0, none⟩ = some (.int .i64 0) ∧ w1.frozen? ⟨w.heap.size + 1, 0, none⟩ = false) ∧
      (w1.cell? ⟨w.heap.size + 1 + 1, 0, none⟩ = some (.int .i64 0) ∧ w1.frozen? ⟨w.heap.size + 1 + 1, 0, none⟩ = false) ∧
      (w1.cell? ⟨w.heap.size + 1 + 1 + 1, 0, none⟩ = some (.bool false) ∧ w1.frozen? ⟨w.heap.size + 1 + 1 + 1, 0, none⟩ = false) := by
  have hz := hx1.size
  simp at hz
  obtain ⟨hc, hf, -⟩ := hx1.rules
  simp only [World.size_alloc] at hc hf
  refine ⟨by omega, ((((Ext.refl w).alloc _).alloc _).alloc _).alloc _ |>.trans hx1, ?_, ⟨?_, ?_⟩, ⟨?_, ?_⟩, ⟨?_, ?_⟩⟩
  · rw [hc _ _ (by omega)]; simp [go_sem]
  · rw [hc _ _ (by omega)]; simp [go_sem]
  · rw [hf _ _ (by omega)]; simp [go_sem]
  · rw [hc _ _ (by omega)]; simp [go_sem]
  · rw [hf _ _ (by omega)]; simp [go_sem]
  · rw [hc _ _ (by omega)]; simp [go_sem]
  · rw [hf _ _ (by omega)]; simp [go_sem]
set_option maxHeartbeats 4000000 in
set_option maxRecDepth 100000 in
theorem lfind_bad (s : ByteArray) (k : Int) (w : World) (hs : s.size ≤ 1152921504606846976) (hv : validL (ls s) = false) : Calls Tryd.prog 74 #[.string s, .int .i64 k] w fun e w' => e = .returned (.tuple #[.int .i64 (startI (ls s) k), .int .i64 (endI (ls s) k), .bool (lineI (ls s) k).isSome]) ∧ Ext w w' := by
  have hn : lineI (ls s) k = none := by unfold lineI; simp [hv]
  obtain ⟨h1, h2, h3⟩ := line_none hn
  have H1 := Lib.hid h1
  have H2 := Lib.hid h2
  have H3 := Lib.hid h3
  clear h1 h2 h3 hn
  go_enter Tryd.func74, Tryd.ntmps74
  go_wp2_with (first | (go_at_call 20; refine (valid_c _ _ hs).mono ?_; rintro e w1 ⟨rfl, hx1⟩; obtain ⟨hz, hx, c0, ⟨c1, f1⟩, ⟨c2, f2⟩, ⟨c3, f3⟩⟩ := lfind_start _ _ _ hx1; clear hx1))
  refine bodyPost_ret (v := .tuple #[.int .i64 (-1), .int .i64 (-1), .bool false]) (by simp [results, Tryd.results74, go_sem, c1, c2, c3]) rfl ⟨ret3b H1.out.symm H2.out.symm H3.out.symm, (by (repeat (first | exact Ext.refl _ | exact ‹Ext _ _› | refine Ext.alloc ?_ _ | refine Ext.drew ?_ | refine Ext.drewN ?_ _ | (refine Ext.setCell ?_ (by first | omega | (simp; done) | (simp; omega)) _) | refine Ext.trans ?_ ‹Ext _ _›)))⟩

set_option maxHeartbeats 4000000 in
set_option maxRecDepth 100000 in
theorem lfind_ok (s : ByteArray) (k : Int) (w : World) (hs : s.size ≤ 1152921504606846976) (hv : validL (ls s) = true) : Calls Tryd.prog 74 #[.string s, .int .i64 k] w fun e w' => e = .returned (.tuple #[.int .i64 (startI (ls s) k), .int .i64 (endI (ls s) k), .bool (lineI (ls s) k).isSome]) ∧ Ext w w' := by
  refine (callsIn_wide (n := 5)).1 ?_
  refine callsIn_of_wp_marks Tryd.func74 rfl trivial ?_ rfl
  simp only [Tryd.ntmps74, List.size_toArray, List.length_cons, List.length_nil, Nat.reduceAdd, Nat.reduceSub, Array.replicate_succ, Array.replicate_zero, List.push_toArray, List.append_toArray, List.nil_append, List.cons_append]
  gi_wp2_with (first | ((first | refine ⟨trivial, (fun _ => by omega), ?_⟩ | refine ⟨trivial, ?_⟩); gi_at_call 20; refine (callsIn_wide.2 (valid_c _ _ hs)).mono ?_; rintro e w1 ⟨rfl, hx1⟩; obtain ⟨hz, hx, c0, ⟨c1, f1⟩, ⟨c2, f2⟩, ⟨c3, f3⟩⟩ := lfind_start _ _ _ hx1; clear hx1) | ((first | refine ⟨trivial, (fun _ => by omega), ?_⟩ | refine ⟨trivial, ?_⟩); gi_at_call 85; refine (callsIn_wide.2 (all_c _ _)).mono ?_; rintro e w2 ⟨rfl, rfl⟩))
  obtain ⟨W0, hW0⟩ : ∃ W0, (w1.alloc (.cells #[.int .i64 0] 3)).alloc (.cells #[.string s] 9) = W0 := ⟨_, rfl⟩
  have x0 : Ext w1 W0 := by rw [← hW0]; exact ((Ext.refl _).alloc _).alloc _
  have s0 : W0.heap.size = w1.heap.size + 2 := by rw [← hW0]; simp
  have d0 := x0.keep c0
  have d1 := x0.keep c1
  have g1 := x0.unfr c1 f1
  have d2 := x0.keep c2
  have g2 := x0.unfr c2 f2
  have d3 := x0.keep c3
  have g3 := x0.unfr c3 f3
  have d4 : W0.cell? ⟨w1.heap.size, 0, none⟩ = some (.int .i64 0) := by rw [← hW0]; exact ((Ext.refl _).alloc _).keep (cell_new w1 _ _)
  have g4 : W0.frozen? ⟨w1.heap.size, 0, none⟩ = false := by rw [← hW0]; exact ((Ext.refl _).alloc _).unfr (cell_new w1 _ _) (unfr_new w1 _ _)
  have d5 : W0.cell? ⟨w1.heap.size + 1, 0, none⟩ = some (.string s) := by rw [← hW0]; have := cell_new (w1.alloc (.cells #[.int .i64 0] 3)) (.string s) 9; rwa [World.size_alloc] at this
  have xw : Ext w W0 := hx.trans x0
  rw [hW0]
  clear hW0 c0 c1 f1 c2 f2 c3 f3
  have hll : (lns (ls s)).length ≤ s.size + 1 := by rw [lns_len, ← ls_len s]; have := tens_le (ls s); omega
  refine wpIn_rangeFunc_ownF rfl (by omega) (gf := 98) (lb := #[.pointer (some ⟨w1.heap.size + 1, 0, none⟩)]) rfl trivial (enters_of Tryd.func98 (by kernel_rfl) rfl)
    (all_stops 4 (by omega) (w1.heap.size + 1) s hs W0 d5) KeepC.t (fun W l o o' h => KeepC.b (w := W0) W l o o' h) (Below.refl _ _) (fun _ => rfl)
    (fun pre W => ((k < 0 ∨ (pre.length : Int) ≤ k) ∧ W.cell? ⟨w.heap.size, 0, none⟩ = some (.int .i64 k) ∧
      (W.cell? ⟨w.heap.size + 1, 0, none⟩ = some (.int .i64 0) ∧ W.frozen? ⟨w.heap.size + 1, 0, none⟩ = false) ∧
      (W.cell? ⟨w.heap.size + 1 + 1, 0, none⟩ = some (.int .i64 0) ∧ W.frozen? ⟨w.heap.size + 1 + 1, 0, none⟩ = false) ∧
      (W.cell? ⟨w.heap.size + 1 + 1 + 1, 0, none⟩ = some (.bool false) ∧ W.frozen? ⟨w.heap.size + 1 + 1 + 1, 0, none⟩ = false) ∧
      (W.cell? ⟨w1.heap.size, 0, none⟩ = some (.int .i64 pre.length) ∧ W.frozen? ⟨w1.heap.size, 0, none⟩ = false)) ∧ Below w.heap.size w W)
    (fun c pre W => (c = .ret ∧ ∃ x pre', pre = pre' ++ [x] ∧ (pre'.length : Int) = k ∧
      W.cell? ⟨w.heap.size + 1, 0, none⟩ = some (.int .i64 (x.1 : Nat)) ∧ W.cell? ⟨w.heap.size + 1 + 1, 0, none⟩ = some (.int .i64 (x.2 : Nat)) ∧ W.cell? ⟨w.heap.size + 1 + 1 + 1, 0, none⟩ = some (.bool true)) ∧ Below w.heap.size w W)
    (OwnFrom.and (Own.from (fun s A B row hs hg hr => ⟨hs.1, cell_kept hs.2.1 hg hr, ⟨cell_kept hs.2.2.1.1 hg hr, (frozen_kept hs.2.2.1.1 hg hr).trans hs.2.2.1.2⟩, ⟨cell_kept hs.2.2.2.1.1 hg hr, (frozen_kept hs.2.2.2.1.1 hg hr).trans hs.2.2.2.1.2⟩, ⟨cell_kept hs.2.2.2.2.1.1 hg hr, (frozen_kept hs.2.2.2.2.1.1 hg hr).trans hs.2.2.2.2.1.2⟩, ⟨cell_kept hs.2.2.2.2.2.1 hg hr, (frozen_kept hs.2.2.2.2.2.1 hg hr).trans hs.2.2.2.2.2.2⟩⟩) _) (ownFrom_below (Nat.le_refl _) (by omega)))
    (fun c => OwnFrom.and (Own.from (fun s A B row hs hg hr => ⟨hs.1, by obtain ⟨-, x, pre', h1, h2, h3, h4, h5⟩ := hs; exact ⟨x, pre', h1, h2, cell_kept h3 hg hr, cell_kept h4 hg hr, cell_kept h5 hg hr⟩⟩) _) (ownFrom_below (Nat.le_refl _) (by omega)))
    ⟨⟨by simp; omega, d0, ⟨d1, g1⟩, ⟨d2, g2⟩, ⟨d3, g3⟩, ⟨d4, g4⟩⟩, xw⟩
    (fun x => { tmps := #[.string s, .int .i64 k, undef, .pointer (some ⟨w.heap.size, 0, none⟩), .pointer (some ⟨w.heap.size + 1, 0, none⟩), .pointer (some ⟨w.heap.size + 1 + 1, 0, none⟩), .pointer (some ⟨w.heap.size + 1 + 1 + 1, 0, none⟩), .pointer (some ⟨w1.heap.size, 0, none⟩), .int .i64 (x.1 : Nat), .int .i64 (x.2 : Nat), .string s, .bool true, .bool false, .string s, .func (.func 98) #[] #[.pointer (some ⟨w1.heap.size + 1, 0, none⟩)], .int .i64 (x.1 : Nat), .int .i64 (x.2 : Nat), undef, undef, undef, undef, undef, undef, undef], defers := [] }) ?assign ?body ?done ?stop
  case assign =>
    intro l x W K hK
    simp only [encP]
    gi_wp2
    exact hK
  case body =>
    rintro l pre x W ⟨⟨hk, e0, ⟨e1, i1⟩, ⟨e2, i2⟩, ⟨e3, i3⟩, ⟨e4, i4⟩⟩, hB⟩ hlen
    gi_wp2
    all_goals (try simp only [beq_iff_eq, beq_eq_false_iff_ne] at *)
    · refine ⟨((KeepsOthers.setCell _ _ _).trans (KeepsOthers.setCell _ _ _)).trans (KeepsOthers.setCell _ _ _), ⟨rfl, x, pre, rfl, by assumption, ?_, ?_, ?_⟩, ?_⟩
      · simp [go_sem, e1]
      · simp [go_sem, e2]
      · simp [go_sem, e3]
      · exact ((hB.setCell (p := ⟨w.heap.size + 1, 0, none⟩) (by simp) _).setCell (p := ⟨w.heap.size + 1 + 1, 0, none⟩) (by simp; omega) _).setCell (p := ⟨w.heap.size + 1 + 1 + 1, 0, none⟩) (by simp; omega) _
    · refine ⟨KeepsOthers.setCell _ _ _, KeepC.setCell (by simp) _, ⟨by simp; omega, ?_, ⟨?_, ?_⟩, ⟨?_, ?_⟩, ⟨?_, ?_⟩, ⟨?_, ?_⟩⟩, ?_⟩
      · exact cell_set_ne (by omega) e0
      · exact cell_set_ne (by omega) e1
      · exact unfr_set i1
      · exact cell_set_ne (by omega) e2
      · exact unfr_set i2
      · exact cell_set_ne (by omega) e3
      · exact unfr_set i3
      · rw [cell_set_eq e4]; simp
      · exact unfr_set i4
      · exact hB.setCell (p := ⟨w1.heap.size, 0, none⟩) (by simp; omega) _
  case done =>
    rintro D xs W hD rfl ⟨⟨hk, e0, ⟨e1, i1⟩, ⟨e2, i2⟩, ⟨e3, i3⟩, ⟨e4, i4⟩⟩, hB⟩ hK
    have hn : lineI (ls s) k = none := by
      unfold lineI
      split
      · exact List.getElem?_eq_none (by omega)
      · rfl
    obtain ⟨q1, q2, q3⟩ := line_none hn
    have Q1 := Lib.hid q1
    have Q2 := Lib.hid q2
    have Q3 := Lib.hid q3
    clear q1 q2 q3 hn hk
    gi_wp2
    have hK' := (((KeepsOthers.setCell W ⟨w.heap.size + 1, 0, none⟩ (.int .i64 (-1))).trans (KeepsOthers.setCell _ ⟨w.heap.size + 1 + 1, 0, none⟩ (.int .i64 (-1)))).trans (KeepsOthers.setCell _ ⟨w.heap.size + 1 + 1 + 1, 0, none⟩ (.bool false))).same D _ hK rfl
    refine ⟨by simp, .inl ⟨_, _, rfl, run_takeDeferred hK', ?_⟩⟩
    have k1 := cell_kept (cell_set_ne (b := w.heap.size + 1 + 1 + 1) (o := 0) (u := .bool false) (by omega) (cell_set_ne (b := w.heap.size + 1 + 1) (o := 0) (u := .int .i64 (-1)) (by omega) (cell_set_eq (u := .int .i64 (-1)) e1))) (grownBy_putObj' _ D (.deferred none)) (fun r e => by cases e; exact ⟨_, hK', rfl⟩)
    have k2 := cell_kept (cell_set_ne (b := w.heap.size + 1 + 1 + 1) (o := 0) (u := .bool false) (by omega) (cell_set_eq (u := .int .i64 (-1)) (cell_set_ne (b := w.heap.size + 1) (o := 0) (u := .int .i64 (-1)) (by omega) e2))) (grownBy_putObj' _ D (.deferred none)) (fun r e => by cases e; exact ⟨_, hK', rfl⟩)
    have k3 := cell_kept (cell_set_eq (u := .bool false) (cell_set_ne (b := w.heap.size + 1 + 1) (o := 0) (u := .int .i64 (-1)) (by omega) (cell_set_ne (b := w.heap.size + 1) (o := 0) (u := .int .i64 (-1)) (by omega) e3))) (grownBy_putObj' _ D (.deferred none)) (fun r e => by cases e; exact ⟨_, hK', rfl⟩)
    refine ⟨.tuple #[.int .i64 (-1), .int .i64 (-1), .bool false], ?_, ret3b Q1.out.symm Q2.out.symm Q3.out.symm, ?_⟩
    · simp [results, Tryd.f74, go_sem, k1, k2, k3]
    · exact (((hB.setCell (p := ⟨w.heap.size + 1, 0, none⟩) (by simp) _).setCell (p := ⟨w.heap.size + 1 + 1, 0, none⟩) (by simp; omega) _).setCell (p := ⟨w.heap.size + 1 + 1 + 1, 0, none⟩) (by simp; omega) _).trans (belowK_b (w := w) (Nat.le_refl _) _ D _ _ (by omega) hK' rfl rfl)
  case stop =>
    rintro D c pre W hD hpre ⟨⟨rfl, x, pre', rfl, h1, h2, h3, h4⟩, hB⟩ hK
    have hn : lineI (ls s) k = some x := by
      unfold lineI
      rw [if_pos ⟨hv, by omega⟩]
      obtain ⟨t, ht⟩ := hpre
      have hk : k.toNat = pre'.length := by omega
      rw [hk, ← ht]; simp
    obtain ⟨q1, q2, q3⟩ := line_some hn
    have Q1 := Lib.hid q1
    have Q2 := Lib.hid q2
    have Q3 := Lib.hid q3
    clear q1 q2 q3 hn
    gi_wp2
    refine ⟨by simp, .inl ⟨_, _, rfl, run_takeDeferred hK, ?_⟩⟩
    have k1 := cell_kept h2 (grownBy_putObj' _ D (.deferred none)) (fun r e => by cases e; exact ⟨_, hK, rfl⟩)
    have k2 := cell_kept h3 (grownBy_putObj' _ D (.deferred none)) (fun r e => by cases e; exact ⟨_, hK, rfl⟩)
    have k3 := cell_kept h4 (grownBy_putObj' _ D (.deferred none)) (fun r e => by cases e; exact ⟨_, hK, rfl⟩)
    refine ⟨.tuple #[.int .i64 (x.1 : Nat), .int .i64 (x.2 : Nat), .bool true], ?_, ret3b Q1.out.symm Q2.out.symm Q3.out.symm, ?_⟩
    · simp [results, Tryd.f74, go_sem, k1, k2, k3]
    · exact hB.trans (belowK_b (w := w) (Nat.le_refl _) W D _ _ (by omega) hK rfl rfl)

theorem lfind_c (s : ByteArray) (k : Int) (w : World) (hs : s.size ≤ 1152921504606846976) : Calls Tryd.prog 74 #[.string s, .int .i64 k] w fun e w' => e = .returned (.tuple #[.int .i64 (startI (ls s) k), .int .i64 (endI (ls s) k), .bool (lineI (ls s) k).isSome]) ∧ Ext w w' := by
  rcases Bool.eq_false_or_eq_true (validL (ls s)) with h | h
  · exact lfind_ok s k w hs h
  · exact lfind_bad s k w hs h

end Go.Proofs.YtckfdehendifoaaDoor
/- The contracts of the package line. -/
namespace Go.Proofs.YtckfdehendifoaaDoor
open Go.RowKit
set_option linter.unusedVariables false
set_option linter.unusedSimpArgs false

theorem count_ten (s : ByteArray) (w : World) : Calls Tryd.prog 53 #[.string s, .string ⟨#[10]⟩] w fun e w' => e = .returned (.int .i64 (tens (ls s) : Nat)) ∧ w = w' :=
  (Tryd.strings_Count_one s 10 w).mono fun _ _ h => ⟨h.1, h.2.symm⟩
set_option maxHeartbeats 4000000 in
set_option maxRecDepth 100000 in
theorem lcount_c (s : ByteArray) (w : World) (hs : s.size ≤ 1099511627775) : Calls Tryd.prog 17 #[.string s] w fun e w' => e = .returned (.int .i64 (lcountI (ls s))) ∧ Ext w w' := by
  have hb : tens (ls s) ≤ s.size := by rw [← ls_len s]; exact tens_le _
  rcases Bool.eq_false_or_eq_true (validL (ls s)) with hv | hv
  all_goals
    have Hv : Hid (lcountI (ls s) = if validL (ls s) then (tens (ls s) : Int) + 1 else 0) := Lib.hid rfl
    rw [hv] at Hv
    go_enter Tryd.func17, Tryd.ntmps17
    go_wp2_with (first | (go_at_call 20; refine (valid_c _ _ (by omega)).mono ?_; rintro e w1 ⟨rfl, hx1⟩) | (go_at_call 53; refine (count_ten _ _).mono ?_; rintro e w2 ⟨rfl, rfl⟩))
    go_ret
    exact ⟨ret1 Hv.out.symm, (by (repeat (first | exact Ext.refl _ | exact ‹Ext _ _› | refine Ext.alloc ?_ _ | refine Ext.drew ?_ | refine Ext.drewN ?_ _ | (refine Ext.setCell ?_ (by first | omega | (simp; done) | (simp; omega)) _) | refine Ext.trans ?_ ‹Ext _ _›)))⟩

theorem lineI_bd {s : ByteArray} {k : Int} : -1 ≤ startI (ls s) k ∧ startI (ls s) k ≤ s.size ∧ -1 ≤ endI (ls s) k ∧ endI (ls s) k ≤ s.size := by
  cases h : lineI (ls s) k with
  | none => have := line_none h; omega
  | some x =>
    have := line_some h
    have := lineI_le h
    rw [ls_len] at this
    omega
set_option maxHeartbeats 4000000 in
set_option maxRecDepth 100000 in
theorem lstart_c (s : ByteArray) (k : Int) (w : World) (hs : s.size ≤ 1099511627775) : Calls Tryd.prog 56 #[.string s, .int .i64 k] w fun e w' => e = .returned (.int .i64 (startI (ls s) k)) ∧ Ext w w' := by
  go_enter Tryd.func56, Tryd.ntmps56
  go_wp2_with (first | (go_at_call 74; refine (lfind_c _ _ _ (by omega)).mono ?_; rintro e w1 ⟨rfl, hx1⟩))
  go_ret
  exact ⟨rfl, (by (repeat (first | exact Ext.refl _ | exact ‹Ext _ _› | refine Ext.alloc ?_ _ | refine Ext.drew ?_ | refine Ext.drewN ?_ _ | (refine Ext.setCell ?_ (by first | omega | (simp; done) | (simp; omega)) _) | refine Ext.trans ?_ ‹Ext _ _›)))⟩
set_option maxHeartbeats 4000000 in
set_option maxRecDepth 100000 in
theorem lend_c (s : ByteArray) (k : Int) (w : World) (hs : s.size ≤ 1099511627775) : Calls Tryd.prog 55 #[.string s, .int .i64 k] w fun e w' => e = .returned (.int .i64 (endI (ls s) k)) ∧ Ext w w' := by
  go_enter Tryd.func55, Tryd.ntmps55
  go_wp2_with (first | (go_at_call 74; refine (lfind_c _ _ _ (by omega)).mono ?_; rintro e w1 ⟨rfl, hx1⟩))
  go_ret
  exact ⟨rfl, (by (repeat (first | exact Ext.refl _ | exact ‹Ext _ _› | refine Ext.alloc ?_ _ | refine Ext.drew ?_ | refine Ext.drewN ?_ _ | (refine Ext.setCell ?_ (by first | omega | (simp; done) | (simp; omega)) _) | refine Ext.trans ?_ ‹Ext _ _›)))⟩

theorem fds_ext (s : ByteArray) (p : Nat) : tens (ls (s.extract 0 p)) = fds (ls s) p := by
  rw [ls_ext2]; simp [fds]
set_option maxHeartbeats 4000000 in
set_option maxRecDepth 100000 in
theorem lof_c (s : ByteArray) (p : Int) (w : World) (hs : s.size ≤ 1099511627775) : Calls Tryd.prog 22 #[.string s, .int .i64 p] w fun e w' => e = .returned (.int .i64 (ofI (ls s) p)) ∧ Ext w w' := by
  by_cases h0 : p < 0 ∨ (s.size : Int) < p
  · have Ho : Hid (ofI (ls s) p = -1) := Lib.hid (by unfold ofI; rw [if_pos (by rw [ls_len]; omega)])
    go_enter Tryd.func22, Tryd.ntmps22
    go_wp2_with (first | (go_at_call 20; refine (valid_c _ _ (by omega)).mono ?_; rintro e w1 ⟨rfl, hx1⟩) | (go_at_call 53; refine (count_ten _ _).mono ?_; rintro e w2 ⟨rfl, rfl⟩))
    all_goals (go_ret; exact ⟨ret1 Ho.out.symm, (by (repeat (first | exact Ext.refl _ | exact ‹Ext _ _› | refine Ext.alloc ?_ _ | refine Ext.drew ?_ | refine Ext.drewN ?_ _ | (refine Ext.setCell ?_ (by first | omega | (simp; done) | (simp; omega)) _) | refine Ext.trans ?_ ‹Ext _ _›)))⟩)
  · obtain ⟨k, rfl⟩ : ∃ k : Nat, p = k := ⟨p.toNat, by omega⟩
    have hk : k ≤ s.size := by omega
    clear h0
    rcases Bool.eq_false_or_eq_true (validL (ls s)) with hv | hv
    · have Ho : Hid (ofI (ls s) k = (tens (ls (s.extract 0 k)) : Nat)) := Lib.hid (by unfold ofI; rw [if_neg (by rw [ls_len, hv]; simp; omega), fds_ext]; simp)
      go_enter Tryd.func22, Tryd.ntmps22
      go_wp2_with (first | (go_at_call 20; refine (valid_c _ _ (by omega)).mono ?_; rintro e w1 ⟨rfl, hx1⟩) | (go_at_call 53; refine (count_ten _ _).mono ?_; rintro e w2 ⟨rfl, rfl⟩))
      all_goals (go_ret; exact ⟨ret1 Ho.out.symm, (by (repeat (first | exact Ext.refl _ | exact ‹Ext _ _› | refine Ext.alloc ?_ _ | refine Ext.drew ?_ | refine Ext.drewN ?_ _ | (refine Ext.setCell ?_ (by first | omega | (simp; done) | (simp; omega)) _) | refine Ext.trans ?_ ‹Ext _ _›)))⟩)
    · have Ho : Hid (ofI (ls s) k = -1) := Lib.hid (by unfold ofI; rw [if_pos (by simp [hv])])
      go_enter Tryd.func22, Tryd.ntmps22
      go_wp2_with (first | (go_at_call 20; refine (valid_c _ _ (by omega)).mono ?_; rintro e w1 ⟨rfl, hx1⟩) | (go_at_call 53; refine (count_ten _ _).mono ?_; rintro e w2 ⟨rfl, rfl⟩))
      all_goals (go_ret; exact ⟨ret1 Ho.out.symm, (by (repeat (first | exact Ext.refl _ | exact ‹Ext _ _› | refine Ext.alloc ?_ _ | refine Ext.drew ?_ | refine Ext.drewN ?_ _ | (refine Ext.setCell ?_ (by first | omega | (simp; done) | (simp; omega)) _) | refine Ext.trans ?_ ‹Ext _ _›)))⟩)

theorem last_ten (s : ByteArray) (hs : s.size ≤ 1099511627775) (w : World) : Calls Tryd.prog 66 #[.string s, .string ⟨#[10]⟩] w fun e w' => e = .returned (.int .i64 (Lib.lastIndexByte s 10)) ∧ w = w' :=
  (Tryd.strings_LastIndex_one s ⟨#[10]⟩ rfl (by omega) w).mono fun _ _ h => ⟨h.1, h.2.symm⟩
set_option maxHeartbeats 4000000 in
set_option maxRecDepth 100000 in
theorem begin_c (s : ByteArray) (p : Nat) (hp : p ≤ s.size) (w : World) (hs : s.size ≤ 1099511627775) : Calls Tryd.prog 45 #[.string s, .int .i64 p] w fun e w' => e = .returned (.int .i64 (lst (ls s) p : Nat)) ∧ Ext w w' := by
  have hl := lst_last s p hp
  have hle := lst_le (ls s) p
  have h1 : Lib.lastIndexByte (s.extract 0 p) 10 ≤ 1099511627775 := by omega
  have h2 : -1 ≤ Lib.lastIndexByte (s.extract 0 p) 10 := by omega
  have Hl := Lib.hid hl
  clear hl
  go_enter Tryd.func45, Tryd.ntmps45
  go_wp2_with (first | (go_at_call 66; refine (last_ten _ (by simp; omega) _).mono ?_; rintro e w2 ⟨rfl, rfl⟩))
  all_goals (go_ret; exact ⟨ret1 Hl.out, (by (repeat (first | exact Ext.refl _ | exact ‹Ext _ _› | refine Ext.alloc ?_ _ | refine Ext.drew ?_ | refine Ext.drewN ?_ _ | (refine Ext.setCell ?_ (by first | omega | (simp; done) | (simp; omega)) _) | refine Ext.trans ?_ ‹Ext _ _›)))⟩)


theorem ends_str (s : ByteArray) (k : Nat) (h : k < s.size) : ((s.extract k (k + 1)).toList == [10]) = endsB (ls s) k := by
  rw [Lib.toList_data, Lib.extract_data]
  have h' : k < s.data.toList.length := by rw [← Lib.size_eq]; exact h
  have hk : k ≠ (ls s).length := by rw [ls_len]; omega
  have e : (List.take (k + 1 - k) (List.drop k s.data.toList)) = [s.data.toList[k]] := by
    rw [Nat.add_sub_cancel_left, List.drop_eq_getElem_cons h']; rfl
  rw [e]
  unfold endsB
  simp only [byL_ten (l := ls s) (by rw [ls_len]; exact h)]
  have hk2 : k ≠ s.size := by omega
  rw [Bool.eq_iff_iff]
  simp [hk2]
set_option maxHeartbeats 4000000 in
set_option maxRecDepth 100000 in
theorem ends_c (s : ByteArray) (p : Nat) (hp : p ≤ s.size) (w : World) (hs : s.size ≤ 1099511627775) : Calls Tryd.prog 44 #[.string s, .int .i64 p] w fun e w' => e = .returned (.bool (endsB (ls s) p)) ∧ Ext w w' := by
  by_cases h : p = s.size
  · subst h
    have He : Hid (true = endsB (ls s) s.size) := Lib.hid (by unfold endsB; rw [ls_len]; simp)
    go_enter Tryd.func44, Tryd.ntmps44
    go_wp2
    all_goals (go_ret; exact ⟨retb He.out, (by (repeat (first | exact Ext.refl _ | exact ‹Ext _ _› | refine Ext.alloc ?_ _ | refine Ext.drew ?_ | refine Ext.drewN ?_ _ | (refine Ext.setCell ?_ (by first | omega | (simp; done) | (simp; omega)) _) | refine Ext.trans ?_ ‹Ext _ _›)))⟩)
  · have h1 : p < s.size := by omega
    have h2 : ((p : Int) == (s.size : Int)) = false := by simp; omega
    have He := Lib.hid (ends_str s p h1)
    clear h
    go_enter Tryd.func44, Tryd.ntmps44
    go_wp2
    all_goals (go_ret; exact ⟨retb He.out, (by (repeat (first | exact Ext.refl _ | exact ‹Ext _ _› | refine Ext.alloc ?_ _ | refine Ext.drew ?_ | refine Ext.drewN ?_ _ | (refine Ext.setCell ?_ (by first | omega | (simp; done) | (simp; omega)) _) | refine Ext.trans ?_ ‹Ext _ _›)))⟩)

end Go.Proofs.YtckfdehendifoaaDoor
/- The contracts of line.Clamp, line.Normal, line.First. -/
namespace Go.Proofs.YtckfdehendifoaaDoor
open Go.RowKit
set_option linter.unusedVariables false
set_option linter.unusedSimpArgs false

set_option maxHeartbeats 4000000 in
set_option maxRecDepth 100000 in
theorem clamp_c (s : ByteArray) (p : Int) (w : World) (hs : s.size ≤ 1099511627775) : Calls Tryd.prog 28 #[.string s, .int .i64 p] w fun e w' => e = .returned (.int .i64 (clampI (ls s) p)) ∧ Ext w w' := by
  rcases Bool.eq_false_or_eq_true (validL (ls s)) with hv | hv
  · have hd := downTo_le (ls s) (cutI (ls s) p)
    have hcut : (min (max p 0) (s.size : Int)) = ((cutI (ls s) p : Nat) : Int) := by unfold cutI; rw [ls_len]; omega
    have hcl : cutI (ls s) p ≤ s.size := by unfold cutI; rw [ls_len]; omega
    have Hc : Hid (clampI (ls s) p = if endsB (ls s) (downTo (ls s) (cutI (ls s) p)) = true ∧ lst (ls s) (downTo (ls s) (cutI (ls s) p)) < downTo (ls s) (cutI (ls s) p) then prevI (ls s) (downTo (ls s) (cutI (ls s) p)) else (downTo (ls s) (cutI (ls s) p) : Nat)) := Lib.hid (by unfold clampI; rw [if_pos hv])
    have Hp := Lib.hid (downTo_place hv)
    go_enter Tryd.func28, Tryd.ntmps28
    go_wp2_with (first | (go_at_call 20; refine (valid_c _ _ (by omega)).mono ?_; rintro e w1 ⟨rfl, hx1⟩))
    go_loopw [1] (fun v wr => ∃ j : Nat, j ≤ s.size ∧ v = .int .i64 j ∧ downTo (ls s) j = downTo (ls s) (cutI (ls s) p) ∧ Ext w wr) (fun v _ => (intOf v).toNat)
    case atStart => exact ⟨cutI (ls s) p, hcl, rfl, rfl, (by (repeat (first | exact Ext.refl _ | exact ‹Ext _ _› | refine Ext.alloc ?_ _ | refine Ext.drew ?_ | refine Ext.drewN ?_ _ | (refine Ext.setCell ?_ (by first | omega | (simp; done) | (simp; omega)) _) | refine Ext.trans ?_ ‹Ext _ _›)))⟩
    case round =>
      obtain ⟨j, hj, rfl, hok, hx⟩ := hrel
      have Hok := Lib.hid hok
      clear hok hcut
      rcases Bool.eq_false_or_eq_true (placeB (ls s) j) with hp | hp
      · have Hd := Lib.hid (downTo_hit hp)
        have Hc2 : Hid (clampI (ls s) p = if endsB (ls s) j = true ∧ lst (ls s) j < j then prevI (ls s) j else (j : Nat)) := Lib.hid (by rw [Hc.out, ← Hok.out, Hd.out])
        clear Hc hd
        go_wp2_with (first | (go_at_call 19; refine (place_c _ _ _ (by omega)).mono ?_; rintro e w1 ⟨rfl, hx1⟩) | (go_at_call 44; refine (ends_c _ _ hj _ hs).mono ?_; rintro e w1 ⟨rfl, hx1⟩) | (go_at_call 45; refine (begin_c _ _ hj _ hs).mono ?_; rintro e w1 ⟨rfl, hx1⟩) | (go_at_call 29; refine (prev_c _ _ _ (by omega)).mono ?_; rintro e w1 ⟨rfl, hx1⟩))
        all_goals (go_ret; refine ⟨ret1 ?_, (by (repeat (first | exact Ext.refl _ | exact ‹Ext _ _› | refine Ext.alloc ?_ _ | refine Ext.drew ?_ | refine Ext.drewN ?_ _ | (refine Ext.setCell ?_ (by first | omega | (simp; done) | (simp; omega)) _) | refine Ext.trans ?_ ‹Ext _ _›)))⟩; rw [Hc2.out])
        all_goals first
          | (rw [if_pos ⟨by assumption, by omega⟩]; done)
          | (rw [if_neg (by intro h; have := h.2; omega)]; done)
          | (rw [if_neg (by intro h; simp_all)]; done)
      · have hj0 : 1 ≤ j := by
          rcases Nat.eq_zero_or_pos j with h | h
          · subst h; rw [place_zero hv] at hp; exact absurd hp (by simp)
          · exact h
        go_wp2_with (first | (go_at_call 19; refine (place_c _ _ _ (by omega)).mono ?_; rintro e w1 ⟨rfl, hx1⟩))
        go_roundw
        case rel =>
          refine ⟨j - 1, by omega, by go_num, ?_, (by (repeat (first | exact Ext.refl _ | exact ‹Ext _ _› | refine Ext.alloc ?_ _ | refine Ext.drew ?_ | refine Ext.drewN ?_ _ | (refine Ext.setCell ?_ (by first | omega | (simp; done) | (simp; omega)) _) | refine Ext.trans ?_ ‹Ext _ _›)))⟩
          rw [← Hok.out]
          obtain ⟨i, rfl⟩ : ∃ i, j = i + 1 := ⟨j - 1, by omega⟩
          rw [downTo_miss hp]; rfl
        case measure => simp [intOf]; omega
  · have Hc : Hid (clampI (ls s) p = 0) := Lib.hid (by unfold clampI; simp [hv])
    go_enter Tryd.func28, Tryd.ntmps28
    go_wp2_with (first | (go_at_call 20; refine (valid_c _ _ (by omega)).mono ?_; rintro e w1 ⟨rfl, hx1⟩))
    go_ret
    exact ⟨ret1 Hc.out.symm, (by (repeat (first | exact Ext.refl _ | exact ‹Ext _ _› | refine Ext.alloc ?_ _ | refine Ext.drew ?_ | refine Ext.drewN ?_ _ | (refine Ext.setCell ?_ (by first | omega | (simp; done) | (simp; omega)) _) | refine Ext.trans ?_ ‹Ext _ _›)))⟩

end Go.Proofs.YtckfdehendifoaaDoor
/- Slices of things of several cells: what is read, and what a call has made itself. -/
namespace Go.Proofs.YtckfdehendifoaaDoor
open Go.RowKit
set_option linter.unusedVariables false
set_option linter.unusedSimpArgs false
structure Enc (α : Type) where
  k : Nat
  enc : α → List Value
  len : ∀ x, (enc x).length = k
  one : ∀ x, ∀ u ∈ enc x, u.oneCell' = true
  pos : 0 < k
def RdS {α : Type} (E : Enc α) (w : World) (a : Option Addr) (xs : List α) : Prop := ∀ j (h : j < xs.length), ∃ g o, a = some ⟨g, o, none⟩ ∧ ∀ i u, (E.enc xs[j])[i]? = some u → w.cell? ⟨g, o + (j * E.k + i), none⟩ = some u
theorem RdS.ext {α : Type} {E : Enc α} {w w' : World} {a : Option Addr} {xs : List α} (h : RdS E w a xs) (hx : Ext w w') : RdS E w' a xs := by
  intro j hj
  obtain ⟨g, o, ha, hc⟩ := h j hj
  exact ⟨g, o, ha, fun i u hu => by rw [Below.cell hx (World.block_lt_of_cell? w _ (hc i u hu))]; exact hc i u hu⟩
theorem flat_len {α : Type} (E : Enc α) : ∀ xs : List α, (xs.flatMap E.enc).length = xs.length * E.k
  | [] => by simp
  | x :: xs => by rw [List.flatMap_cons, List.length_append, E.len, flat_len E xs, List.length_cons, Nat.add_mul]; omega
theorem flat_at {α : Type} (E : Enc α) : ∀ (xs : List α) (j : Nat) (h : j < xs.length) (i : Nat), i < E.k → (xs.flatMap E.enc)[j * E.k + i]? = (E.enc xs[j])[i]?
  | x :: xs, 0, _, i, hi => by
    rw [List.flatMap_cons, Nat.zero_mul, Nat.zero_add, List.getElem?_append_left (by rw [E.len]; exact hi)]; rfl
  | x :: xs, j + 1, h, i, hi => by
    have := flat_at E xs j (by simpa using h) i hi
    rw [List.flatMap_cons, List.getElem?_append_right (by rw [E.len, Nat.add_mul]; omega), E.len]
    rw [show (j + 1) * E.k + i - E.k = j * E.k + i by rw [Nat.add_mul]; omega, this]; rfl
def OwnS {α : Type} (E : Enc α) (e : TypeId) (base : Nat) (w : World) (a : Option Addr) (cap : Nat) (xs : List α) : Prop := w.ownsRow base e E.k (.slice a xs.length cap) xs.length (xs.flatMap E.enc)
section
variable {α : Type} {E : Enc α} {e : TypeId}
theorem OwnS.nil (base : Nat) (w : World) : OwnS E e base w none 0 [] := World.ownsRow_nil _ _ _ _
theorem OwnS.ext {base : Nat} {w w' : World} {a : Option Addr} {cap : Nat} {xs : List α} (h : OwnS E e base w a cap xs) (hx : Ext w w') : OwnS E e base w' a cap xs :=
  World.ownsRow.kept h ⟨hx.os, hx.tape, hx.output, hx.size, fun k hk _ => Below.block hx k hk⟩ (row := none) (by cases a <;> simp [Value.ownBlock])
theorem OwnS.le {base base' : Nat} {w : World} {a : Option Addr} {cap : Nat} {xs : List α} (h : OwnS E e base w a cap xs) (hb : base' ≤ base) : OwnS E e base' w a cap xs := Go.Joins.ownsRow_le h hb
theorem OwnS.lt {base : Nat} {w : World} {a : Option Addr} {cap : Nat} {xs : List α} (h : OwnS E e base w a cap xs) : ∀ p, a = some p → base ≤ p.block ∧ p.block < w.heap.size := by
  rintro p rfl
  exact World.ownsRow.lt h p.block rfl
theorem OwnS.rd {base : Nat} {w : World} {a : Option Addr} {cap : Nat} {xs : List α} (h : OwnS E e base w a cap xs) : RdS E w a xs := by
  intro j hj
  obtain ⟨g, c, hv⟩ := Go.Joins.ownsRow_form h (by omega)
  simp only [Value.slice.injEq] at hv
  obtain ⟨rfl, -, rfl⟩ := hv
  refine ⟨g, 0, rfl, fun i u hu => ?_⟩
  have hi : i < E.k := by rw [← E.len xs[j]]; exact (List.getElem?_eq_some_iff.1 hu).1
  have hjk : j * E.k + i < xs.length * E.k := by
    have : (j + 1) * E.k ≤ xs.length * E.k := Nat.mul_le_mul_right _ hj
    rw [Nat.add_mul] at this; omega
  rw [Nat.zero_add, World.ownsRow.cellAt h _ hjk, flat_at E xs j hj i hi]
  exact hu
theorem OwnS.lit {base : Nat} (W : World) (hb : base ≤ W.heap.size) (xs : List α) (cs : Array Value) (hc : cs = (xs.flatMap E.enc).toArray) (hm : xs.length ≤ 1000) : OwnS E e base (W.alloc (.cells cs e)) (some ⟨W.heap.size, 0, none⟩) xs.length xs := by
  subst hc
  have := World.ownsRow_lit (base := base) (e := e) (size := E.k) W (xs.flatMap E.enc).toArray xs.length hb (by unfold maxLen; omega) (by simp only [List.size_toArray]; exact flat_len E xs)
  simpa [OwnS] using this
theorem app_s {P : Program} {ops : Array Oper} {rest : List Oper} {o : Oper} {act : Act} {Q : Exit → Act → World → Prop} (t : TypeId) (z : Value) (bytes : Nat) (hu : P.underlying t = some (.slice e)) (hinf : (P.info? e).map (fun i => (i.zero, i.size, i.bytes)) = some (some z, E.k, bytes)) (hz : z.cells.size = E.k)
    (w0 W : World) (hgd : o.guard = none) (s x : Operand)
    (ho : o.op = .call { callee := .builtin .append, args := #[s, x], argTypes := #[t, t] }) (a : Option Addr) (cap : Nat) (xs : List α) (y : α) (cs : Array Value) (hcs : cs = (E.enc y).toArray)
    (hs : act.eval s = .slice a xs.length cap) (hown : OwnS E e w0.heap.size W a cap xs) (he : Ext w0 W) (hx : act.eval x = .slice (some ⟨W.heap.size, 0, none⟩) 1 1) (hb : xs.length ≤ 1099511627776) (hby : bytes ≤ 100)
    (h : ∀ a' cap' w', OwnS E e w0.heap.size w' a' cap' (xs ++ [y]) → Ext w0 w' → wpList P ops Q rest (act.put o.dst (.slice a' (xs.length + 1) cap')) w') :
    wpList P ops Q (o :: rest) act (W.alloc (.cells cs e)) := by
  subst hcs
  obtain ⟨i0, hi, hz0, hz1, hz2⟩ := info_parts hinf
  refine wpList_append_own _ hgd s x t ho w0.heap.size e i0 z E.k bytes hu hi hz0 hz1 hz2 hz E.pos _ xs.length (xs.flatMap E.enc) hs (World.ownsRow.alloc hown _) ⟨W.heap.size, 0, none⟩ 1 1 (E.enc y) hx (by rw [E.len, Nat.one_mul]) ?_ (E.one y) (by unfold maxLen; omega) (Nat.le_trans (Nat.mul_le_mul_left _ hby) (by omega)) (by have := he.size; simp; omega) ?_
  · intro j u hj
    have := cell_of_row (W.alloc (.cells (E.enc y).toArray e)) W.heap.size j (E.enc y).toArray e (0, 0) (heap_alloc_new W _)
    have ea : (⟨W.heap.size, 0, none⟩ : Addr).add j = ⟨W.heap.size, j, none⟩ := by unfold Addr.add; split <;> simp_all
    rw [ea, this]; simpa using hj
  · intro v' w' hown' hg hnil
    obtain ⟨g, c, rfl⟩ := Go.Joins.ownsRow_form hown' (by omega)
    have e1 : Ext w0 w' := by
      refine Below.trans (Below.alloc he he.size (.cells (E.enc y).toArray e)) ⟨hg.os, hg.tape, hg.output, hg.size, fun k hk => hg.block k (by have := he.size; simp; omega) ?_⟩
      intro e
      cases a with
      | none => simp [Value.ownBlock] at e
      | some p => have := hown.lt p rfl; simp [Value.ownBlock] at e; omega
    refine h (some ⟨g, 0, none⟩) c w' ?_ e1
    simpa [OwnS] using hown'
end
def EncP : Enc (Nat × Nat) := { k := 2, enc := fun x => [.int .i64 (x.1 : Nat), .int .i64 (x.2 : Nat)], len := fun _ => rfl, one := fun x u hu => by simp at hu; rcases hu with rfl | rfl <;> rfl, pos := by decide }

theorem RdS.pair {w : World} {a : Option Addr} {xs : List (Nat × Nat)} (h : RdS EncP w a xs) (n : Nat) (hn : n < xs.length) : ∃ g o, a = some ⟨g, o, none⟩ ∧ w.cell? ⟨g, o + n * 2, none⟩ = some (.int .i64 (xs[n].1 : Nat)) ∧ w.cell? ⟨g, o + n * 2 + 1, none⟩ = some (.int .i64 (xs[n].2 : Nat)) := by
  obtain ⟨g, o, ha, hc⟩ := h n hn
  exact ⟨g, o, ha, hc 0 _ rfl, hc 1 _ rfl⟩

end Go.Proofs.YtckfdehendifoaaDoor
/- The contracts of the reference calamusref04. -/
namespace Go.Proofs.YtckfdehendifoaaDoor
open Go.RowKit
set_option linter.unusedVariables false
set_option linter.unusedSimpArgs false
def linesL (l : List UInt8) : List (Nat × Nat) := if validL l then lns l else []
theorem Tryd.infoPair : (Tryd.prog.info? 64).map (fun i => (i.zero, i.size, i.bytes)) = some (some (.agg #[.int .i64 0, .int .i64 0]), 2, 16) := by kernel_rfl
theorem linesL_len (s : ByteArray) : (linesL (ls s)).length ≤ s.size + 1 := by
  unfold linesL; split
  · rw [lns_len]; have := tens_le (ls s); rw [ls_len] at this; omega
  · simp
set_option maxHeartbeats 4000000 in
set_option maxRecDepth 100000 in
theorem r4lines_c (s : ByteArray) (w : World) (hs : s.size ≤ 1099511627775) : Calls Tryd.prog 62 #[.string s] w fun e w' => ∃ a cap, e = .returned (.slice a (linesL (ls s)).length cap) ∧ OwnS EncP 64 w.heap.size w' a cap (linesL (ls s)) ∧ Ext w w' := by
  rcases Bool.eq_false_or_eq_true (validL (ls s)) with hv | hv
  case inr =>
    have Hl : Hid (linesL (ls s) = []) := Lib.hid (by unfold linesL; simp [hv])
    go_enter Tryd.func62, Tryd.ntmps62
    go_wp2_with (first | (go_at_call 31; refine (rvalid_c _ _ hs).mono ?_; rintro e w1 ⟨rfl, hx1⟩))
    go_ret
    exact ⟨none, 0, by rw [Hl.out]; rfl, by rw [Hl.out]; exact OwnS.nil _ _, (by (repeat (first | exact Ext.refl _ | exact ‹Ext _ _› | refine Ext.alloc ?_ _ | refine Ext.drew ?_ | refine Ext.drewN ?_ _ | (refine Ext.setCell ?_ (by first | omega | (simp; done) | (simp; omega)) _) | refine Ext.trans ?_ ‹Ext _ _›)))⟩
  have Hl : Hid (linesL (ls s) = lns (ls s)) := Lib.hid (by unfold linesL; simp [hv])
  go_enter Tryd.func62, Tryd.ntmps62
  go_wp2_with (first | (go_at_call 31; refine (rvalid_c _ _ hs).mono ?_; rintro e w1 ⟨rfl, hx1⟩))
  go_loopw [3, 4, 5] (fun v f i wr => ∃ (j b : Nat) (a : Option Addr) (cap : Nat) (D : List (Nat × Nat)), i = .int .i64 j ∧ f = .int .i64 b ∧ v = .slice a D.length cap ∧ j ≤ s.size + 1 ∧ D.length ≤ j ∧ Hid (j ≤ s.size → lns (ls s) = D ++ lnsF ((ls s).drop j) b j) ∧ Hid (j = s.size + 1 → D = lns (ls s)) ∧ Hid (OwnS EncP 64 w.heap.size wr a cap D) ∧ Ext w wr) (fun _ _ i _ => s.size + 1 - (intOf i).toNat)
  case atStart => exact ⟨0, 0, none, 0, [], rfl, rfl, rfl, by omega, by simp, Lib.hid (fun _ => by simp [lns]), Lib.hid (fun h => by omega), Lib.hid (OwnS.nil _ _), (by (repeat (first | exact Ext.refl _ | exact ‹Ext _ _› | refine Ext.alloc ?_ _ | refine Ext.drew ?_ | refine Ext.drewN ?_ _ | (refine Ext.setCell ?_ (by first | omega | (simp; done) | (simp; omega)) _) | refine Ext.trans ?_ ‹Ext _ _›)))⟩
  case round =>
    obtain ⟨j, b, a, cap, D, rfl, rfl, rfl, hj, hD, H1, H2, Hown, hx⟩ := hrel
    by_cases c1 : j < s.size
    · have Hs := Lib.hid (lnsF_step (ls s) b j (by rw [ls_len]; exact c1))
      have Hby := Lib.hid (byL_eq s j c1)
      by_cases c2 : (s[j].toNat : Int) = 10
      · go_wp2_with (first | (at_builtin; refine app_s 62 (.agg #[.int .i64 0, .int .i64 0]) 16 Tryd.underlying62 Tryd.infoPair rfl w _ rfl _ _ rfl _ _ (D) ((b, j)) _ rfl rfl (Hown.out.ext (by (repeat (first | exact Ext.refl _ | exact ‹Ext _ _› | refine Ext.alloc ?_ _ | refine Ext.drew ?_ | refine Ext.drewN ?_ _ | (refine Ext.setCell ?_ (by first | omega | (simp; done) | (simp; omega)) _) | refine Ext.trans ?_ ‹Ext _ _›)))) (by (repeat (first | exact Ext.refl _ | exact ‹Ext _ _› | refine Ext.alloc ?_ _ | refine Ext.drew ?_ | refine Ext.drewN ?_ _ | (refine Ext.setCell ?_ (by first | omega | (simp; done) | (simp; omega)) _) | refine Ext.trans ?_ ‹Ext _ _›))) rfl (by omega) (by decide) ?_; intro a2 cap2 w2 hown2 hx2))
        go_roundw
        case rel =>
          refine ⟨j + 1, j + 1, a2, cap2, D ++ [(b, j)], by go_num, by go_num, by simp, by omega, by (simp <;> omega), Lib.hid (fun _ => ?_), Lib.hid (fun h => by omega), Lib.hid hown2, (by (repeat (first | exact Ext.refl _ | exact ‹Ext _ _› | refine Ext.alloc ?_ _ | refine Ext.drew ?_ | refine Ext.drewN ?_ _ | (refine Ext.setCell ?_ (by first | omega | (simp; done) | (simp; omega)) _) | refine Ext.trans ?_ ‹Ext _ _›)))⟩
          rw [H1.out (by omega), Hs.out, ← Hby.out, if_pos c2]; simp
        case measure => simp [intOf]; omega
      · have c3 : ((s[j].toNat : Int) == 10) = false := by simp; omega
        go_wp2
        go_roundw
        case rel =>
          refine ⟨j + 1, b, a, cap, D, by go_num, rfl, rfl, by omega, by omega, Lib.hid (fun _ => ?_), Lib.hid (fun h => by omega), Hown, (by (repeat (first | exact Ext.refl _ | exact ‹Ext _ _› | refine Ext.alloc ?_ _ | refine Ext.drew ?_ | refine Ext.drewN ?_ _ | (refine Ext.setCell ?_ (by first | omega | (simp; done) | (simp; omega)) _) | refine Ext.trans ?_ ‹Ext _ _›)))⟩
          rw [H1.out (by omega), Hs.out, ← Hby.out, if_neg c2]
        case measure => simp [intOf]; omega
    · by_cases c2 : j = s.size
      · subst c2
        have He : Hid (lnsF ((ls s).drop s.size) b s.size = [(b, s.size)]) := Lib.hid (lnsF_end _ _ _ (by rw [ls_len]; omega))
        go_wp2_with (first | (at_builtin; refine app_s 62 (.agg #[.int .i64 0, .int .i64 0]) 16 Tryd.underlying62 Tryd.infoPair rfl w _ rfl _ _ rfl _ _ (D) ((b, s.size)) _ rfl rfl (Hown.out.ext (by (repeat (first | exact Ext.refl _ | exact ‹Ext _ _› | refine Ext.alloc ?_ _ | refine Ext.drew ?_ | refine Ext.drewN ?_ _ | (refine Ext.setCell ?_ (by first | omega | (simp; done) | (simp; omega)) _) | refine Ext.trans ?_ ‹Ext _ _›)))) (by (repeat (first | exact Ext.refl _ | exact ‹Ext _ _› | refine Ext.alloc ?_ _ | refine Ext.drew ?_ | refine Ext.drewN ?_ _ | (refine Ext.setCell ?_ (by first | omega | (simp; done) | (simp; omega)) _) | refine Ext.trans ?_ ‹Ext _ _›))) rfl (by omega) (by decide) ?_; intro a2 cap2 w2 hown2 hx2))
        go_roundw
        case rel =>
          refine ⟨s.size + 1, s.size + 1, a2, cap2, D ++ [(b, s.size)], by go_num, by go_num, by simp, by omega, by (simp <;> omega), Lib.hid (fun h => by omega), Lib.hid (fun _ => ?_), Lib.hid hown2, (by (repeat (first | exact Ext.refl _ | exact ‹Ext _ _› | refine Ext.alloc ?_ _ | refine Ext.drew ?_ | refine Ext.drewN ?_ _ | (refine Ext.setCell ?_ (by first | omega | (simp; done) | (simp; omega)) _) | refine Ext.trans ?_ ‹Ext _ _›)))⟩
          rw [H1.out (by omega), He.out]
        case measure => (simp [intOf] <;> omega)
      · have c3 : j = s.size + 1 := by omega
        have hD2 := H2.out c3
        subst c3
        go_wp2
        go_ret
        subst hD2
        exact ⟨a, cap, by rw [Hl.out]; first | rfl | (simp; done), by rw [Hl.out]; exact Hown.out, (by (repeat (first | exact Ext.refl _ | exact ‹Ext _ _› | refine Ext.alloc ?_ _ | refine Ext.drew ?_ | refine Ext.drewN ?_ _ | (refine Ext.setCell ?_ (by first | omega | (simp; done) | (simp; omega)) _) | refine Ext.trans ?_ ‹Ext _ _›)))⟩

theorem linesL_at {l : List UInt8} {k : Nat} (h : k < (linesL l).length) : startI l k = ((linesL l)[k].1 : Nat) ∧ endI l k = ((linesL l)[k].2 : Nat) ∧ validL l = true := by
  rcases Bool.eq_false_or_eq_true (validL l) with hv | hv
  · have e : linesL l = lns l := by unfold linesL; simp [hv]
    have hl : lineI l k = some (linesL l)[k] := by
      unfold lineI; rw [if_pos ⟨hv, by omega⟩, Int.toNat_natCast]
      simp only [e] at h ⊢
      exact List.getElem?_eq_getElem h
    unfold startI endI; rw [hl]; exact ⟨rfl, rfl, hv⟩
  · have e : linesL l = [] := by unfold linesL; simp [hv]
    rw [e] at h; simp at h
theorem linesL_out {l : List UInt8} {k : Int} (h : k < 0 ∨ ((linesL l).length : Int) ≤ k) : startI l k = -1 ∧ endI l k = -1 := by
  have hl : lineI l k = none := by
    unfold lineI
    split
    · rename_i hc
      have e : linesL l = lns l := by unfold linesL; simp [hc.1]
      rw [e] at h
      exact List.getElem?_eq_none (by omega)
    · rfl
  unfold startI endI; rw [hl]; exact ⟨rfl, rfl⟩
theorem linesL_count (l : List UInt8) : ((linesL l).length : Int) = lcountI l := by
  unfold linesL lcountI; split
  · rw [lns_len]; simp
  · simp
set_option maxHeartbeats 4000000 in
set_option maxRecDepth 100000 in
theorem r4count_c (s : ByteArray) (w : World) (hs : s.size ≤ 1099511627775) : Calls Tryd.prog 64 #[.string s] w fun e w' => e = .returned (.int .i64 (lcountI (ls s))) ∧ Ext w w' := by
  have Hc := Lib.hid (linesL_count (ls s))
  go_enter Tryd.func64, Tryd.ntmps64
  go_wp2_with (first | (go_at_call 62; refine (r4lines_c _ _ hs).mono ?_; rintro e w1 ⟨a, cap, rfl, hown, hx1⟩))
  go_ret
  exact ⟨ret1 Hc.out, (by (repeat (first | exact Ext.refl _ | exact ‹Ext _ _› | refine Ext.alloc ?_ _ | refine Ext.drew ?_ | refine Ext.drewN ?_ _ | (refine Ext.setCell ?_ (by first | omega | (simp; done) | (simp; omega)) _) | refine Ext.trans ?_ ‹Ext _ _›)))⟩
set_option maxHeartbeats 4000000 in
set_option maxRecDepth 100000 in
theorem r4start_c (s : ByteArray) (k : Int) (w : World) (hs : s.size ≤ 1099511627775) : Calls Tryd.prog 33 #[.string s, .int .i64 k] w fun e w' => e = .returned (.int .i64 (startI (ls s) k)) ∧ Ext w w' := by
  by_cases hk : k < 0 ∨ ((linesL (ls s)).length : Int) ≤ k
  · have Ho := Lib.hid (linesL_out hk).1
    go_enter Tryd.func33, Tryd.ntmps33
    go_wp2_with (first | (go_at_call 62; refine (r4lines_c _ _ hs).mono ?_; rintro e w1 ⟨a, cap, rfl, hown, hx1⟩))
    all_goals (first | (go_ret; exact ⟨ret1 Ho.out.symm, (by (repeat (first | exact Ext.refl _ | exact ‹Ext _ _› | refine Ext.alloc ?_ _ | refine Ext.drew ?_ | refine Ext.drewN ?_ _ | (refine Ext.setCell ?_ (by first | omega | (simp; done) | (simp; omega)) _) | refine Ext.trans ?_ ‹Ext _ _›)))⟩) | (exfalso; omega))
  · obtain ⟨n, rfl⟩ : ∃ n : Nat, k = n := ⟨k.toNat, by omega⟩
    have hn : n < (linesL (ls s)).length := by omega
    have Ho := Lib.hid (linesL_at hn).1
    clear hk
    go_enter Tryd.func33, Tryd.ntmps33
    go_wp2_with (first | (go_at_call 62; refine (r4lines_c _ _ hs).mono ?_; rintro e w1 ⟨a, cap, rfl, hown, hx1⟩; obtain ⟨g, o, rfl, hc0, hc1⟩ := RdS.pair (OwnS.rd hown) n hn))
    all_goals (go_ret; exact ⟨ret1 Ho.out.symm, (by (repeat (first | exact Ext.refl _ | exact ‹Ext _ _› | refine Ext.alloc ?_ _ | refine Ext.drew ?_ | refine Ext.drewN ?_ _ | (refine Ext.setCell ?_ (by first | omega | (simp; done) | (simp; omega)) _) | refine Ext.trans ?_ ‹Ext _ _›)))⟩)

set_option maxHeartbeats 4000000 in
set_option maxRecDepth 100000 in
theorem r4end_c (s : ByteArray) (k : Int) (w : World) (hs : s.size ≤ 1099511627775) : Calls Tryd.prog 35 #[.string s, .int .i64 k] w fun e w' => e = .returned (.int .i64 (endI (ls s) k)) ∧ Ext w w' := by
  by_cases hk : k < 0 ∨ ((linesL (ls s)).length : Int) ≤ k
  · have Ho := Lib.hid (linesL_out hk).2
    go_enter Tryd.func35, Tryd.ntmps35
    go_wp2_with (first | (go_at_call 62; refine (r4lines_c _ _ hs).mono ?_; rintro e w1 ⟨a, cap, rfl, hown, hx1⟩))
    all_goals (first | (go_ret; exact ⟨ret1 Ho.out.symm, (by (repeat (first | exact Ext.refl _ | exact ‹Ext _ _› | refine Ext.alloc ?_ _ | refine Ext.drew ?_ | refine Ext.drewN ?_ _ | (refine Ext.setCell ?_ (by first | omega | (simp; done) | (simp; omega)) _) | refine Ext.trans ?_ ‹Ext _ _›)))⟩) | (exfalso; omega))
  · obtain ⟨n, rfl⟩ : ∃ n : Nat, k = n := ⟨k.toNat, by omega⟩
    have hn : n < (linesL (ls s)).length := by omega
    have Ho := Lib.hid (linesL_at hn).2.1
    clear hk
    go_enter Tryd.func35, Tryd.ntmps35
    go_wp2_with (first | (go_at_call 62; refine (r4lines_c _ _ hs).mono ?_; rintro e w1 ⟨a, cap, rfl, hown, hx1⟩; obtain ⟨g, o, rfl, hc0, hc1⟩ := RdS.pair (OwnS.rd hown) n hn))
    all_goals (go_ret; exact ⟨ret1 Ho.out.symm, (by (repeat (first | exact Ext.refl _ | exact ‹Ext _ _› | refine Ext.alloc ?_ _ | refine Ext.drew ?_ | refine Ext.drewN ?_ _ | (refine Ext.setCell ?_ (by first | omega | (simp; done) | (simp; omega)) _) | refine Ext.trans ?_ ‹Ext _ _›)))⟩)
def lastAt (X : List (Nat × Nat)) (p : Int) : Nat → Int
  | 0 => -1
  | k + 1 => if ((X.getD k (0, 0)).1 : Int) ≤ p then (k : Int) else lastAt X p k
theorem lnsF_starts : ∀ (r : List UInt8) (st i : Nat), st ≤ i → ∀ j, j + 1 < (lnsF r st i).length → i < ((lnsF r st i).getD (j + 1) (0, 0)).1
  | [], st, i, _, j, h => by simp [lnsF] at h
  | b :: r, st, i, hs, j, h => by
    by_cases hb : b = 10
    · rw [lnsF, if_pos hb] at h ⊢
      rw [List.getD_cons_succ]
      obtain ⟨e, q, h1, _, _⟩ := lnsF_head r (i + 1) (i + 1)
      cases j with
      | zero => rw [h1]; simp
      | succ j =>
        have := lnsF_starts r (i + 1) (i + 1) (Nat.le_refl _) j (by simpa using h)
        omega
    · rw [lnsF, if_neg hb] at h ⊢
      have := lnsF_starts r st (i + 1) (by omega) j h
      omega
theorem lastAt_of (l : List UInt8) (p : Nat) (hp : p ≤ l.length) : lastAt (lns l) p (lns l).length = (fds l p : Nat) := by
  obtain ⟨a, ha, hl⟩ := lns_split l p hp
  obtain ⟨e, q, h1, h2, h3⟩ := lnsF_head (l.drop p) (lst l p) p
  have hlst := lst_le l p
  have hlt : fds l p < (lns l).length := by rw [ha, List.length_append, hl, h1]; simp
  have key : ∀ d, fds l p + 1 + d ≤ (lns l).length → lastAt (lns l) p (fds l p + 1 + d) = (fds l p : Nat) := by
    intro d
    induction d with
    | zero =>
      intro _
      have e0 : ((lns l).getD (fds l p) (0, 0)).1 = lst l p := by
        rw [ha, List.getD_eq_getElem?_getD, List.getElem?_append_right (by omega), hl, Nat.sub_self, h1]; rfl
      rw [Nat.add_zero, lastAt, e0, if_pos (by omega)]
    | succ d ih =>
      intro hd
      have e0 : p < ((lns l).getD (fds l p + 1 + d) (0, 0)).1 := by
        have := lnsF_starts (l.drop p) (lst l p) p hlst d (by rw [ha, List.length_append, hl] at hd; omega)
        rw [ha, List.getD_eq_getElem?_getD, List.getElem?_append_right (by omega), hl]
        rw [List.getD_eq_getElem?_getD] at this
        rw [show fds l p + 1 + d - fds l p = d + 1 by omega]
        exact this
      rw [show fds l p + 1 + (d + 1) = (fds l p + 1 + d) + 1 by omega, lastAt, if_neg (by omega)]
      exact ih (by omega)
  have := key ((lns l).length - (fds l p + 1)) (by omega)
  rwa [Nat.add_sub_cancel' (by omega)] at this
set_option maxHeartbeats 4000000 in
set_option maxRecDepth 100000 in
theorem r4of_c (s : ByteArray) (p : Int) (w : World) (hs : s.size ≤ 1099511627775) : Calls Tryd.prog 32 #[.string s, .int .i64 p] w fun e w' => e = .returned (.int .i64 (ofI (ls s) p)) ∧ Ext w w' := by
  by_cases h0 : p < 0 ∨ (s.size : Int) < p
  · have Ho : Hid (ofI (ls s) p = -1) := Lib.hid (by unfold ofI; rw [if_pos (by rw [ls_len]; omega)])
    go_enter Tryd.func32, Tryd.ntmps32
    go_wp2_with (first | (go_at_call 62; refine (r4lines_c _ _ hs).mono ?_; rintro e w1 ⟨a, cap, rfl, hown, hx1⟩))
    all_goals (first | (go_ret; exact ⟨ret1 Ho.out.symm, (by (repeat (first | exact Ext.refl _ | exact ‹Ext _ _› | refine Ext.alloc ?_ _ | refine Ext.drew ?_ | refine Ext.drewN ?_ _ | (refine Ext.setCell ?_ (by first | omega | (simp; done) | (simp; omega)) _) | refine Ext.trans ?_ ‹Ext _ _›)))⟩) | (exfalso; omega))
  · obtain ⟨k, rfl⟩ : ∃ k : Nat, p = k := ⟨p.toNat, by omega⟩
    have hk : k ≤ s.size := by omega
    clear h0
    have hll := linesL_len s
    have Ho : Hid (lastAt (linesL (ls s)) k (linesL (ls s)).length = ofI (ls s) k) := Lib.hid (by
      unfold linesL ofI
      rcases Bool.eq_false_or_eq_true (validL (ls s)) with hv | hv
      · rw [if_pos hv, if_neg (by rw [ls_len, hv]; simp; omega), Int.toNat_natCast]
        exact lastAt_of _ _ (by rw [ls_len]; exact hk)
      · simp [hv, lastAt])
    go_enter Tryd.func32, Tryd.ntmps32
    go_wp2_with (first | (go_at_call 62; refine (r4lines_c _ _ hs).mono ?_; rintro e w1 ⟨a, cap, rfl, hown, hx1⟩))
    go_loopw [6] (fun v wr => ∃ j : Nat, v = .int .i64 ((j : Int) - 1) ∧ j ≤ (linesL (ls s)).length ∧ lastAt (linesL (ls s)) k j = lastAt (linesL (ls s)) k (linesL (ls s)).length ∧ Ext w1 wr) (fun v _ => (intOf v + 1).toNat)
    case atStart => exact ⟨(linesL (ls s)).length, rfl, by omega, rfl, Ext.refl _⟩
    case round =>
      obtain ⟨j, rfl, hj, hok, hx⟩ := hrel
      have Hok := Lib.hid hok
      clear hok
      rcases Nat.eq_zero_or_pos j with h0 | h0
      · subst h0
        have Hn : Hid (ofI (ls s) k = -1) := Lib.hid (by rw [← Ho.out, ← Hok.out]; rfl)
        go_wp2
        go_ret
        exact ⟨ret1 Hn.out.symm, (by (repeat (first | exact Ext.refl _ | exact ‹Ext _ _› | refine Ext.alloc ?_ _ | refine Ext.drew ?_ | refine Ext.drewN ?_ _ | (refine Ext.setCell ?_ (by first | omega | (simp; done) | (simp; omega)) _) | refine Ext.trans ?_ ‹Ext _ _›)))⟩
      · obtain ⟨i, rfl⟩ : ∃ i, j = i + 1 := ⟨j - 1, by omega⟩
        have e1 : ((i + 1 : Nat) : Int) - 1 = (i : Int) := by omega
        rw [e1]
        have hi : i < (linesL (ls s)).length := by omega
        have Hs : Hid (lastAt (linesL (ls s)) k (i + 1) = if ((linesL (ls s))[i].1 : Int) ≤ k then (i : Int) else lastAt (linesL (ls s)) k i) := Lib.hid (by
          rw [lastAt, List.getD_eq_getElem?_getD, List.getElem?_eq_getElem hi]; rfl)
        obtain ⟨g, o, rfl, hc0, hc1⟩ := RdS.pair ((OwnS.rd hown).ext hx) i hi
        clear e1
        go_wp2
        · go_ret
          refine ⟨ret1 ?_, (by (repeat (first | exact Ext.refl _ | exact ‹Ext _ _› | refine Ext.alloc ?_ _ | refine Ext.drew ?_ | refine Ext.drewN ?_ _ | (refine Ext.setCell ?_ (by first | omega | (simp; done) | (simp; omega)) _) | refine Ext.trans ?_ ‹Ext _ _›)))⟩
          rw [← Ho.out, ← Hok.out, Hs.out, if_pos (by omega)]
        · go_roundw
          case rel =>
            refine ⟨i, by go_num, by omega, ?_, (by (repeat (first | exact Ext.refl _ | exact ‹Ext _ _› | refine Ext.alloc ?_ _ | refine Ext.drew ?_ | refine Ext.drewN ?_ _ | (refine Ext.setCell ?_ (by first | omega | (simp; done) | (simp; omega)) _) | refine Ext.trans ?_ ‹Ext _ _›)))⟩
            rw [← Hok.out, Hs.out, if_neg (by omega)]
          case measure => (simp [intOf] <;> omega)

end Go.Proofs.YtckfdehendifoaaDoor
/- The contracts of calamusref04.Column and At. -/
namespace Go.Proofs.YtckfdehendifoaaDoor
open Go.RowKit
set_option linter.unusedVariables false
set_option linter.unusedSimpArgs false
theorem up_sub (s : ByteArray) (k : Nat) : ls (s.extract (lst (ls s) k) k) = upL (ls s) k := by unfold upL; exact Lib.extract_data s _ _

end Go.Proofs.YtckfdehendifoaaDoor
/- The contracts of the packages line and calamusref04 in the printer's form. -/
namespace Go.Proofs.YtckfdehendifoaaDoor
open Go.RowKit
set_option linter.unusedVariables false
set_option linter.unusedSimpArgs false
def line_Count.f (a0 : ByteArray) : Option (Int) := if a0.size ≤ 1099511627775 then some (lcountI (ls a0)) else none
theorem line_Count.eq (a0 : ByteArray) (hg : a0.size ≤ 1099511627775) : line_Count.f a0 = some (lcountI (ls a0)) := if_pos hg
theorem line_Count.calls (a0 : ByteArray) (r : Int) (w : World) (h : line_Count.f a0 = some r) : Calls Tryd.prog 17 #[.string a0] w fun e w' => e = .returned (.int .i64 r) ∧ Below w.heap.size w w' := by
  unfold line_Count.f at h
  split at h
  · cases h; exact lcount_c a0 w (by omega)
  · cases h
def line_Start.f (a0 : ByteArray) (a1 : Int) : Option (Int) := if a0.size ≤ 1099511627775 then some (startI (ls a0) a1) else none
theorem line_Start.eq (a0 : ByteArray) (a1 : Int) (hg : a0.size ≤ 1099511627775) : line_Start.f a0 a1 = some (startI (ls a0) a1) := if_pos hg
theorem line_Start.calls (a0 : ByteArray) (a1 : Int) (r : Int) (w : World) (h : line_Start.f a0 a1 = some r) : Calls Tryd.prog 56 #[.string a0, .int .i64 a1] w fun e w' => e = .returned (.int .i64 r) ∧ Below w.heap.size w w' := by
  unfold line_Start.f at h
  split at h
  · cases h; exact lstart_c a0 a1 w (by omega)
  · cases h
def line_End.f (a0 : ByteArray) (a1 : Int) : Option (Int) := if a0.size ≤ 1099511627775 then some (endI (ls a0) a1) else none
theorem line_End.eq (a0 : ByteArray) (a1 : Int) (hg : a0.size ≤ 1099511627775) : line_End.f a0 a1 = some (endI (ls a0) a1) := if_pos hg
theorem line_End.calls (a0 : ByteArray) (a1 : Int) (r : Int) (w : World) (h : line_End.f a0 a1 = some r) : Calls Tryd.prog 55 #[.string a0, .int .i64 a1] w fun e w' => e = .returned (.int .i64 r) ∧ Below w.heap.size w w' := by
  unfold line_End.f at h
  split at h
  · cases h; exact lend_c a0 a1 w (by omega)
  · cases h
def line_Of.f (a0 : ByteArray) (a1 : Int) : Option (Int) := if a0.size ≤ 1099511627775 then some (ofI (ls a0) a1) else none
theorem line_Of.eq (a0 : ByteArray) (a1 : Int) (hg : a0.size ≤ 1099511627775) : line_Of.f a0 a1 = some (ofI (ls a0) a1) := if_pos hg
theorem line_Of.calls (a0 : ByteArray) (a1 : Int) (r : Int) (w : World) (h : line_Of.f a0 a1 = some r) : Calls Tryd.prog 22 #[.string a0, .int .i64 a1] w fun e w' => e = .returned (.int .i64 r) ∧ Below w.heap.size w w' := by
  unfold line_Of.f at h
  split at h
  · cases h; exact lof_c a0 a1 w (by omega)
  · cases h
def line_Clamp.f (a0 : ByteArray) (a1 : Int) : Option (Int) := if a0.size ≤ 1099511627775 then some (clampI (ls a0) a1) else none
theorem line_Clamp.eq (a0 : ByteArray) (a1 : Int) (hg : a0.size ≤ 1099511627775) : line_Clamp.f a0 a1 = some (clampI (ls a0) a1) := if_pos hg
theorem line_Clamp.calls (a0 : ByteArray) (a1 : Int) (r : Int) (w : World) (h : line_Clamp.f a0 a1 = some r) : Calls Tryd.prog 28 #[.string a0, .int .i64 a1] w fun e w' => e = .returned (.int .i64 r) ∧ Below w.heap.size w w' := by
  unfold line_Clamp.f at h
  split at h
  · cases h; exact clamp_c a0 a1 w (by omega)
  · cases h
def calamusref04_Count.f (a0 : ByteArray) : Option (Int) := if a0.size ≤ 1099511627775 then some (lcountI (ls a0)) else none
theorem calamusref04_Count.eq (a0 : ByteArray) (hg : a0.size ≤ 1099511627775) : calamusref04_Count.f a0 = some (lcountI (ls a0)) := if_pos hg
theorem calamusref04_Count.calls (a0 : ByteArray) (r : Int) (w : World) (h : calamusref04_Count.f a0 = some r) : Calls Tryd.prog 64 #[.string a0] w fun e w' => e = .returned (.int .i64 r) ∧ Below w.heap.size w w' := by
  unfold calamusref04_Count.f at h
  split at h
  · cases h; exact r4count_c a0 w (by omega)
  · cases h
def calamusref04_Start.f (a0 : ByteArray) (a1 : Int) : Option (Int) := if a0.size ≤ 1099511627775 then some (startI (ls a0) a1) else none
theorem calamusref04_Start.eq (a0 : ByteArray) (a1 : Int) (hg : a0.size ≤ 1099511627775) : calamusref04_Start.f a0 a1 = some (startI (ls a0) a1) := if_pos hg
theorem calamusref04_Start.calls (a0 : ByteArray) (a1 : Int) (r : Int) (w : World) (h : calamusref04_Start.f a0 a1 = some r) : Calls Tryd.prog 33 #[.string a0, .int .i64 a1] w fun e w' => e = .returned (.int .i64 r) ∧ Below w.heap.size w w' := by
  unfold calamusref04_Start.f at h
  split at h
  · cases h; exact r4start_c a0 a1 w (by omega)
  · cases h
def calamusref04_End.f (a0 : ByteArray) (a1 : Int) : Option (Int) := if a0.size ≤ 1099511627775 then some (endI (ls a0) a1) else none
theorem calamusref04_End.eq (a0 : ByteArray) (a1 : Int) (hg : a0.size ≤ 1099511627775) : calamusref04_End.f a0 a1 = some (endI (ls a0) a1) := if_pos hg
theorem calamusref04_End.calls (a0 : ByteArray) (a1 : Int) (r : Int) (w : World) (h : calamusref04_End.f a0 a1 = some r) : Calls Tryd.prog 35 #[.string a0, .int .i64 a1] w fun e w' => e = .returned (.int .i64 r) ∧ Below w.heap.size w w' := by
  unfold calamusref04_End.f at h
  split at h
  · cases h; exact r4end_c a0 a1 w (by omega)
  · cases h
def calamusref04_Of.f (a0 : ByteArray) (a1 : Int) : Option (Int) := if a0.size ≤ 1099511627775 then some (ofI (ls a0) a1) else none
theorem calamusref04_Of.eq (a0 : ByteArray) (a1 : Int) (hg : a0.size ≤ 1099511627775) : calamusref04_Of.f a0 a1 = some (ofI (ls a0) a1) := if_pos hg
theorem calamusref04_Of.calls (a0 : ByteArray) (a1 : Int) (r : Int) (w : World) (h : calamusref04_Of.f a0 a1 = some r) : Calls Tryd.prog 32 #[.string a0, .int .i64 a1] w fun e w' => e = .returned (.int .i64 r) ∧ Below w.heap.size w w' := by
  unfold calamusref04_Of.f at h
  split at h
  · cases h; exact r4of_c a0 a1 w (by omega)
  · cases h
end Go.Proofs.YtckfdehendifoaaDoor
/- The contracts of strings.Join (a row of texts that is read) and of strings.Contains (a line feed) in the printer's form. -/
namespace Go.Proofs.YtckfdehendifoaaDoor
open Go.RowKit
set_option linter.unusedVariables false
set_option linter.unusedSimpArgs false
open Go.Proofs.YtckfdehendifoaaDoorW
def joinS (l : List ByteArray) (b : ByteArray) : ByteArray := ⟨(Lib.join (l.map (·.data.toList)) b.data.toList).toArray⟩
theorem join_c (A1 : Option Addr) (c1 : Nat) (l1 : List ByteArray) (a0 : ByteArray) (w : World) (hr1 : PrintWords.Kd.C PrintWords.Kd.string w A1 l1.length l1) (hs : ∀ ad, A1 = some ad → ad.spot = none) (hc1 : l1.length ≤ c1) (hg : l1.length ≤ 1000000 ∧ (Lib.join (l1.map (·.data.toList)) a0.data.toList).length ≤ 140737488355328) :
    Calls Tryd.prog 76 #[.slice A1 l1.length c1, .string a0] w fun e w' => e = .returned (.string (joinS l1 a0)) ∧ Ext w w' := by
  cases l1 with
  | nil =>
    refine (Tryd.strings_Join_none A1 c1 a0 w).mono ?_
    rintro e w' ⟨rfl, rfl⟩
    exact ⟨rfl, Ext.refl _⟩
  | cons x r =>
    obtain ⟨_, _, h2⟩ := hr1
    obtain ⟨ad, rfl, hcell⟩ := h2 (by simp)
    have cell : ∀ (j : Nat) y, (x :: r)[j]? = some y → w.cell? (ad.add j) = some (.string y) := by
      intro j y hj
      obtain ⟨c, hl, hk, hc⟩ := hcell j y hj
      have hk' : c = [.string y] := hk
      subst hk'
      have := hc 0 (.string y) rfl
      simpa [PrintWords.Kd.string, PrintWords.Kd.scalar] using this
    obtain ⟨bk, o, sp⟩ := ad
    obtain rfl : sp = none := hs _ rfl
    have h0 := cell 0 x rfl
    refine Tryd.strings_Join bk o c1 (x :: r) a0 w (fun j y hj => ?_) ?_ (by omega) hc1 hg.2
    · have := cell j y hj
      unfold Addr.add at this
      split at this
      · subst j; exact this
      · exact this
    · unfold World.cell? at h0
      split at h0
      · rename_i hb; exact (Array.getElem?_eq_some_iff.1 hb).1
      · cases h0
def PC (w : World) (A : Option Addr) (n : Nat) (l : List ByteArray) : Prop := PrintWords.Kd.C PrintWords.Kd.string w A n l ∧ ∀ ad, A = some ad → ad.spot = none
theorem pc_of {e : Nat} {w : World} {base : Nat} {ok : Nat → Prop} {A : Option Addr} {n c : Nat} {xs : List ByteArray} (h : PrintWords.Kd.R PrintWords.Kd.string e w base ok (.slice A n c) xs) : PC w A xs.length xs := by
  refine ⟨(PrintWords.Kd.R_reads' h).2.2, ?_⟩
  obtain ⟨inner, ho⟩ := PrintWords.Kd.R_own h
  rcases ho.2 with ⟨h1, _⟩ | ⟨g, cap, cur, h1, _⟩
  · intro ad ha; subst ha; simp at h1
  · intro ad ha; subst ha
    simp only [Value.slice.injEq] at h1
    have := h1.1
    cases this; rfl
/- EXT paste.join -/
def paste_join.f (a0 : ByteArray) (l1 : List ByteArray) : Option ByteArray := if l1.length ≤ 1000000 ∧ (Lib.join (l1.map (·.data.toList)) a0.data.toList).length ≤ 140737488355328 then some (joinS l1 a0) else none
theorem paste_join.eq (a0 : ByteArray) (l1 : List ByteArray) (h : l1.length ≤ 1000000 ∧ (Lib.join (l1.map (·.data.toList)) a0.data.toList).length ≤ 140737488355328) : paste_join.f a0 l1 = some (joinS l1 a0) := if_pos h
theorem paste_join.calls (a0 : ByteArray) (A1 : Option Addr) (c1 : Nat) (l1 : List ByteArray) (r : ByteArray) (w : World) (hr1 : PC w A1 l1.length l1) (hc1 : l1.length ≤ c1) (h : paste_join.f a0 l1 = some r) :
    Calls Tryd.prog 58 #[.string a0, .slice A1 l1.length c1] w fun e w' => e = .returned (.string r) ∧ Below w.heap.size w w' := by
  unfold paste_join.f at h
  split at h
  · rename_i hg
    cases h
    have HR := Lib.hid hr1
    clear hr1
    go_enter Tryd.func58, Tryd.ntmps58
    go_wp2_with (first | (go_at_call 76; refine (join_c _ _ _ _ _ HR.out.1 HR.out.2 hc1 hg).mono ?_; rintro e w1 ⟨rfl, hx1⟩))
    go_ret
    exact ⟨rfl, (by (repeat (first | exact Ext.refl _ | exact ‹Ext _ _› | refine Ext.alloc ?_ _ | refine Ext.drew ?_ | refine Ext.drewN ?_ _ | (refine Ext.setCell ?_ (by first | omega | (simp; done) | (simp; omega)) _) | refine Ext.trans ?_ ‹Ext _ _›)))⟩
  · cases h
/- EXT strings.Contains -/
def strings_Contains.f (a0 a1 : ByteArray) : Option Bool := if a1 = ⟨#[10]⟩ then some (decide (0 ≤ Lib.indexByte (ls a0) 10)) else none
theorem strings_Contains.eq (a0 : ByteArray) : strings_Contains.f a0 ⟨#[10]⟩ = some (decide (0 ≤ Lib.indexByte (ls a0) 10)) := rfl
theorem strings_Contains.calls (a0 a1 : ByteArray) (r : Bool) (w : World) (h : strings_Contains.f a0 a1 = some r) : Calls Tryd.prog 27 #[.string a0, .string a1] w fun e w' => e = .returned (.bool r) ∧ Below w.heap.size w w' := by
  unfold strings_Contains.f at h
  split at h
  · rename_i hg
    cases h; subst hg
    refine (Tryd.strings_Contains_one a0 10 w).mono ?_
    rintro e w' ⟨rfl, rfl⟩
    exact ⟨rfl, Below.refl _ _⟩
  · cases h
end Go.Proofs.YtckfdehendifoaaDoor
-- Printed by this work's xp.py out of the translation. Lean checks it.
namespace Go.Proofs.YtckfdehendifoaaDoor.QP
open Go.RowKit Go.Proofs.YtckfdehendifoaaDoorW.PrintWords Go.Proofs.YtckfdehendifoaaDoorW.PrintLast Go.Proofs.YtckfdehendifoaaDoorW.PrintMore
attribute [local go_sem] max2_int min2_int max_two min_two max_three min_three max_four min_four   -- for this text's walks alone
set_option linter.unusedVariables false
set_option linter.unusedSimpArgs false



def errW : Option Int → Value
  | none => .nilIface
  | some c => .iface 0 (.int .i64 c)
theorem errW_none : errW none = .nilIface := rfl
theorem errW_some (c : Int) : errW (some c) = .iface 0 (.int .i64 c) := rfl

theorem info3 : (Tryd.prog.info? 3).map (fun i => (i.zero, i.size, i.bytes)) = some (some (.int .i64 0), 1, 8) := by kernel_rfl
theorem info9 : (Tryd.prog.info? 9).map (fun i => (i.zero, i.size, i.bytes)) = some (some (.string ⟨#[]⟩), 1, 16) := by kernel_rfl
-- the values' own types

end Go.Proofs.YtckfdehendifoaaDoor.QP
/- The contract of line.find in the printer's form. -/
namespace Go.Proofs.YtckfdehendifoaaDoor
open Go.RowKit
set_option linter.unusedVariables false
set_option linter.unusedSimpArgs false
def line_find.f (a0 : ByteArray) (a1 : Int) : Option (Int × Int × Bool) := if a0.size ≤ 1099511627775 then some (startI (ls a0) a1, endI (ls a0) a1, (lineI (ls a0) a1).isSome) else none
theorem line_find.eq (a0 : ByteArray) (a1 : Int) (hg : a0.size ≤ 1099511627775) : line_find.f a0 a1 = some (startI (ls a0) a1, endI (ls a0) a1, (lineI (ls a0) a1).isSome) := if_pos hg
theorem line_find.calls (a0 : ByteArray) (a1 : Int) (r1 : Int) (r2 : Int) (r3 : Bool) (w : World) (h : line_find.f a0 a1 = some (r1, r2, r3)) : Calls Tryd.prog 74 #[.string a0, .int .i64 a1] w fun e w' => e = .returned (.tuple #[.int .i64 r1, .int .i64 r2, .bool r3]) ∧ Below w.heap.size w w' := by
  unfold line_find.f at h
  split at h
  · cases h; exact lfind_c a0 a1 w (by omega)
  · cases h
end Go.Proofs.YtckfdehendifoaaDoor
-- Printed by this work's xp.py out of the translation. Lean checks it.
namespace Go.Proofs.YtckfdehendifoaaDoor.QP
open Go.RowKit Go.Proofs.YtckfdehendifoaaDoorW.PrintWords Go.Proofs.YtckfdehendifoaaDoorW.PrintLast Go.Proofs.YtckfdehendifoaaDoorW.PrintMore
attribute [local go_sem] max2_int min2_int max_two min_two max_three min_three max_four min_four   -- for this text's walks alone
set_option linter.unusedVariables false
set_option linter.unusedSimpArgs false





/-! ### paste_times -/
mutual
def paste_times.j0 : Nat → ByteArray → ByteArray → Int → Bool → Option (ByteArray × Bool)
  | 0, _, _, _, _ => none
  | k + 1, x0, x1, x2, x21 => if x21 = true then (some ((⟨#[]⟩ : ByteArray), false)) else (if 0 ≤ x2 then (if (x2 : Int).toNat ≤ 17592186044416 then ((some (List.replicate (x2 : Int).toNat (⟨#[]⟩ : ByteArray) : List ByteArray)).bind fun y101 => (paste_times.l0 k x0 x1 y101 (y101.length : Int) 0)) else (none)) else (none))
def paste_times.l0 : Nat → ByteArray → ByteArray → List ByteArray → Int → Int → Option (ByteArray × Bool)
  | 0, _, _, _, _, _ => none
  | k + 1, x0, x1, x8, x25, x26 => if x26 < x25 then (if 0 ≤ x26 then (if x26 < (x8.length : Int) then (paste_times.l0 k x0 x1 (x8.set (x26 : Int).toNat x0) x25 (wrap64 (x26 + 1))) else (none)) else (none)) else ((paste_join.f x1 x8).bind fun t105 => (some (t105, true)))
end
def paste_times.f (k : Nat) (a0 : ByteArray) (a1 : ByteArray) (a2 : Int) : Option (ByteArray × Bool) := if a2 > 4097 then (paste_times.j0 k a0 a1 a2 true) else (paste_times.j0 k a0 a1 a2 (decide ((wrap64 (a2 * (wrap64 ((a0.size : Int) + (a1.size : Int))))) > 8194)))
theorem paste_times.mono_l : ∀ k, (∀ y0 y1 y2 y3, LeO (paste_times.j0 k y0 y1 y2 y3) (paste_times.j0 (k + 1) y0 y1 y2 y3)) ∧ (∀ y0 y1 y2 y3 y4, LeO (paste_times.l0 k y0 y1 y2 y3 y4) (paste_times.l0 (k + 1) y0 y1 y2 y3 y4))
  | 0 => ⟨fun _ _ _ _ r h => by simp [paste_times.j0] at h, fun _ _ _ _ _ r h => by simp [paste_times.l0] at h⟩
  | k + 1 => by
    obtain ⟨ih0, ih1⟩ := paste_times.mono_l k
    refine ⟨?_, ?_⟩
    · intro y0 y1 y2 y3
      unfold paste_times.j0
      repeat' first
      | (with_reducible exact ih0 _ _ _ _)
      | (with_reducible exact ih1 _ _ _ _ _)
      | (with_reducible exact LeO.refl _)
      | (with_reducible exact LeO.none _)
      | (with_reducible refine LeO.ite ?_ ?_)
      | (with_reducible refine LeO.bind ?_ (fun _ => ?_))
      | exact ih0 _ _ _ _
      | exact ih1 _ _ _ _ _
      | exact LeO.none _
      | refine LeO.ite ?_ ?_
      | refine LeO.bind ?_ (fun _ => ?_)
    · intro y0 y1 y2 y3 y4
      unfold paste_times.l0
      repeat' first
      | (with_reducible exact ih0 _ _ _ _)
      | (with_reducible exact ih1 _ _ _ _ _)
      | (with_reducible exact LeO.refl _)
      | (with_reducible exact LeO.none _)
      | (with_reducible refine LeO.ite ?_ ?_)
      | (with_reducible refine LeO.bind ?_ (fun _ => ?_))
      | exact ih0 _ _ _ _
      | exact ih1 _ _ _ _ _
      | exact LeO.none _
      | refine LeO.ite ?_ ?_
      | refine LeO.bind ?_ (fun _ => ?_)
theorem paste_times.mono : ∀ a0 a1 a2 k, LeO (paste_times.f k a0 a1 a2) (paste_times.f (k + 1) a0 a1 a2) := by
  intro a0 a1 a2 k
  obtain ⟨ih0, ih1⟩ := paste_times.mono_l k
  unfold paste_times.f
  repeat' first
      | (with_reducible exact ih0 _ _ _ _)
      | (with_reducible exact ih1 _ _ _ _ _)
      | (with_reducible exact LeO.refl _)
      | (with_reducible exact LeO.none _)
      | (with_reducible refine LeO.ite ?_ ?_)
      | (with_reducible refine LeO.bind ?_ (fun _ => ?_))
      | exact ih0 _ _ _ _
      | exact ih1 _ _ _ _ _
      | exact LeO.none _
      | refine LeO.ite ?_ ?_
      | refine LeO.bind ?_ (fun _ => ?_)
set_option maxHeartbeats 8000000 in
set_option maxRecDepth 100000 in
theorem paste_times.calls (k : Nat) (a0 : ByteArray) (a1 : ByteArray) (a2 : Int) (r1 : ByteArray) (r2 : Bool) (w : World) (h : paste_times.f k a0 a1 a2 = some (r1, r2)) :
    Calls Tryd.prog 23 #[.string a0, .string a1, .int .i64 a2] w fun e w' => e = .returned (.tuple #[.string r1, .bool r2]) ∧ Below w.heap.size w w' := by
  have HB := Aside0.mk (Below.refl w.heap.size w)
  have H : (if a2 > 4097 then (paste_times.j0 k a0 a1 a2 true) else (paste_times.j0 k a0 a1 a2 (decide ((wrap64 (a2 * (wrap64 ((a0.size : Int) + (a1.size : Int))))) > 8194)))) = some (r1, r2) := h
  clear h
  have HC4 := Aside0.mk H
  clear H
  go_enter Tryd.func23, Tryd.ntmps23
  go_upto_region 1 with (fail)
  go_cut [21] (fun v21 wc => ∃ (kq : Nat) (x21_3 : Bool), v21 = .bool x21_3 ∧ Aside0 (paste_times.j0 kq a0 a1 a2 x21_3 = some (r1, r2)) ∧ Aside0 (kq ≤ k) ∧ Aside0 (Below w.heap.size w wc))
  case first =>
    have H := HC4.out
    clear HC4
    by_cases c5 : a2 > 4097
    · rw [if_pos c5] at H
      have c5b0 : decide (4097 < a2) = true := decide_eq_true c5
      clear c5
      (first | rw [c5b0] | (simp only [i64_w, i32_w]; rw [c5b0]) | skip)
      have H' := Aside0.mk H
      clear H
      go_wp2
      go_meet
      case rel => exact ⟨_, (true), (by first | rfl | (simp; done) | (simp [*]; done)), H', ⟨by first | omega | exact Nat.le_refl _⟩, ⟨by repeat (first | (with_reducible first | exact HB.out | apply below_alloc | apply pw_below_drewN | apply below_drew1) | exact HB.out)⟩⟩
    · rw [if_neg c5] at H
      have c5b0 : decide (4097 < a2) = false := decide_eq_false c5
      clear c5
      (first | rw [c5b0] | (simp only [i64_w, i32_w]; rw [c5b0]) | skip)
      have H' := Aside0.mk H
      clear H
      go_wp2
      go_meet
      case rel => exact ⟨_, (decide ((wrap64 (a2 * (wrap64 ((a0.size : Int) + (a1.size : Int))))) > 8194)), (by first | rfl | (simp; done) | (simp [*]; done)), H', ⟨by first | omega | exact Nat.le_refl _⟩, ⟨by repeat (first | (with_reducible first | exact HB.out | apply below_alloc | apply pw_below_drewN | apply below_drew1) | exact HB.out)⟩⟩
  case rest =>
    clear HC4
    try clear c2
    try clear p2
    try clear c5
    try clear c5b0
    obtain ⟨kq, x21_3, rfl, HA, HJ3, HB⟩ := hcut
    cases kq with
    | zero => exact absurd HA.out (by simp [paste_times.j0])
    | succ kj3 =>
      have H := HA.out
      clear HA
      simp only [paste_times.j0] at H
      by_cases c6 : x21_3 = true
      · subst c6
        have H1 : (some ((⟨#[]⟩ : ByteArray), false)) = some (r1, r2) := by rw [if_pos rfl] at H; exact H
        clear H
        have H := H1
        clear H1
        simp only [Option.some.injEq, Prod.mk.injEq] at H
        obtain ⟨rfl, rfl⟩ := H
        go_wp2
        go_ret2
        exact ⟨by first | rfl | (simp [errW_none, errW_some] <;> rfl) | (simp [*, errW_none, errW_some] <;> rfl), by repeat (first | (with_reducible first | exact HB.out | apply below_alloc | apply pw_below_drewN | apply below_drew1) | exact HB.out)⟩
      · replace c6 := Bool.eq_false_iff.mpr c6
        subst c6
        have H1 : (if 0 ≤ a2 then (if (a2 : Int).toNat ≤ 17592186044416 then ((some (List.replicate (a2 : Int).toNat (⟨#[]⟩ : ByteArray) : List ByteArray)).bind fun y101 => (paste_times.l0 kj3 a0 a1 y101 (y101.length : Int) 0)) else (none)) else (none)) = some (r1, r2) := by rw [if_neg (show ¬ (false = true) by decide)] at H; exact H
        clear H
        have H := H1
        clear H1
        by_cases c7 : 0 ≤ a2
        · rw [if_pos c7] at H
          have c7b0 := eq_true c7
          have c7b1 : decide (0 ≤ a2) = true := decide_eq_true c7
          clear c7
          by_cases c8 : (a2 : Int).toNat ≤ 17592186044416
          · rw [if_pos c8] at H
            have c8b0 := eq_true c8
            have c8b1 : decide ((a2 : Int).toNat ≤ 17592186044416) = true := decide_eq_true c8
            clear c8
            obtain ⟨y101, hy101⟩ : ∃ y_ : List ByteArray, y_ = (List.replicate (a2 : Int).toNat (⟨#[]⟩ : ByteArray)) := ⟨_, rfl⟩
            replace H : (paste_times.l0 kj3 a0 a1 y101 (y101.length : Int) 0) = some (r1, r2) := by first | (rw [hy101]; with_reducible exact H) | (have H2_ := (Option.bind_some _ _).symm.trans H; rw [hy101]; with_reducible exact H2_) | (have H2_ := (Option.bind_some _ _).symm.trans H; with_reducible exact H2_) | with_reducible exact H | (rw [hy101]; exact H) | exact H
            have Ny101 := Aside0.mk hy101
            clear hy101
            have H' := Aside0.mk H
            clear H
            go_wp2_with (first | ((with_reducible refine gate_dst (N := 23) rfl ?_); refine Kd.R_make Kd.string _ 9 rfl (N := 23) rfl 58 _ _ rfl a2 rfl rfl Tryd.underlying58 (.string ⟨#[]⟩) 16 info9 rfl (by decide) (by omega) (⟨#[]⟩ : ByteArray) (ok := fun _ => True) (okp := fun _ => True) rfl (fun _ hk => hk) trivial (of_decide_eq_true (by first | (with_reducible assumption) | assumption)) (Nat.le_trans (Nat.mul_le_mul_right _ (of_decide_eq_true (by first | (with_reducible assumption) | assumption) : a2.toNat ≤ 17592186044416)) (by omega)) (Below.refl _ _) (Nat.le_refl _) ?_; intro v102 w9 ho10 hb hg_ hnew_; clear hg_ hnew_; (first | rw [← Ny101.out] at ho10 | (simp only [Int.reduceToNat] at ho10; rw [← Ny101.out] at ho10)); have n0_ := Aside0.mk (Kd.R_lower ho10 (below_size (by repeat (first | (with_reducible first | exact HB.out | apply below_alloc | apply pw_below_drewN | apply below_drew1) | exact HB.out)))); have n1_ := Aside0.mk (below_step (by repeat (first | (with_reducible first | exact HB.out | apply below_alloc | apply pw_below_drewN | apply below_drew1) | exact HB.out)) hb); clear HB; have HO103 := n0_; have HB := n1_; clear n0_ n1_; clear hb ho10; obtain ⟨Ao11, co11, eo11⟩ := Kd.R_slice HO103.out; subst eo11))
            go_loopg [26] kj3 (fun kq v26 w' => ∃ (x8_2 : List ByteArray) (x26_2 : Int), v26 = .int .i64 x26_2 ∧ Aside0 (paste_times.l0 kq a0 a1 x8_2 (y101.length : Int) x26_2 = some (r1, r2)) ∧ Aside0 (kq ≤ kj3) ∧ Aside0 (Kd.R Kd.string 9 w' w.heap.size (fun _ => True) (.slice Ao11 y101.length co11) x8_2) ∧ Aside0 (Below w.heap.size w w'))
            case atStart => exact ⟨(y101), (0), (by first | rfl | (simp; done) | (simp [*]; done)), H', ⟨Nat.le_refl _⟩, ⟨by (with_reducible repeat (first | apply Kd.R_alloc | apply Kd.R_drewN | apply Kd.R_drew)); exact HO103.out⟩, ⟨by repeat (first | (with_reducible first | exact HB.out | apply below_alloc | apply pw_below_drewN | apply below_drew1) | exact HB.out)⟩⟩
            case round =>
              clear H'
              try clear c2
              try clear p2
              try clear c5
              try clear c5b0
              try clear c6
              try clear p6
              try clear c7
              try clear c7b0
              try clear c7b1
              try clear c8
              try clear c8b0
              try clear c8b1
              try clear p2
              obtain ⟨x8_2, x26_2, rfl, HA, HK2, HO_8, HB⟩ := hrel
              have hl8_2 := (Kd.R_reads' HO_8.out).1
              rw [hl8_2] at HO_8
              (try simp only [hl8_2])
              cases gk with
              | zero => exact absurd HA.out (by simp [paste_times.l0])
              | succ k2 =>
                have H := HA.out
                clear HA
                simp only [paste_times.l0] at H
                by_cases c12 : x26_2 < (y101.length : Int)
                · rw [if_pos c12] at H
                  have c12b0 : decide (x26_2 < (y101.length : Int)) = true := decide_eq_true c12
                  clear c12
                  by_cases c13 : 0 ≤ x26_2
                  · rw [if_pos c13] at H
                    have c13b0 : decide (0 ≤ x26_2) = true := decide_eq_true c13
                    clear c13
                    by_cases c14 : x26_2 < (x8_2.length : Int)
                    · rw [if_pos c14] at H
                      have c14b0 : decide (x26_2 < (x8_2.length : Int)) = true := decide_eq_true c14
                      clear c14
                      obtain ⟨y104, hy104⟩ : ∃ y_ : List ByteArray, y_ = (x8_2.set (x26_2 : Int).toNat a0) := ⟨_, rfl⟩
                      replace H : (paste_times.l0 k2 a0 a1 y104 (y101.length : Int) (wrap64 (x26_2 + 1))) = some (r1, r2) := by first | (rw [hy104]; with_reducible exact H) | (have H2_ := (Option.bind_some _ _).symm.trans H; rw [hy104]; with_reducible exact H2_) | (have H2_ := (Option.bind_some _ _).symm.trans H; with_reducible exact H2_) | with_reducible exact H | (rw [hy104]; exact H) | exact H
                      have Ny104 := Aside0.mk hy104
                      clear hy104
                      have H' := Aside0.mk H
                      clear H
                      have p15 : 0 ≤ (x26_2 : Int) := of_decide_eq_true (by first | (with_reducible assumption) | assumption)
                      have q15 : (x26_2 : Int) < ((x8_2.length : Int) : Int) := of_decide_eq_true (by first | (with_reducible assumption) | assumption)
                      obtain ⟨go15, co15, eo15, gb15, gl15, cl15, HG15⟩ := Kd.R_form HO_8.out (by omega)
                      (first | cases eo15 | (injection eo15 with ea_ en_ ec_; (first | subst ea_ | (injection ea_ with ea_; subst ea_)); subst ec_; clear en_))
                      have GB15 := Aside0.mk gb15
                      have GG15 := Aside0.mk HG15
                      clear gb15 gl15 HG15
                      obtain ⟨hx15_0, hf15_0⟩ := Kd.R_celln (⟨#[]⟩ : ByteArray) HO_8.out (x26_2 : Int) p15 q15
                      replace p15 := eq_true p15
                      replace q15 := eq_true q15
                      have HP16 := Kd.R_putg HO_8.out (x26_2 : Int) a0
                      go_wp2_with (first | ((with_reducible refine gate_store (t := 9) (p := 32) rfl ?_); refine store_event (t := 9) (p := 32) (v := ?vo_w17) (w1 := (wr.setCell ⟨go15, (x26_2 : Int).toNat, none⟩ (.string a0))) ?hg ?ho ?hn ?hr ?_; (case ho => rfl); (case hg => rfl); (case hn => rfl); (case hr => first | (go_simp; done) | (go_simp; rfl)); intro w17 hw; have hg : wr.grownBy w17 (some go15) := (by rw [hw]; exact HP16.2); have hp_ : Kd.R Kd.string 9 w17 w.heap.size (fun _ => True) (.slice (some ⟨go15, 0, none⟩) x8_2.length co11) y104 := (by rw [hw, Ny104.out]; exact HP16.1); clear HP16; have n0_ := Aside0.mk (hp_); have n1_ := Aside0.mk ((by rw [hw]; exact below_set (HB.out) GB15.out : Below w.heap.size w w17)); clear HO_8; clear HB; have HO_8 := n0_; have HB := n1_; clear n0_ n1_; clear hg hw hp_))
                      (try simp only [← hl8_2])
                      go_roundg k2
                      case measure => have := HJ3.out; have := HK2.out; omega
                      case rel => exact ⟨(y104), (wrap64 (x26_2 + 1)), (by first | rfl | (simp; done) | (simp [*]; done)), H', ⟨by have := HJ3.out; have := HK2.out; omega⟩, ⟨by (try simp only [hl8_2]); (with_reducible repeat (first | apply Kd.R_alloc | apply Kd.R_drewN | apply Kd.R_drew)); exact HO_8.out⟩, ⟨by repeat (first | (with_reducible first | exact HB.out | apply below_alloc | apply pw_below_drewN | apply below_drew1) | exact HB.out)⟩⟩
                    · rw [if_neg c14] at H
                      exact absurd H (by simp)
                  · rw [if_neg c13] at H
                    exact absurd H (by simp)
                · rw [if_neg c12] at H
                  have c12b0 : decide (x26_2 < (y101.length : Int)) = false := decide_eq_false c12
                  clear c12
                  replace H := Option.bind_eq_some_iff.mp H
                  obtain ⟨t105, A180, H⟩ := H
                  replace H : (some (t105, true)) = some (r1, r2) := H
                  have A18 := Aside0.mk A180
                  clear A180
                  simp only [Option.some.injEq, Prod.mk.injEq] at H
                  obtain ⟨rfl, rfl⟩ := H
                  have c_len_ : decide (x26_2 < (x8_2.length : Int)) = false := by rw [← hl8_2]; exact c12b0
                  go_wp2_with (first | ((with_reducible refine gate_callee (f := 58) rfl ?_); refine goesL_ (some 36) rfl rfl Tryd.func58 (by kernel_rfl) rfl #[.string a1, .slice Ao11 x8_2.length co11] rfl (by (try simp only [List.map_toArray, List.map_cons, List.map_nil]); first | done | rfl | (simp only [List.length_drop, List.length_take]; rfl)) ?_; (with_reducible refine (paste_join.calls a1 _ _ x8_2 t105 _ ?side1 ?side2 A18.out).mono ?_); (case side1 => exact pc_of HO_8.out); (case side2 => exact (Kd.R_reads' HO_8.out).2.1); rintro e w19 ⟨rfl, hb⟩; refine ⟨_, rfl, ?_⟩; have n0_ := Aside0.mk (Kd.R_below (by (with_reducible repeat (first | apply Kd.R_alloc | apply Kd.R_drewN | apply Kd.R_drew)); exact HO_8.out) hb); have n1_ := Aside0.mk (below_step (by repeat (first | (with_reducible first | exact HB.out | apply below_alloc | apply pw_below_drewN | apply below_drew1) | exact HB.out)) hb); clear HO_8; clear HB; have HO_8 := n0_; have HB := n1_; clear n0_ n1_; (try clear hb); (try clear hb2); (try clear hk); (try clear hi)))
                  go_ret2
                  exact ⟨by first | rfl | (simp [errW_none, errW_some] <;> rfl) | (simp [*, errW_none, errW_some] <;> rfl), by repeat (first | (with_reducible first | exact HB.out | apply below_alloc | apply pw_below_drewN | apply below_drew1) | exact HB.out)⟩
          · rw [if_neg c8] at H
            exact absurd H (by simp)
        · rw [if_neg c7] at H
          exact absurd H (by simp)

/-! ### paste_insert -/
def paste_insert.f (a0 : ByteArray) (a1 : Int) (a2 : ByteArray) : Option (ByteArray × Int) := if (wrap64 ((a0.size : Int) + (a2.size : Int))) > 4096 then (some ((⟨#[]⟩ : ByteArray), 8)) else (if 0 ≤ a1 then (if a1 ≤ (a0.size : Int) then (if (a0.extract 0 (a1 : Int).toNat).size + a2.size ≤ 9223372036854775807 then (if ((a0.extract 0 (a1 : Int).toNat) ++ a2).size + (a0.extract (a1 : Int).toNat a0.size).size ≤ 9223372036854775807 then (some (((a0.extract 0 (a1 : Int).toNat) ++ a2) ++ (a0.extract (a1 : Int).toNat a0.size), 0)) else (none)) else (none)) else (none)) else (none))
set_option maxHeartbeats 8000000 in
set_option maxRecDepth 100000 in
theorem paste_insert.calls (a0 : ByteArray) (a1 : Int) (a2 : ByteArray) (r1 : ByteArray) (r2 : Int) (w : World) (h : paste_insert.f a0 a1 a2 = some (r1, r2)) :
    Calls Tryd.prog 26 #[.string a0, .int .i64 a1, .string a2] w fun e w' => e = .returned (.tuple #[.string r1, .int .i64 r2]) ∧ Drawn0 w w' := by
  have H : (if (wrap64 ((a0.size : Int) + (a2.size : Int))) > 4096 then (some ((⟨#[]⟩ : ByteArray), 8)) else (if 0 ≤ a1 then (if a1 ≤ (a0.size : Int) then (if (a0.extract 0 (a1 : Int).toNat).size + a2.size ≤ 9223372036854775807 then (if ((a0.extract 0 (a1 : Int).toNat) ++ a2).size + (a0.extract (a1 : Int).toNat a0.size).size ≤ 9223372036854775807 then (some (((a0.extract 0 (a1 : Int).toNat) ++ a2) ++ (a0.extract (a1 : Int).toNat a0.size), 0)) else (none)) else (none)) else (none)) else (none))) = some (r1, r2) := h
  clear h
  by_cases c4 : (wrap64 ((a0.size : Int) + (a2.size : Int))) > 4096
  · rw [if_pos c4] at H
    have c4b0 : decide (4096 < (wrap64 ((a0.size : Int) + (a2.size : Int)))) = true := decide_eq_true c4
    clear c4
    simp only [Option.some.injEq, Prod.mk.injEq] at H
    obtain ⟨rfl, rfl⟩ := H
    go_enter Tryd.func26, Tryd.ntmps26
    go_wp2
    repeat (go_quiet (fail); try go_wp2)
    go_ret2
    exact ⟨by first | rfl | (simp; done) | (simp [*]; done), by repeat (first | exact Drawn0.refl _ | apply Drawn0.step)⟩
  · rw [if_neg c4] at H
    have c4b0 : decide (4096 < (wrap64 ((a0.size : Int) + (a2.size : Int)))) = false := decide_eq_false c4
    clear c4
    by_cases c5 : 0 ≤ a1
    · rw [if_pos c5] at H
      have c5b0 := eq_true c5
      have c5b1 : decide (0 ≤ a1) = true := decide_eq_true c5
      clear c5
      by_cases c6 : a1 ≤ (a0.size : Int)
      · rw [if_pos c6] at H
        have c6b0 := eq_true c6
        have c6b1 : decide (a1 ≤ (a0.size : Int)) = true := decide_eq_true c6
        clear c6
        by_cases c7 : (a0.extract 0 (a1 : Int).toNat).size + a2.size ≤ 9223372036854775807
        · rw [if_pos c7] at H
          have c7b0 := eq_true c7
          have c7b1 : decide ((a0.extract 0 (a1 : Int).toNat).size + a2.size ≤ 9223372036854775807) = true := decide_eq_true c7
          try have c7b2 : (9223372036854775807 < (a0.extract 0 (a1 : Int).toNat).size + a2.size) = False := eq_false (Nat.not_lt.2 c7)
          have c8b0 := eq_true (of_decide_eq_true (by first | (with_reducible assumption) | assumption) : 0 ≤ a1)
          have c9b0 := eq_true (of_decide_eq_true (by first | (with_reducible assumption) | assumption) : a1 ≤ (a0.size : Int))
          by_cases c10 : ((a0.extract 0 (a1 : Int).toNat) ++ a2).size + (a0.extract (a1 : Int).toNat a0.size).size ≤ 9223372036854775807
          · rw [if_pos c10] at H
            have c10b0 := eq_true c10
            have c10b1 : decide (((a0.extract 0 (a1 : Int).toNat) ++ a2).size + (a0.extract (a1 : Int).toNat a0.size).size ≤ 9223372036854775807) = true := decide_eq_true c10
            try have c10b2 : (9223372036854775807 < ((a0.extract 0 (a1 : Int).toNat) ++ a2).size + (a0.extract (a1 : Int).toNat a0.size).size) = False := eq_false (Nat.not_lt.2 c10)
            simp only [Option.some.injEq, Prod.mk.injEq] at H
            obtain ⟨rfl, rfl⟩ := H
            go_enter Tryd.func26, Tryd.ntmps26
            go_wp2
            repeat (go_quiet (fail); try go_wp2)
            go_ret2
            exact ⟨by first | rfl | (simp; done) | (simp [*]; done), by repeat (first | exact Drawn0.refl _ | apply Drawn0.step)⟩
          · rw [if_neg c10] at H
            exact absurd H (by simp)
        · rw [if_neg c7] at H
          exact absurd H (by simp)
      · rw [if_neg c6] at H
        exact absurd H (by simp)
    · rw [if_neg c5] at H
      exact absurd H (by simp)






/-! ### line_First -/
def line_First.f (a0 : ByteArray) (a1 : Int) : Option (Int) := (line_find.f a0 a1).bind fun bt106 => (if bt106.2.2 = true then (if 0 ≤ bt106.1 then (if bt106.1 ≤ bt106.2.1 then (if bt106.2.1 ≤ (a0.size : Int) then ((strings_TrimLeft.f (a0.extract (bt106.1 : Int).toNat (bt106.2.1 : Int).toNat) (⟨#[32, 9]⟩ : ByteArray)).bind fun t109 => (if t109.toList = ([] : List UInt8) then ((line_Clamp.f a0 bt106.2.1).bind fun t110 => (some t110)) else (some (wrap64 (bt106.2.1 - (t109.size : Int)))))) else (none)) else (none)) else (none)) else (some (-1)))
set_option maxHeartbeats 8000000 in
set_option maxRecDepth 100000 in
theorem line_First.calls (a0 : ByteArray) (a1 : Int) (r : Int) (w : World) (h : line_First.f a0 a1 = some r) :
    Calls Tryd.prog 57 #[.string a0, .int .i64 a1] w fun e w' => e = .returned (.int .i64 r) ∧ Below w.heap.size w w' := by
  have HB := Aside0.mk (Below.refl w.heap.size w)
  have H : ((line_find.f a0 a1).bind fun bt106 => (if bt106.2.2 = true then (if 0 ≤ bt106.1 then (if bt106.1 ≤ bt106.2.1 then (if bt106.2.1 ≤ (a0.size : Int) then ((strings_TrimLeft.f (a0.extract (bt106.1 : Int).toNat (bt106.2.1 : Int).toNat) (⟨#[32, 9]⟩ : ByteArray)).bind fun t109 => (if t109.toList = ([] : List UInt8) then ((line_Clamp.f a0 bt106.2.1).bind fun t110 => (some t110)) else (some (wrap64 (bt106.2.1 - (t109.size : Int)))))) else (none)) else (none)) else (none)) else (some (-1)))) = some r := h
  clear h
  replace H := Option.bind_eq_some_iff.mp H
  obtain ⟨⟨t106, t107, t108⟩, A30, H⟩ := H
  replace H : (if t108 = true then (if 0 ≤ t106 then (if t106 ≤ t107 then (if t107 ≤ (a0.size : Int) then ((strings_TrimLeft.f (a0.extract (t106 : Int).toNat (t107 : Int).toNat) (⟨#[32, 9]⟩ : ByteArray)).bind fun t109 => (if t109.toList = ([] : List UInt8) then ((line_Clamp.f a0 t107).bind fun t110 => (some t110)) else (some (wrap64 (t107 - (t109.size : Int)))))) else (none)) else (none)) else (none)) else (some (-1))) = some r := H
  have A3 := Aside0.mk A30
  clear A30
  by_cases c4 : t108 = true
  · subst c4
    have H1 : (if 0 ≤ t106 then (if t106 ≤ t107 then (if t107 ≤ (a0.size : Int) then ((strings_TrimLeft.f (a0.extract (t106 : Int).toNat (t107 : Int).toNat) (⟨#[32, 9]⟩ : ByteArray)).bind fun t109 => (if t109.toList = ([] : List UInt8) then ((line_Clamp.f a0 t107).bind fun t110 => (some t110)) else (some (wrap64 (t107 - (t109.size : Int)))))) else (none)) else (none)) else (none)) = some r := by rw [if_pos rfl] at H; exact H
    clear H
    have H := H1
    clear H1
    by_cases c5 : 0 ≤ t106
    · rw [if_pos c5] at H
      have c5b0 := eq_true c5
      have c5b1 : decide (0 ≤ t106) = true := decide_eq_true c5
      clear c5
      by_cases c6 : t106 ≤ t107
      · rw [if_pos c6] at H
        have c6b0 := eq_true c6
        have c6b1 : decide (t106 ≤ t107) = true := decide_eq_true c6
        clear c6
        by_cases c7 : t107 ≤ (a0.size : Int)
        · rw [if_pos c7] at H
          have c7b0 := eq_true c7
          have c7b1 : decide (t107 ≤ (a0.size : Int)) = true := decide_eq_true c7
          clear c7
          replace H := Option.bind_eq_some_iff.mp H
          obtain ⟨t109, A80, H⟩ := H
          replace H : (if t109.toList = ([] : List UInt8) then ((line_Clamp.f a0 t107).bind fun t110 => (some t110)) else (some (wrap64 (t107 - (t109.size : Int))))) = some r := H
          have A8 := Aside0.mk A80
          clear A80
          by_cases c9 : t109.toList = ([] : List UInt8)
          · rw [if_pos c9] at H
            have c9b0 : (t109.toList == ([] : List UInt8)) = true := beq_iff_eq.mpr c9
            have c9b1 : (t109.toList != ([] : List UInt8)) = false := bne_eq_false_iff_eq.mpr c9
            clear c9
            replace H := Option.bind_eq_some_iff.mp H
            obtain ⟨t110, A100, H⟩ := H
            replace H : (some t110) = some r := H
            have A10 := Aside0.mk A100
            clear A100
            obtain rfl := Option.some.inj H
            go_enter Tryd.func57, Tryd.ntmps57
            go_wp2_with (first | ((with_reducible refine gate_callee (f := 74) rfl ?_); refine goesL_ (some 12) rfl rfl Tryd.func74 (by kernel_rfl) rfl #[.string a0, .int .i64 a1] rfl (by (try simp only [List.map_toArray, List.map_cons, List.map_nil]); first | done | rfl | (simp only [List.length_drop, List.length_take]; rfl)) ?_; (with_reducible refine (line_find.calls a0 a1 t106 t107 true _ A3.out).mono ?_); rintro e w11 ⟨rfl, hb⟩; refine ⟨_, rfl, ?_⟩; have n0_ := Aside0.mk (below_step (by repeat (first | (with_reducible first | exact HB.out | apply below_alloc | apply pw_below_drewN | apply below_drew1) | exact HB.out)) hb); clear HB; have HB := n0_; clear n0_; (try clear hb); (try clear hb2); (try clear hk); (try clear hi)) | ((with_reducible refine gate_callee (f := 75) rfl ?_); refine goesL_ (some 22) rfl rfl Tryd.func75 (by kernel_rfl) rfl #[.string (a0.extract (t106 : Int).toNat (t107 : Int).toNat), .string (⟨#[32, 9]⟩ : ByteArray)] rfl (by (try simp only [List.map_toArray, List.map_cons, List.map_nil]); first | done | rfl | (simp only [List.length_drop, List.length_take]; rfl)) ?_; (with_reducible refine (strings_TrimLeft.calls (a0.extract (t106 : Int).toNat (t107 : Int).toNat) (⟨#[32, 9]⟩ : ByteArray) t109 _ A8.out).mono ?_); rintro e w12 ⟨rfl, hb⟩; refine ⟨_, rfl, ?_⟩; have n0_ := Aside0.mk (below_step (by repeat (first | (with_reducible first | exact HB.out | apply below_alloc | apply pw_below_drewN | apply below_drew1) | exact HB.out)) hb); clear HB; have HB := n0_; clear n0_; (try clear hb); (try clear hb2); (try clear hk); (try clear hi)) | ((with_reducible refine gate_callee (f := 28) rfl ?_); refine goesL_ (some 27) rfl rfl Tryd.func28 (by kernel_rfl) rfl #[.string a0, .int .i64 t107] rfl (by (try simp only [List.map_toArray, List.map_cons, List.map_nil]); first | done | rfl | (simp only [List.length_drop, List.length_take]; rfl)) ?_; (with_reducible refine (line_Clamp.calls a0 t107 t110 _ A10.out).mono ?_); rintro e w13 ⟨rfl, hb⟩; refine ⟨_, rfl, ?_⟩; have n0_ := Aside0.mk (below_step (by repeat (first | (with_reducible first | exact HB.out | apply below_alloc | apply pw_below_drewN | apply below_drew1) | exact HB.out)) hb); clear HB; have HB := n0_; clear n0_; (try clear hb); (try clear hb2); (try clear hk); (try clear hi)))
            go_ret
            exact ⟨by first | rfl | (simp [errW_none, errW_some] <;> rfl) | (simp [*, errW_none, errW_some] <;> rfl), by repeat (first | (with_reducible first | exact HB.out | apply below_alloc | apply pw_below_drewN | apply below_drew1) | exact HB.out)⟩
          · rw [if_neg c9] at H
            have c9b0 : (t109.toList == ([] : List UInt8)) = false := beq_eq_false_iff_ne.mpr c9
            have c9b1 : (t109.toList != ([] : List UInt8)) = true := bne_iff_ne.mpr c9
            obtain rfl := Option.some.inj H
            go_enter Tryd.func57, Tryd.ntmps57
            go_wp2_with (first | ((with_reducible refine gate_callee (f := 74) rfl ?_); refine goesL_ (some 12) rfl rfl Tryd.func74 (by kernel_rfl) rfl #[.string a0, .int .i64 a1] rfl (by (try simp only [List.map_toArray, List.map_cons, List.map_nil]); first | done | rfl | (simp only [List.length_drop, List.length_take]; rfl)) ?_; (with_reducible refine (line_find.calls a0 a1 t106 t107 true _ A3.out).mono ?_); rintro e w14 ⟨rfl, hb⟩; refine ⟨_, rfl, ?_⟩; have n0_ := Aside0.mk (below_step (by repeat (first | (with_reducible first | exact HB.out | apply below_alloc | apply pw_below_drewN | apply below_drew1) | exact HB.out)) hb); clear HB; have HB := n0_; clear n0_; (try clear hb); (try clear hb2); (try clear hk); (try clear hi)) | ((with_reducible refine gate_callee (f := 75) rfl ?_); refine goesL_ (some 22) rfl rfl Tryd.func75 (by kernel_rfl) rfl #[.string (a0.extract (t106 : Int).toNat (t107 : Int).toNat), .string (⟨#[32, 9]⟩ : ByteArray)] rfl (by (try simp only [List.map_toArray, List.map_cons, List.map_nil]); first | done | rfl | (simp only [List.length_drop, List.length_take]; rfl)) ?_; (with_reducible refine (strings_TrimLeft.calls (a0.extract (t106 : Int).toNat (t107 : Int).toNat) (⟨#[32, 9]⟩ : ByteArray) t109 _ A8.out).mono ?_); rintro e w15 ⟨rfl, hb⟩; refine ⟨_, rfl, ?_⟩; have n0_ := Aside0.mk (below_step (by repeat (first | (with_reducible first | exact HB.out | apply below_alloc | apply pw_below_drewN | apply below_drew1) | exact HB.out)) hb); clear HB; have HB := n0_; clear n0_; (try clear hb); (try clear hb2); (try clear hk); (try clear hi)))
            go_ret
            exact ⟨by first | rfl | (simp [errW_none, errW_some] <;> rfl) | (simp [*, errW_none, errW_some] <;> rfl), by repeat (first | (with_reducible first | exact HB.out | apply below_alloc | apply pw_below_drewN | apply below_drew1) | exact HB.out)⟩
        · rw [if_neg c7] at H
          exact absurd H (by simp)
      · rw [if_neg c6] at H
        exact absurd H (by simp)
    · rw [if_neg c5] at H
      exact absurd H (by simp)
  · replace c4 := Bool.eq_false_iff.mpr c4
    subst c4
    have H1 : (some (-1)) = some r := by rw [if_neg (show ¬ (false = true) by decide)] at H; exact H
    clear H
    have H := H1
    clear H1
    obtain rfl := Option.some.inj H
    go_enter Tryd.func57, Tryd.ntmps57
    go_wp2_with (first | ((with_reducible refine gate_callee (f := 74) rfl ?_); refine goesL_ (some 12) rfl rfl Tryd.func74 (by kernel_rfl) rfl #[.string a0, .int .i64 a1] rfl (by (try simp only [List.map_toArray, List.map_cons, List.map_nil]); first | done | rfl | (simp only [List.length_drop, List.length_take]; rfl)) ?_; (with_reducible refine (line_find.calls a0 a1 t106 t107 false _ A3.out).mono ?_); rintro e w16 ⟨rfl, hb⟩; refine ⟨_, rfl, ?_⟩; have n0_ := Aside0.mk (below_step (by repeat (first | (with_reducible first | exact HB.out | apply below_alloc | apply pw_below_drewN | apply below_drew1) | exact HB.out)) hb); clear HB; have HB := n0_; clear n0_; (try clear hb); (try clear hb2); (try clear hk); (try clear hi)))
    go_ret
    exact ⟨by first | rfl | (simp [errW_none, errW_some] <;> rfl) | (simp [*, errW_none, errW_some] <;> rfl), by repeat (first | (with_reducible first | exact HB.out | apply below_alloc | apply pw_below_drewN | apply below_drew1) | exact HB.out)⟩

/-! ### paste_lines -/
def paste_lines.j0 : Nat → ByteArray → ByteArray → Int → Int → Option (ByteArray × Int × Int)
  | 0, _, _, _, _ => none
  | k + 1, x0, x13, x15, x16 => (paste_insert.f x0 x15 x13).bind fun bt115 => (if bt115.2 = 0 then ((line_First.f bt115.1 x16).bind fun t117 => (some (bt115.1, t117, 0))) else (some ((⟨#[]⟩ : ByteArray), 0, bt115.2)))
def paste_lines.f (k : Nat) (a0 : ByteArray) (a1 : Int) (a2 : ByteArray) (a3 : Bool) (a4 : Int) : Option (ByteArray × Int × Int) := (paste_times.f k a2 (⟨#[10]⟩ : ByteArray) a4).bind fun bt111 => (if bt111.2 = true then ((line_End.f a0 a1).bind fun t113 => (if 1 + bt111.1.size ≤ 9223372036854775807 then (if a3 = true then ((line_Start.f a0 a1).bind fun t114 => (if 1 ≤ (((⟨#[10]⟩ : ByteArray) ++ bt111.1).size : Int) then (if (((⟨#[10]⟩ : ByteArray) ++ bt111.1).extract 1 ((⟨#[10]⟩ : ByteArray) ++ bt111.1).size).size + 1 ≤ 9223372036854775807 then (paste_lines.j0 k a0 ((((⟨#[10]⟩ : ByteArray) ++ bt111.1).extract 1 ((⟨#[10]⟩ : ByteArray) ++ bt111.1).size) ++ (⟨#[10]⟩ : ByteArray)) t114 a1) else (none)) else (none))) else (paste_lines.j0 k a0 ((⟨#[10]⟩ : ByteArray) ++ bt111.1) t113 (wrap64 (a1 + 1)))) else (none))) else (some ((⟨#[]⟩ : ByteArray), 0, 8)))
theorem paste_lines.mono_l : ∀ k, (∀ y0 y1 y2 y3, LeO (paste_lines.j0 k y0 y1 y2 y3) (paste_lines.j0 (k + 1) y0 y1 y2 y3))
  | 0 => fun _ _ _ _ r h => by simp [paste_lines.j0] at h
  | k + 1 => by
    have ih0 := paste_lines.mono_l k
    · intro y0 y1 y2 y3
      unfold paste_lines.j0
      repeat' first
      | (with_reducible exact ih0 _ _ _ _)
      | (with_reducible exact paste_times.mono _ _ _ _)
      | (with_reducible exact LeO.refl _)
      | (with_reducible exact LeO.none _)
      | (with_reducible refine LeO.ite ?_ ?_)
      | (with_reducible refine LeO.bind ?_ (fun _ => ?_))
      | exact ih0 _ _ _ _
      | exact paste_times.mono _ _ _ _
      | exact LeO.none _
      | refine LeO.ite ?_ ?_
      | refine LeO.bind ?_ (fun _ => ?_)
theorem paste_lines.mono : ∀ a0 a1 a2 a3 a4 k, LeO (paste_lines.f k a0 a1 a2 a3 a4) (paste_lines.f (k + 1) a0 a1 a2 a3 a4) := by
  intro a0 a1 a2 a3 a4 k
  have ih0 := paste_lines.mono_l k
  unfold paste_lines.f
  repeat' first
      | (with_reducible exact ih0 _ _ _ _)
      | (with_reducible exact paste_times.mono _ _ _ _)
      | (with_reducible exact LeO.refl _)
      | (with_reducible exact LeO.none _)
      | (with_reducible refine LeO.ite ?_ ?_)
      | (with_reducible refine LeO.bind ?_ (fun _ => ?_))
      | exact ih0 _ _ _ _
      | exact paste_times.mono _ _ _ _
      | exact LeO.none _
      | refine LeO.ite ?_ ?_
      | refine LeO.bind ?_ (fun _ => ?_)
def paste_lines.T6 : Bool × List (List Nat × List Nat) := (true, [([], []), ([], []), ([0, 1], [0, 1]), ([], []), ([3], [3]), ([4], [4]), ([], []), ([2, 2, 0, 1, 2], [2]), ([5, 7, 0, 1, 2, 3, 4, 5, 7], [3, 5]), ([6, 8, 0, 1, 2, 3, 4, 5, 6, 7, 8], [6])])
def paste_lines.B6 : List Nat := [0, 0, 3, 0, 8, 24, 0, 7, 191, 511]
theorem paste_lines.tab6 : rtab .any (opsOf Tryd.f21 6) = paste_lines.T6 := by kernel_rfl
theorem paste_lines.bits6 : waitsOk paste_lines.T6.2 paste_lines.B6 = true := by kernel_rfl
set_option maxHeartbeats 8000000 in
set_option maxRecDepth 100000 in
theorem paste_lines.calls (k : Nat) (a0 : ByteArray) (a1 : Int) (a2 : ByteArray) (a3 : Bool) (a4 : Int) (r1 : ByteArray) (r2 : Int) (r3 : Int) (w : World) (h : paste_lines.f k a0 a1 a2 a3 a4 = some (r1, r2, r3)) :
    Calls Tryd.prog 21 #[.string a0, .int .i64 a1, .string a2, .bool a3, .int .i64 a4] w fun e w' => e = .returned (.tuple #[.string r1, .int .i64 r2, .int .i64 r3]) ∧ Below w.heap.size w w' := by
  have HB := Aside0.mk (Below.refl w.heap.size w)
  have H : ((paste_times.f k a2 (⟨#[10]⟩ : ByteArray) a4).bind fun bt111 => (if bt111.2 = true then ((line_End.f a0 a1).bind fun t113 => (if 1 + bt111.1.size ≤ 9223372036854775807 then (if a3 = true then ((line_Start.f a0 a1).bind fun t114 => (if 1 ≤ (((⟨#[10]⟩ : ByteArray) ++ bt111.1).size : Int) then (if (((⟨#[10]⟩ : ByteArray) ++ bt111.1).extract 1 ((⟨#[10]⟩ : ByteArray) ++ bt111.1).size).size + 1 ≤ 9223372036854775807 then (paste_lines.j0 k a0 ((((⟨#[10]⟩ : ByteArray) ++ bt111.1).extract 1 ((⟨#[10]⟩ : ByteArray) ++ bt111.1).size) ++ (⟨#[10]⟩ : ByteArray)) t114 a1) else (none)) else (none))) else (paste_lines.j0 k a0 ((⟨#[10]⟩ : ByteArray) ++ bt111.1) t113 (wrap64 (a1 + 1)))) else (none))) else (some ((⟨#[]⟩ : ByteArray), 0, 8)))) = some (r1, r2, r3) := h
  clear h
  replace H := Option.bind_eq_some_iff.mp H
  obtain ⟨⟨t111, t112⟩, A60, H⟩ := H
  replace H : (if t112 = true then ((line_End.f a0 a1).bind fun t113 => (if 1 + t111.size ≤ 9223372036854775807 then (if a3 = true then ((line_Start.f a0 a1).bind fun t114 => (if 1 ≤ (((⟨#[10]⟩ : ByteArray) ++ t111).size : Int) then (if (((⟨#[10]⟩ : ByteArray) ++ t111).extract 1 ((⟨#[10]⟩ : ByteArray) ++ t111).size).size + 1 ≤ 9223372036854775807 then (paste_lines.j0 k a0 ((((⟨#[10]⟩ : ByteArray) ++ t111).extract 1 ((⟨#[10]⟩ : ByteArray) ++ t111).size) ++ (⟨#[10]⟩ : ByteArray)) t114 a1) else (none)) else (none))) else (paste_lines.j0 k a0 ((⟨#[10]⟩ : ByteArray) ++ t111) t113 (wrap64 (a1 + 1)))) else (none))) else (some ((⟨#[]⟩ : ByteArray), 0, 8))) = some (r1, r2, r3) := H
  have A6 := Aside0.mk A60
  clear A60
  by_cases c7 : t112 = true
  · subst c7
    have H1 : ((line_End.f a0 a1).bind fun t113 => (if 1 + t111.size ≤ 9223372036854775807 then (if a3 = true then ((line_Start.f a0 a1).bind fun t114 => (if 1 ≤ (((⟨#[10]⟩ : ByteArray) ++ t111).size : Int) then (if (((⟨#[10]⟩ : ByteArray) ++ t111).extract 1 ((⟨#[10]⟩ : ByteArray) ++ t111).size).size + 1 ≤ 9223372036854775807 then (paste_lines.j0 k a0 ((((⟨#[10]⟩ : ByteArray) ++ t111).extract 1 ((⟨#[10]⟩ : ByteArray) ++ t111).size) ++ (⟨#[10]⟩ : ByteArray)) t114 a1) else (none)) else (none))) else (paste_lines.j0 k a0 ((⟨#[10]⟩ : ByteArray) ++ t111) t113 (wrap64 (a1 + 1)))) else (none))) = some (r1, r2, r3) := by rw [if_pos rfl] at H; exact H
    clear H
    have H := H1
    clear H1
    replace H := Option.bind_eq_some_iff.mp H
    obtain ⟨t113, A80, H⟩ := H
    replace H : (if 1 + t111.size ≤ 9223372036854775807 then (if a3 = true then ((line_Start.f a0 a1).bind fun t114 => (if 1 ≤ (((⟨#[10]⟩ : ByteArray) ++ t111).size : Int) then (if (((⟨#[10]⟩ : ByteArray) ++ t111).extract 1 ((⟨#[10]⟩ : ByteArray) ++ t111).size).size + 1 ≤ 9223372036854775807 then (paste_lines.j0 k a0 ((((⟨#[10]⟩ : ByteArray) ++ t111).extract 1 ((⟨#[10]⟩ : ByteArray) ++ t111).size) ++ (⟨#[10]⟩ : ByteArray)) t114 a1) else (none)) else (none))) else (paste_lines.j0 k a0 ((⟨#[10]⟩ : ByteArray) ++ t111) t113 (wrap64 (a1 + 1)))) else (none)) = some (r1, r2, r3) := H
    have A8 := Aside0.mk A80
    clear A80
    by_cases c9 : 1 + t111.size ≤ 9223372036854775807
    · rw [if_pos c9] at H
      have c9b0 := eq_true c9
      have c9b1 : decide (1 + t111.size ≤ 9223372036854775807) = true := decide_eq_true c9
      try have c9b2 : (9223372036854775807 < 1 + t111.size) = False := eq_false (Nat.not_lt.2 c9)
      have HC10 := Aside0.mk H
      clear H
      go_enter Tryd.func21, Tryd.ntmps21
      go_upto_if 34 with (first | ((with_reducible refine gate_callee (f := 23) rfl ?_); refine goesL_ (some 22) rfl rfl Tryd.func23 (by kernel_rfl) rfl #[.string a2, .string (⟨#[10]⟩ : ByteArray), .int .i64 a4] rfl (by (try simp only [List.map_toArray, List.map_cons, List.map_nil]); first | done | rfl | (simp only [List.length_drop, List.length_take]; rfl)) ?_; (with_reducible refine (paste_times.calls k a2 (⟨#[10]⟩ : ByteArray) a4 t111 true _ A6.out).mono ?_); rintro e w11 ⟨rfl, hb⟩; refine ⟨_, rfl, ?_⟩; have n0_ := Aside0.mk (below_step (by repeat (first | (with_reducible first | exact HB.out | apply below_alloc | apply pw_below_drewN | apply below_drew1) | exact HB.out)) hb); clear HB; have HB := n0_; clear n0_; (try clear hb); (try clear hb2); (try clear hk); (try clear hi)) | ((with_reducible refine gate_callee (f := 55) rfl ?_); refine goesL_ (some 29) rfl rfl Tryd.func55 (by kernel_rfl) rfl #[.string a0, .int .i64 a1] rfl (by (try simp only [List.map_toArray, List.map_cons, List.map_nil]); first | done | rfl | (simp only [List.length_drop, List.length_take]; rfl)) ?_; (with_reducible refine (line_End.calls a0 a1 t113 _ A8.out).mono ?_); rintro e w12 ⟨rfl, hb⟩; refine ⟨_, rfl, ?_⟩; have n0_ := Aside0.mk (below_step (by repeat (first | (with_reducible first | exact HB.out | apply below_alloc | apply pw_below_drewN | apply below_drew1) | exact HB.out)) hb); clear HB; have HB := n0_; clear n0_; (try clear hb); (try clear hb2); (try clear hk); (try clear hi)))
      (try simp only [Act.put, List.setIfInBounds_toArray, List.set_cons_zero, List.set_cons_succ])
      go_cut [13, 15, 16] (fun v13 v15 v16 wc => ∃ (kq : Nat) (x13_9 : ByteArray) (x15_9 : Int) (x16_9 : Int), v13 = .string x13_9 ∧ v15 = .int .i64 x15_9 ∧ v16 = .int .i64 x16_9 ∧ Aside0 (paste_lines.j0 kq a0 x13_9 x15_9 x16_9 = some (r1, r2, r3)) ∧ Aside0 (kq ≤ k) ∧ Aside0 (Below w.heap.size w wc))
      case first =>
        have H := HC10.out
        clear HC10
        by_cases c13 : a3 = true
        · subst c13
          have H1 : ((line_Start.f a0 a1).bind fun t114 => (if 1 ≤ (((⟨#[10]⟩ : ByteArray) ++ t111).size : Int) then (if (((⟨#[10]⟩ : ByteArray) ++ t111).extract 1 ((⟨#[10]⟩ : ByteArray) ++ t111).size).size + 1 ≤ 9223372036854775807 then (paste_lines.j0 k a0 ((((⟨#[10]⟩ : ByteArray) ++ t111).extract 1 ((⟨#[10]⟩ : ByteArray) ++ t111).size) ++ (⟨#[10]⟩ : ByteArray)) t114 a1) else (none)) else (none))) = some (r1, r2, r3) := by rw [if_pos rfl] at H; exact H
          clear H
          have H := H1
          clear H1
          replace H := Option.bind_eq_some_iff.mp H
          obtain ⟨t114, A140, H⟩ := H
          replace H : (if 1 ≤ (((⟨#[10]⟩ : ByteArray) ++ t111).size : Int) then (if (((⟨#[10]⟩ : ByteArray) ++ t111).extract 1 ((⟨#[10]⟩ : ByteArray) ++ t111).size).size + 1 ≤ 9223372036854775807 then (paste_lines.j0 k a0 ((((⟨#[10]⟩ : ByteArray) ++ t111).extract 1 ((⟨#[10]⟩ : ByteArray) ++ t111).size) ++ (⟨#[10]⟩ : ByteArray)) t114 a1) else (none)) else (none)) = some (r1, r2, r3) := H
          have A14 := Aside0.mk A140
          clear A140
          by_cases c15 : 1 ≤ (((⟨#[10]⟩ : ByteArray) ++ t111).size : Int)
          · rw [if_pos c15] at H
            have c15b0 := eq_true c15
            have c15b1 : decide (1 ≤ (((⟨#[10]⟩ : ByteArray) ++ t111).size : Int)) = true := decide_eq_true c15
            by_cases c16 : (((⟨#[10]⟩ : ByteArray) ++ t111).extract 1 ((⟨#[10]⟩ : ByteArray) ++ t111).size).size + 1 ≤ 9223372036854775807
            · rw [if_pos c16] at H
              have c16b0 := eq_true c16
              have c16b1 : decide ((((⟨#[10]⟩ : ByteArray) ++ t111).extract 1 ((⟨#[10]⟩ : ByteArray) ++ t111).size).size + 1 ≤ 9223372036854775807) = true := decide_eq_true c16
              try have c16b2 : (9223372036854775807 < (((⟨#[10]⟩ : ByteArray) ++ t111).extract 1 ((⟨#[10]⟩ : ByteArray) ++ t111).size).size + 1) = False := eq_false (Nat.not_lt.2 c16)
              have H' := Aside0.mk H
              clear H
              try go_wp2
              have n0_ := Aside0.mk (below_drew1 HB.out)
              clear HB
              have HB := n0_
              clear n0_
              refine start_ (n := 10) (S := fun w' => True) (ds := []) #[false, false, false, false, false, false, false, false, false, false] (by kernel_rfl) rfl rfl trivial (fun hHeld => ?_); refine with_tabW paste_lines.tab6 paste_lines.bits6 (fun HT_ HW_ => ?_)
              generalize w12.drew = w17 at HB hHeld ⊢
              refine pure_ (i := 0) (N := some 35) (v := ?_) (a' := ?_) #[true, false, false, false, false, false, false, false, false, false] rfl rfl (any_of HT_.out (by kernel_rfl)) (fun _ _ _ h => h) (Or.inl ⟨by rfl, ?_⟩) ?_ ?_
              rotate_left
              · intro w'
                go_simp
                with_reducible rfl
              rotate_left
              · simp only [Act.put, List.setIfInBounds_toArray, List.set_cons_zero, List.set_cons_succ, i64_w, i32_w]
                rfl
              refine pure_ (i := 1) (N := some 36) (v := ?_) (a' := ?_) #[true, true, false, false, false, false, false, false, false, false] rfl rfl (any_of HT_.out (by kernel_rfl)) (fun _ _ _ h => h) (Or.inl ⟨by rfl, ?_⟩) ?_ ?_
              rotate_left
              · intro w'
                go_simp
                with_reducible rfl
              rotate_left
              · simp only [Act.put, List.setIfInBounds_toArray, List.set_cons_zero, List.set_cons_succ, i64_w, i32_w]
                rfl
              refine pure_ (i := 3) (N := some 38) (v := ?_) (a' := ?_) #[true, true, false, true, false, false, false, false, false, false] rfl rfl (any_of HT_.out (by kernel_rfl)) (fun _ _ _ h => h) (Or.inl ⟨by rfl, ?_⟩) ?_ ?_
              rotate_left
              · intro w'
                go_simp
                with_reducible rfl
              rotate_left
              · simp only [Act.put, List.setIfInBounds_toArray, List.set_cons_zero, List.set_cons_succ, i64_w, i32_w]
                rfl
              refine pure_ (i := 4) (N := some 39) (v := ?_) (a' := ?_) #[true, true, false, true, true, false, false, false, false, false] rfl rfl (any_of HT_.out (by kernel_rfl)) (fun _ _ _ h => h) (Or.inl ⟨by rfl, ?_⟩) ?_ ?_
              rotate_left
              · intro w'
                have cq1 : (1 ≤ 1 + (t111.size : Int)) = True := eq_true (by omega)
                go_simp
                rw [show 1 + t111.size = ((⟨#[10]⟩ : ByteArray) ++ t111).size from by rw [ByteArray.size_append]; rfl]
              rotate_left
              · simp only [Act.put, List.setIfInBounds_toArray, List.set_cons_zero, List.set_cons_succ, i64_w, i32_w]
                rfl
              refine pure_ (i := 5) (N := some 40) (v := ?_) (a' := ?_) #[true, true, false, true, true, true, false, false, false, false] rfl rfl (any_of HT_.out (by kernel_rfl)) (fun _ _ _ h => h) (Or.inl ⟨by rfl, ?_⟩) ?_ ?_
              rotate_left
              · intro w'
                have cq3 : (9223372036854775807 < t111.size + 1) = False := eq_false (by have := c9; omega)
                go_simp
                (try rw [show 1 + t111.size = ((⟨#[10]⟩ : ByteArray) ++ t111).size from by rw [ByteArray.size_append]; rfl])
                try with_reducible rfl
              rotate_left
              · simp only [Act.put, List.setIfInBounds_toArray, List.set_cons_zero, List.set_cons_succ, i64_w, i32_w]
                rfl
              refine pure_ (i := 6) (N := some 41) (v := ?_) (a' := ?_) #[true, true, false, true, true, true, true, false, false, false] rfl rfl (any_of HT_.out (by kernel_rfl)) (fun _ _ _ h => h) (Or.inl ⟨by rfl, ?_⟩) ?_ ?_
              rotate_left
              · intro w'
                have cq3 : (9223372036854775807 < t111.size + 1) = False := eq_false (by have := c9; omega)
                go_simp
                (try rw [show 1 + t111.size = ((⟨#[10]⟩ : ByteArray) ++ t111).size from by rw [ByteArray.size_append]; rfl])
                try with_reducible rfl
              rotate_left
              · simp only [Act.put, List.setIfInBounds_toArray, List.set_cons_zero, List.set_cons_succ, i64_w, i32_w]
                rfl
              refine one_ (i := 2) (N := some 37) #[true, true, true, true, true, true, true, false, false, false] rfl rfl (one_of HT_.out (by kernel_rfl)) (by decide) (fun K hK => ?_)
              refine goes_ Tryd.func56 (by kernel_rfl) rfl #[.string a0, .int .i64 a1] (by rfl) rfl rfl (by (try simp only [List.map_toArray, List.map_cons, List.map_nil]); first | done | rfl | (simp only [List.length_drop, List.length_take]; rfl)) ?_
              with_reducible refine (line_Start.calls a0 a1 t114 _ A14.out).mono ?_
              rintro e w18 ⟨rfl, hb⟩
              refine ⟨_, rfl, ?_⟩
              have n0_ := Aside0.mk (below_step (by repeat (first | (with_reducible first | exact HB.out | apply below_alloc | apply pw_below_drewN | apply below_drew1) | exact HB.out)) hb)
              clear HB
              have HB := n0_
              clear n0_
              (try clear hb)
              (try clear hb2)
              (try clear hk)
              (try clear hi)
              refine hK.out _ _ trivial (fun hHeld => ?_)
              clear hK K
              refine norm_ (a' := ?_) ?_ ?_
              rotate_left
              · show Act.put _ (some 37) _ = _
                simp only [Act.put, List.setIfInBounds_toArray, List.set_cons_zero, List.set_cons_succ, i64_w, i32_w]
                rfl
              refine pure_ (i := 7) (N := some 15) (v := ?_) (a' := ?_) #[true, true, true, true, true, true, true, true, false, false] rfl rfl (any_of HT_.out (by kernel_rfl)) (fun _ _ _ h => h) (Or.inl ⟨by rfl, ?_⟩) ?_ ?_
              rotate_left
              · intro w'
                go_simp
                with_reducible rfl
              rotate_left
              · simp only [Act.put, List.setIfInBounds_toArray, List.set_cons_zero, List.set_cons_succ, i64_w, i32_w]
                rfl
              refine pure_ (i := 8) (N := some 13) (v := ?_) (a' := ?_) #[true, true, true, true, true, true, true, true, true, false] rfl rfl (any_of HT_.out (by kernel_rfl)) (fun _ _ _ h => h) (Or.inl ⟨by rfl, ?_⟩) ?_ ?_
              rotate_left
              · intro w'
                go_simp
                with_reducible rfl
              rotate_left
              · simp only [Act.put, List.setIfInBounds_toArray, List.set_cons_zero, List.set_cons_succ, i64_w, i32_w]
                rfl
              refine pure_ (i := 9) (N := some 16) (v := ?_) (a' := ?_) #[true, true, true, true, true, true, true, true, true, true] rfl rfl (any_of HT_.out (by kernel_rfl)) (fun _ _ _ h => h) (Or.inl ⟨by rfl, ?_⟩) ?_ ?_
              rotate_left
              · intro w'
                go_simp
                with_reducible rfl
              rotate_left
              · simp only [Act.put, List.setIfInBounds_toArray, List.set_cons_zero, List.set_cons_succ, i64_w, i32_w]
                rfl
              refine done_ (done_of HT_.out (by kernel_rfl)) ?_
              try go_wp2
              go_meet
              case rel => exact ⟨_, ((((⟨#[10]⟩ : ByteArray) ++ t111).extract 1 ((⟨#[10]⟩ : ByteArray) ++ t111).size) ++ (⟨#[10]⟩ : ByteArray)), (t114), (a1), (by first | rfl | (simp; done) | (simp [*]; done) | (simp; rfl)), (by first | rfl | (simp; done) | (simp [*]; done) | (simp; rfl)), (by first | rfl | (simp; done) | (simp [*]; done) | (simp; rfl)), H', ⟨by first | omega | exact Nat.le_refl _⟩, ⟨by repeat (first | (with_reducible first | exact HB.out | apply below_alloc | apply pw_below_drewN | apply below_drew1) | exact HB.out)⟩⟩
            · rw [if_neg c16] at H
              exact absurd H (by simp)
          · rw [if_neg c15] at H
            exact absurd H (by simp)
        · replace c13 := Bool.eq_false_iff.mpr c13
          subst c13
          have H1 : (paste_lines.j0 k a0 ((⟨#[10]⟩ : ByteArray) ++ t111) t113 (wrap64 (a1 + 1))) = some (r1, r2, r3) := by rw [if_neg (show ¬ (false = true) by decide)] at H; exact H
          clear H
          have H := H1
          clear H1
          have H' := Aside0.mk H
          clear H
          go_wp2
          go_meet
          case rel => exact ⟨_, ((⟨#[10]⟩ : ByteArray) ++ t111), (t113), (wrap64 (a1 + 1)), (by first | rfl | (simp; done) | (simp [*]; done)), (by first | rfl | (simp; done) | (simp [*]; done)), (by first | rfl | (simp; done) | (simp [*]; done)), H', ⟨by first | omega | exact Nat.le_refl _⟩, ⟨by repeat (first | (with_reducible first | exact HB.out | apply below_alloc | apply pw_below_drewN | apply below_drew1) | exact HB.out)⟩⟩
      case rest =>
        clear HC10
        try clear c1
        try clear c2
        try clear p2
        try clear c5
        try clear p6
        try clear c7
        try clear c9
        try clear c9b0
        try clear c9b1
        try clear c9b2
        try clear c13
        try clear c15
        try clear c15b0
        try clear c15b1
        try clear c16
        try clear c16b0
        try clear c16b1
        try clear c16b2
        obtain ⟨kq, x13_9, x15_9, x16_9, rfl, rfl, rfl, HA, HJ9, HB⟩ := hcut
        cases kq with
        | zero => exact absurd HA.out (by simp [paste_lines.j0])
        | succ kj9 =>
          have H := HA.out
          clear HA
          simp only [paste_lines.j0] at H
          replace H := Option.bind_eq_some_iff.mp H
          obtain ⟨⟨t115, t116⟩, A190, H⟩ := H
          replace H : (if t116 = 0 then ((line_First.f t115 x16_9).bind fun t117 => (some (t115, t117, 0))) else (some ((⟨#[]⟩ : ByteArray), 0, t116))) = some (r1, r2, r3) := H
          have A19 := Aside0.mk A190
          clear A190
          by_cases c20 : t116 = 0
          · rw [if_pos c20] at H
            have c20b0 : (t116 == 0) = true := beq_iff_eq.mpr c20
            have c20b1 : (t116 != 0) = false := bne_eq_false_iff_eq.mpr c20
            clear c20
            replace H := Option.bind_eq_some_iff.mp H
            obtain ⟨t117, A210, H⟩ := H
            replace H : (some (t115, t117, 0)) = some (r1, r2, r3) := H
            have A21 := Aside0.mk A210
            clear A210
            simp only [Option.some.injEq, Prod.mk.injEq] at H
            obtain ⟨rfl, rfl, rfl⟩ := H
            go_wp2_with (first | ((with_reducible refine gate_callee (f := 26) rfl ?_); refine goesL_ (some 46) rfl rfl Tryd.func26 (by kernel_rfl) rfl #[.string a0, .int .i64 x15_9, .string x13_9] rfl (by (try simp only [List.map_toArray, List.map_cons, List.map_nil]); first | done | rfl | (simp only [List.length_drop, List.length_take]; rfl)) ?_; (with_reducible refine (paste_insert.calls a0 x15_9 x13_9 t115 t116 _ A19.out).mono ?_); rintro e w' ⟨rfl, ⟨nd, rfl⟩⟩; refine ⟨_, rfl, ?_⟩) | ((with_reducible refine gate_callee (f := 57) rfl ?_); refine goesL_ (some 55) rfl rfl Tryd.func57 (by kernel_rfl) rfl #[.string t115, .int .i64 x16_9] rfl (by (try simp only [List.map_toArray, List.map_cons, List.map_nil]); first | done | rfl | (simp only [List.length_drop, List.length_take]; rfl)) ?_; (with_reducible refine (line_First.calls t115 x16_9 t117 _ A21.out).mono ?_); rintro e w22 ⟨rfl, hb⟩; refine ⟨_, rfl, ?_⟩; have n0_ := Aside0.mk (below_step (by repeat (first | (with_reducible first | exact HB.out | apply below_alloc | apply pw_below_drewN | apply below_drew1) | exact HB.out)) hb); clear HB; have HB := n0_; clear n0_; (try clear hb); (try clear hb2); (try clear hk); (try clear hi)))
            go_ret3
            exact ⟨by first | rfl | (simp [errW_none, errW_some] <;> rfl) | (simp [*, errW_none, errW_some] <;> rfl), by repeat (first | (with_reducible first | exact HB.out | apply below_alloc | apply pw_below_drewN | apply below_drew1) | exact HB.out)⟩
          · rw [if_neg c20] at H
            have c20b0 : (t116 == 0) = false := beq_eq_false_iff_ne.mpr c20
            have c20b1 : (t116 != 0) = true := bne_iff_ne.mpr c20
            simp only [Option.some.injEq, Prod.mk.injEq] at H
            obtain ⟨rfl, rfl, rfl⟩ := H
            go_wp2_with (first | ((with_reducible refine gate_callee (f := 26) rfl ?_); refine goesL_ (some 46) rfl rfl Tryd.func26 (by kernel_rfl) rfl #[.string a0, .int .i64 x15_9, .string x13_9] rfl (by (try simp only [List.map_toArray, List.map_cons, List.map_nil]); first | done | rfl | (simp only [List.length_drop, List.length_take]; rfl)) ?_; (with_reducible refine (paste_insert.calls a0 x15_9 x13_9 t115 t116 _ A19.out).mono ?_); rintro e w' ⟨rfl, ⟨nd, rfl⟩⟩; refine ⟨_, rfl, ?_⟩))
            go_ret3
            exact ⟨by first | rfl | (simp [errW_none, errW_some] <;> rfl) | (simp [*, errW_none, errW_some] <;> rfl), by repeat (first | (with_reducible first | exact HB.out | apply below_alloc | apply pw_below_drewN | apply below_drew1) | exact HB.out)⟩
    · rw [if_neg c9] at H
      exact absurd H (by simp)
  · replace c7 := Bool.eq_false_iff.mpr c7
    subst c7
    have H1 : (some ((⟨#[]⟩ : ByteArray), 0, 8)) = some (r1, r2, r3) := by rw [if_neg (show ¬ (false = true) by decide)] at H; exact H
    clear H
    have H := H1
    clear H1
    simp only [Option.some.injEq, Prod.mk.injEq] at H
    obtain ⟨rfl, rfl, rfl⟩ := H
    go_enter Tryd.func21, Tryd.ntmps21
    go_wp2_with (first | ((with_reducible refine gate_callee (f := 23) rfl ?_); refine goesL_ (some 22) rfl rfl Tryd.func23 (by kernel_rfl) rfl #[.string a2, .string (⟨#[10]⟩ : ByteArray), .int .i64 a4] rfl (by (try simp only [List.map_toArray, List.map_cons, List.map_nil]); first | done | rfl | (simp only [List.length_drop, List.length_take]; rfl)) ?_; (with_reducible refine (paste_times.calls k a2 (⟨#[10]⟩ : ByteArray) a4 t111 false _ A6.out).mono ?_); rintro e w23 ⟨rfl, hb⟩; refine ⟨_, rfl, ?_⟩; have n0_ := Aside0.mk (below_step (by repeat (first | (with_reducible first | exact HB.out | apply below_alloc | apply pw_below_drewN | apply below_drew1) | exact HB.out)) hb); clear HB; have HB := n0_; clear n0_; (try clear hb); (try clear hb2); (try clear hk); (try clear hi)))
    go_ret3
    exact ⟨by first | rfl | (simp [errW_none, errW_some] <;> rfl) | (simp [*, errW_none, errW_some] <;> rfl), by repeat (first | (with_reducible first | exact HB.out | apply below_alloc | apply pw_below_drewN | apply below_drew1) | exact HB.out)⟩


/-! ### paste_stop -/
def paste_stop.f (a0 : ByteArray) (a1 : Int) : Option (Bool) := if a1 = (a0.size : Int) then (some true) else (if 0 ≤ a1 then (if a1 < (a0.size : Int) then (some ((bt a0 a1) == 10)) else (none)) else (none))
set_option maxHeartbeats 8000000 in
set_option maxRecDepth 100000 in
theorem paste_stop.calls (a0 : ByteArray) (a1 : Int) (r : Bool) (w : World) (h : paste_stop.f a0 a1 = some r) :
    Calls Tryd.prog 24 #[.string a0, .int .i64 a1] w fun e w' => e = .returned (.bool r) ∧ Drawn0 w w' := by
  have H : (if a1 = (a0.size : Int) then (some true) else (if 0 ≤ a1 then (if a1 < (a0.size : Int) then (some ((bt a0 a1) == 10)) else (none)) else (none))) = some r := h
  clear h
  by_cases c3 : a1 = (a0.size : Int)
  · rw [if_pos c3] at H
    have c3b0 : (a1 == (a0.size : Int)) = true := beq_iff_eq.mpr c3
    have c3b1 : (a1 != (a0.size : Int)) = false := bne_eq_false_iff_eq.mpr c3
    clear c3
    obtain rfl := Option.some.inj H
    go_enter Tryd.func24, Tryd.ntmps24
    go_wp2
    go_ret
    exact ⟨by first | rfl | (simp; done) | (simp [*]; done), by repeat (first | exact Drawn0.refl _ | apply Drawn0.step)⟩
  · rw [if_neg c3] at H
    have c3b0 : (a1 == (a0.size : Int)) = false := beq_eq_false_iff_ne.mpr c3
    have c3b1 : (a1 != (a0.size : Int)) = true := bne_iff_ne.mpr c3
    by_cases c4 : 0 ≤ a1
    · rw [if_pos c4] at H
      have c4b0 : decide (0 ≤ a1) = true := decide_eq_true c4
      clear c4
      by_cases c5 : a1 < (a0.size : Int)
      · rw [if_pos c5] at H
        have c5b0 : decide (a1 < (a0.size : Int)) = true := decide_eq_true c5
        clear c5
        obtain rfl := Option.some.inj H
        have p6 : 0 ≤ (a1 : Int) := of_decide_eq_true (by first | (with_reducible assumption) | assumption)
        have q6 : a1 < (a0.size : Int) := of_decide_eq_true (by first | (with_reducible assumption) | assumption)
        have hx6 := bt_at a0 a1
        replace p6 := eq_true p6
        replace q6 := eq_true q6
        go_enter Tryd.func24, Tryd.ntmps24
        go_wp2
        go_ret
        exact ⟨by first | rfl | (simp; done) | (simp [*]; done), by repeat (first | exact Drawn0.refl _ | apply Drawn0.step)⟩
      · rw [if_neg c5] at H
        exact absurd H (by simp)
    · rw [if_neg c4] at H
      exact absurd H (by simp)




end Go.Proofs.YtckfdehendifoaaDoor.QP
/- The contracts of the package class: the classes of runes, and where runes of one stand. -/
namespace Go.Proofs.YtckfdehendifoaaDoor
open Go.RowKit
set_option linter.unusedVariables false
set_option linter.unusedSimpArgs false
set_option maxHeartbeats 4000000 in
set_option maxRecDepth 100000 in
theorem letter_c (b : Int) (w : World) : Calls Tryd.prog 80 #[.int .u8 b] w fun e w' => e = .returned (.bool (lettB b)) ∧ Ext w w' := by
  go_enter Tryd.func80, Tryd.ntmps80
  go_wp2
  all_goals (go_ret; refine ⟨retb ?_, (by (repeat (first | exact Ext.refl _ | exact ‹Ext _ _› | refine Ext.alloc ?_ _ | refine Ext.drew ?_ | refine Ext.drewN ?_ _ | (refine Ext.setCell ?_ (by first | omega | (simp; done) | (simp; omega)) _) | refine Ext.trans ?_ ‹Ext _ _›)))⟩; unfold lettB; rw [Bool.eq_iff_iff]; simp; omega)
theorem run_none {l : List UInt8} {p : Int} {big : Bool} (h : kindI l p big = 0 ∨ kindI l p big = 4) : (runI l p big).1 = -1 ∧ (runI l p big).2 = -1 := by unfold runI; rw [if_pos h]; exact ⟨rfl, rfl⟩
theorem kind_place {l : List UInt8} {p : Int} {big : Bool} (h : kindI l p big ≠ 0) : ∃ k : Nat, p = k ∧ k < l.length ∧ placeB l k = true := by
  have hc : clsI l p ≠ 0 := by
    intro e; apply h; unfold kindI bigI; rw [e]; cases big <;> simp
  unfold clsI at hc
  by_cases hp : placeB l p = true ∧ p ≠ l.length
  · have h1 := hp.1
    unfold placeB at h1; simp only [Bool.and_eq_true, decide_eq_true_eq] at h1
    have h2 := hp.2
    refine ⟨p.toNat, by omega, by omega, ?_⟩
    rw [Int.toNat_of_nonneg (by omega)]; exact hp.1
  · rw [if_neg hp] at hc; exact absurd rfl hc

end Go.Proofs.YtckfdehendifoaaDoor
/- The contracts of class.each, Up, Low, Flip. -/
namespace Go.Proofs.YtckfdehendifoaaDoor
open Go.RowKit
set_option linter.unusedVariables false
set_option linter.unusedSimpArgs false
def upB (b : Int) : Int := if lettB b = true ∧ 97 ≤ b then b - 32 else b
def loB (b : Int) : Int := if lettB b = true ∧ b ≤ 90 then b + 32 else b
def flB (b : Int) : Int := if lettB b = true then (if 97 ≤ b then b - 32 else b + 32) else b
theorem up_bits : ∀ n : Fin 256, lettB (n.val : Int) = true → bits .andNot .u8 (n.val : Int) 32 = upB n.val := by decide +kernel
theorem lo_bits : ∀ n : Fin 256, lettB (n.val : Int) = true → bits .or .u8 (n.val : Int) 32 = loB n.val := by decide +kernel
theorem fl_bits : ∀ n : Fin 256, lettB (n.val : Int) = true → bits .xor .u8 (n.val : Int) 32 = flB n.val := by decide +kernel
theorem b8_toNat {n : Int} (h0 : 0 ≤ n) (h1 : n ≤ 255) : (((b8 n).toNat : Nat) : Int) = n := by
  unfold b8; rw [UInt8.toNat_ofNat_of_lt' (by show n.toNat < 256; omega)]; omega
theorem up_range (b : Int) (h0 : 0 ≤ b) (h1 : b ≤ 255) : 0 ≤ upB b ∧ upB b ≤ 255 := by unfold upB; split <;> omega
theorem lo_range (b : Int) (h0 : 0 ≤ b) (h1 : b ≤ 255) : 0 ≤ loB b ∧ loB b ≤ 255 := by unfold loB; split <;> omega
theorem fl_range (b : Int) (h0 : 0 ≤ b) (h1 : b ≤ 255) : 0 ≤ flB b ∧ flB b ≤ 255 := by
  unfold flB; split
  · rename_i h; unfold lettB at h; simp at h; split <;> omega
  · omega
theorem set_other {W : World} {b j k : Nat} {v : Value} (h : k ≠ j) : (W.setCell ⟨b, k, none⟩ v).cell? ⟨b, j, none⟩ = W.cell? ⟨b, j, none⟩ := by
  apply World.cell?_setCell_other
  intro e; injection e with e1 e2 e3; exact h e2
def upN (l : List UInt8) (k : Nat) (j : Nat) : Int := if j < k then upB (byL l j) else byL l j
def upS (s : ByteArray) : ByteArray := ⟨((ls s).map fun b => b8 (upB b.toNat)).toArray⟩
theorem ls_upS (s : ByteArray) : ls (upS s) = (ls s).map fun b => b8 (upB b.toNat) := by unfold upS ls; simp
theorem size_upS (s : ByteArray) : (upS s).size = s.size := by rw [← ls_len, ls_upS, List.length_map, ls_len]
def loN (l : List UInt8) (k : Nat) (j : Nat) : Int := if j < k then loB (byL l j) else byL l j
def loS (s : ByteArray) : ByteArray := ⟨((ls s).map fun b => b8 (loB b.toNat)).toArray⟩
theorem ls_loS (s : ByteArray) : ls (loS s) = (ls s).map fun b => b8 (loB b.toNat) := by unfold loS ls; simp
theorem size_loS (s : ByteArray) : (loS s).size = s.size := by rw [← ls_len, ls_loS, List.length_map, ls_len]
set_option maxHeartbeats 4000000 in
set_option maxRecDepth 100000 in
theorem fl1_c (b : Int) (h0 : 0 ≤ b) (h1 : b ≤ 255) (hl : lettB b = true) (w : World) : Calls Tryd.prog 68 #[.int .u8 b] w fun e w' => e = .returned (.int .u8 (flB b)) ∧ Ext w w' := by
  obtain ⟨n, rfl⟩ : ∃ n : Nat, b = n := ⟨b.toNat, by omega⟩
  have hn : n < 256 := by omega
  have Hk := Lib.hid (fl_bits ⟨n, hn⟩ hl)
  clear hl
  go_enter Tryd.func68, Tryd.ntmps68
  go_wp2
  go_ret
  exact ⟨by rw [← Hk.out]; rfl, (by (repeat (first | exact Ext.refl _ | exact ‹Ext _ _› | refine Ext.alloc ?_ _ | refine Ext.drew ?_ | refine Ext.drewN ?_ _ | (refine Ext.setCell ?_ (by first | omega | (simp; done) | (simp; omega)) _) | refine Ext.trans ?_ ‹Ext _ _›)))⟩
def flN (l : List UInt8) (k : Nat) (j : Nat) : Int := if j < k then flB (byL l j) else byL l j
set_option maxHeartbeats 4000000 in
set_option maxRecDepth 100000 in
theorem eachfl_c (s : ByteArray) (w : World) (hs : s.size ≤ 140737488351232) : Calls Tryd.prog 67 #[.string s, .func (.func 68) #[] #[]] w fun e w' => e = .returned (.string ⟨((ls s).map fun b => b8 (flB b.toNat)).toArray⟩) ∧ Ext w w' := by
  have hcv := fun w => run_bytes_of_string (P := Tryd.prog) w 9 74 5 s Tryd.underlying9 Tryd.underlying74 Tryd.underlying5
  go_enter Tryd.func67, Tryd.ntmps67
  go_wp2_with (first | (go_at_call 80; refine (letter_c _ _).mono ?_; rintro e w1 ⟨rfl, hx1⟩))
  go_loopw [11] (fun iv wr => ∃ k : Nat, k ≤ s.size ∧ iv = .int .i64 k ∧ Hid (∀ j, j < s.size → wr.cell? ⟨w.heap.size, j, none⟩ = some (.int .u8 (flN (ls s) k j))) ∧ Hid (∀ j, j < s.size → wr.frozen? ⟨w.heap.size, j, none⟩ = false) ∧ w.heap.size < wr.heap.size ∧ Ext w wr) (fun iv _ => s.size - (intOf iv).toNat)
  case atStart =>
    refine ⟨0, by omega, rfl, Lib.hid (fun j hj => ?_), Lib.hid (fun j hj => ?_), by simp, (by (repeat (first | exact Ext.refl _ | exact ‹Ext _ _› | refine Ext.alloc ?_ _ | refine Ext.drew ?_ | refine Ext.drewN ?_ _ | (refine Ext.setCell ?_ (by first | omega | (simp; done) | (simp; omega)) _) | refine Ext.trans ?_ ‹Ext _ _›)))⟩
    · rw [flN, if_neg (by omega), ← byL_eq s j hj]
      simp [World.cell?, World.alloc, World.drew, -World.alloc_eq, -World.drew_eq, bytesRow, hj]
      rw [Array.getElem?_append_left (by simpa using hj)]
      simp [hj]
      rfl
    · simp [World.frozen?, World.alloc, World.drew, -World.alloc_eq, -World.drew_eq, bytesRow, hj]
      all_goals omega
  case round =>
    obtain ⟨k, hk, rfl, Hc, Hf, hz, hx⟩ := hrel
    by_cases hlt : k < s.size
    · have hc : wr.cell? ⟨w.heap.size, k, none⟩ = some (.int .u8 (byL (ls s) k)) := by rw [Hc.out k hlt, flN, if_neg (by omega)]
      have hf := Hf.out k hlt
      have hb0 := byL_lo (ls s) k
      have hb1 := byL_hi (ls s) k
      go_wp2_with (first | (go_at_call 80; refine (letter_c _ _).mono ?_; rintro e w1 ⟨rfl, hx1⟩; have hf2 := Ext.unfr hx1 hc hf; replace hc := Ext.keep hx1 hc; have hz2 := hx1.size) | (go_at_call 68; refine (fl1_c _ hb0 hb1 (by assumption) _).mono ?_; rintro e w1 ⟨rfl, hx1⟩; have hf2 := Ext.unfr hx1 hc (by assumption); replace hc := Ext.keep hx1 hc; have hz2 := hx1.size))
      · go_roundw
        case rel =>
          refine ⟨k + 1, by omega, by go_num, Lib.hid (fun j hj => ?_), Lib.hid (fun j hj => ?_), by simp; omega, (by (repeat (first | exact Ext.refl _ | exact ‹Ext _ _› | refine Ext.alloc ?_ _ | refine Ext.drew ?_ | refine Ext.drewN ?_ _ | (refine Ext.setCell ?_ (by first | omega | (simp; done) | (simp; omega)) _) | refine Ext.trans ?_ ‹Ext _ _›)))⟩
          · by_cases e : j = k
            · subst e
              rw [cell_set_eq hc, flN, if_pos (by omega)]
            · rw [set_other (fun x => e x.symm), Below.cell hx1 (by simp; omega)]
              rename Ext wr _ => hx0
              rw [Below.cell hx0 (by simp; omega), Hc.out j hj, flN, flN]
              by_cases e2 : j < k
              · rw [if_pos e2, if_pos (by omega)]
              · rw [if_neg e2, if_neg (by omega)]
          · rw [World.frozen?_setCell, Below.frozen hx1 (by simp; omega)]
            rename Ext wr _ => hx0
            rw [Below.frozen hx0 (by simp; omega)]; exact Hf.out j hj
        case measure => (simp [intOf] <;> omega)
      · go_roundw
        case rel =>
          refine ⟨k + 1, by omega, by go_num, Lib.hid (fun j hj => ?_), Lib.hid (fun j hj => ?_), by omega, (by (repeat (first | exact Ext.refl _ | exact ‹Ext _ _› | refine Ext.alloc ?_ _ | refine Ext.drew ?_ | refine Ext.drewN ?_ _ | (refine Ext.setCell ?_ (by first | omega | (simp; done) | (simp; omega)) _) | refine Ext.trans ?_ ‹Ext _ _›)))⟩
          · rw [Below.cell hx1 (by simp; omega), Hc.out j hj, flN, flN]
            by_cases e : j = k
            · subst e
              rw [if_neg (by omega), if_pos (by omega)]
              congr 2
              rename _ = false => hlf
              unfold flB; simp [hlf]
            · by_cases e2 : j < k
              · rw [if_pos e2, if_pos (by omega)]
              · rw [if_neg e2, if_neg (by omega)]
          · rw [Below.frozen hx1 (by simp; omega)]; exact Hf.out j hj
        case measure => (simp [intOf] <;> omega)
    · have ek : k = s.size := by omega
      subst ek
      have hlen : ((ls s).map fun b => b8 (flB b.toNat)).length = s.size := by rw [List.length_map, ls_len]
      have hback := run_convert_bytes_back (P := Tryd.prog) wr 74 9 5 ⟨w.heap.size, 0, none⟩ (grownCap w s.size 0 5) ((ls s).map fun b => b8 (flB b.toNat)) Tryd.underlying74 Tryd.underlying5 Tryd.underlying9 (by
        intro j hj
        have hj' : j < s.size := by rw [← hlen]; exact hj
        have hjl : j < (ls s).length := by rw [ls_len]; exact hj'
        have ea : (⟨w.heap.size, 0, none⟩ : Addr).add j = ⟨w.heap.size, j, none⟩ := by unfold Addr.add; split <;> simp_all
        rw [ea, Hc.out j hj', flN, if_pos hj', List.getElem_map]
        have hx0 : byL (ls s) j = (((ls s)[j].toNat : Nat) : Int) := by unfold byL; rw [List.getD_eq_getElem?_getD, List.getElem?_eq_getElem hjl]; rfl
        have hr := fl_range (byL (ls s) j) (byL_lo _ _) (byL_hi _ _)
        rw [← hx0, b8_toNat hr.1 hr.2])
      rw [hlen] at hback
      clear hlen
      go_wp2
      go_ret
      exact ⟨rfl, (by (repeat (first | exact Ext.refl _ | exact ‹Ext _ _› | refine Ext.alloc ?_ _ | refine Ext.drew ?_ | refine Ext.drewN ?_ _ | (refine Ext.setCell ?_ (by first | omega | (simp; done) | (simp; omega)) _) | refine Ext.trans ?_ ‹Ext _ _›)))⟩
def flS (s : ByteArray) : ByteArray := ⟨((ls s).map fun b => b8 (flB b.toNat)).toArray⟩
theorem ls_flS (s : ByteArray) : ls (flS s) = (ls s).map fun b => b8 (flB b.toNat) := by unfold flS ls; simp
theorem size_flS (s : ByteArray) : (flS s).size = s.size := by rw [← ls_len, ls_flS, List.length_map, ls_len]
set_option maxHeartbeats 4000000 in
set_option maxRecDepth 100000 in
theorem cfl_c (s : ByteArray) (w : World) (hs : s.size ≤ 140737488351232) : Calls Tryd.prog 47 #[.string s] w fun e w' => e = .returned (.string (flS s)) ∧ Ext w w' := by
  go_enter Tryd.func47, Tryd.ntmps47
  go_wp2_with (first | (go_at_call 67; refine (eachfl_c _ _ hs).mono ?_; rintro e w1 ⟨rfl, hx1⟩))
  go_ret
  exact ⟨rfl, (by (repeat (first | exact Ext.refl _ | exact ‹Ext _ _› | refine Ext.alloc ?_ _ | refine Ext.drew ?_ | refine Ext.drewN ?_ _ | (refine Ext.setCell ?_ (by first | omega | (simp; done) | (simp; omega)) _) | refine Ext.trans ?_ ‹Ext _ _›)))⟩

end Go.Proofs.YtckfdehendifoaaDoor
/- The contracts of the reference calamusref05: classes. -/
namespace Go.Proofs.YtckfdehendifoaaDoor
open Go.RowKit
set_option linter.unusedVariables false
set_option linter.unusedSimpArgs false
def bsI (l : List UInt8) : List Int := l.map fun x => (x.toNat : Int)
theorem bsI_len (l : List UInt8) : (bsI l).length = l.length := by simp [bsI]
theorem bsI_at (s : ByteArray) (j : Nat) (h : j < s.size) : (bsI (ls s))[j]'(by rw [bsI_len, ls_len]; exact h) = ((s[j].toNat : Nat) : Int) := by
  have h' : j < (ls s).length := by rw [ls_len]; exact h
  simp only [bsI, List.getElem_map]
  rw [byL_eq s j h]; unfold byL; rw [List.getD_eq_getElem?_getD, List.getElem?_eq_getElem h']; rfl
set_option maxHeartbeats 4000000 in
set_option maxRecDepth 100000 in
theorem rin_c (s : ByteArray) (b : Int) (w : World) (hs : s.size ≤ 1152921504606846976) : Calls Tryd.prog 81 #[.string s, .int .u8 b] w fun e w' => e = .returned (.int .i64 (findF (bsI (ls s)) b 0)) ∧ Ext w w' := by
  go_enter Tryd.func81, Tryd.ntmps81
  go_wp2
  go_loopw [5] (fun i wr => ∃ k : Nat, k ≤ s.size ∧ i = .int .i64 k ∧ findF ((bsI (ls s)).drop k) b k = findF (bsI (ls s)) b 0 ∧ Ext w wr) (fun i _ => s.size - (intOf i).toNat)
  case atStart => exact ⟨0, by omega, rfl, by simp, (by (repeat (first | exact Ext.refl _ | exact ‹Ext _ _› | refine Ext.alloc ?_ _ | refine Ext.drew ?_ | refine Ext.drewN ?_ _ | (refine Ext.setCell ?_ (by first | omega | (simp; done) | (simp; omega)) _) | refine Ext.trans ?_ ‹Ext _ _›)))⟩
  case round =>
    obtain ⟨k, hk, rfl, hok, hx⟩ := hrel
    have Hok := Lib.hid hok
    clear hok
    by_cases hlt : k < s.size
    · have hb := bsI_at s k hlt
      have Hs := Lib.hid (findF_step (bsI (ls s)) b k (by rw [bsI_len, ls_len]; exact hlt))
      rw [hb] at Hs
      clear hb
      go_wp2
      all_goals (try simp only [beq_iff_eq, beq_eq_false_iff_ne] at *)
      · go_ret
        refine ⟨ret1 ?_, (by (repeat (first | exact Ext.refl _ | exact ‹Ext _ _› | refine Ext.alloc ?_ _ | refine Ext.drew ?_ | refine Ext.drewN ?_ _ | (refine Ext.setCell ?_ (by first | omega | (simp; done) | (simp; omega)) _) | refine Ext.trans ?_ ‹Ext _ _›)))⟩
        rw [← Hok.out, Hs.out, if_pos (by assumption)]
      · go_roundw
        case rel =>
          refine ⟨k + 1, by omega, by go_num, ?_, (by (repeat (first | exact Ext.refl _ | exact ‹Ext _ _› | refine Ext.alloc ?_ _ | refine Ext.drew ?_ | refine Ext.drewN ?_ _ | (refine Ext.setCell ?_ (by first | omega | (simp; done) | (simp; omega)) _) | refine Ext.trans ?_ ‹Ext _ _›)))⟩
          rw [← Hok.out, Hs.out, if_neg (by assumption)]
        case measure => (simp [intOf] <;> omega)
    · have Hs := Lib.hid (findF_end (bsI (ls s)) b k (by rw [bsI_len, ls_len]; omega))
      go_wp2
      go_ret
      exact ⟨ret1 (by rw [← Hok.out, Hs.out]), (by (repeat (first | exact Ext.refl _ | exact ‹Ext _ _› | refine Ext.alloc ?_ _ | refine Ext.drew ?_ | refine Ext.drewN ?_ _ | (refine Ext.setCell ?_ (by first | omega | (simp; done) | (simp; omega)) _) | refine Ext.trans ?_ ‹Ext _ _›)))⟩

def alnumB (b : Int) : Bool := lettB b || (decide (48 ≤ b) && decide (b ≤ 57)) || decide (b = 95)
def kindR (l : List UInt8) (big : Bool) : Int :=
  if l = [] then 0 else if l = [10] then 4 else if byL l 0 = 32 ∨ byL l 0 = 9 then 1 else if 1 < l.length ∨ big = true ∨ alnumB (byL l 0) = true then 2 else 3
theorem in_blank : ∀ n : Fin 256, decide (0 ≤ findF (bsI (ls ⟨#[32, 9]⟩)) (n.val : Int) 0) = (decide ((n.val : Int) = 32) || decide ((n.val : Int) = 9)) := by decide +kernel
def alnumL : ByteArray := ⟨#[97, 98, 99, 100, 101, 102, 103, 104, 105, 106, 107, 108, 109, 110, 111, 112, 113, 114, 115, 116, 117, 118, 119, 120, 121, 122, 65, 66, 67, 68, 69, 70, 71, 72, 73, 74, 75, 76, 77, 78, 79, 80, 81, 82, 83, 84, 85, 86, 87, 88, 89, 90, 48, 49, 50, 51, 52, 53, 54, 55, 56, 57, 95]⟩
theorem in_alnum : ∀ n : Fin 256, decide (0 ≤ findF (bsI (ls alnumL)) (n.val : Int) 0) = alnumB n.val := by decide +kernel
theorem in_blank' (x : UInt8) : 0 ≤ findF (bsI (ls ⟨#[32, 9]⟩)) ((x.toNat : Nat) : Int) 0 ↔ (((x.toNat : Nat) : Int) = 32 ∨ ((x.toNat : Nat) : Int) = 9) := by
  have h := in_blank ⟨x.toNat, x.toNat_lt⟩
  rw [Bool.eq_iff_iff] at h; simpa using h
theorem in_alnum' (x : UInt8) : 0 ≤ findF (bsI (ls alnumL)) ((x.toNat : Nat) : Int) 0 ↔ alnumB ((x.toNat : Nat) : Int) = true := by
  have h := in_alnum ⟨x.toNat, x.toNat_lt⟩
  rw [Bool.eq_iff_iff] at h; simpa using h
theorem ls_nil {s : ByteArray} (h : 0 < s.size) : ls s ≠ [] := by intro e; have := ls_len s; rw [e] at this; simp at this; omega
theorem runeL_at {l : List UInt8} {k : Nat} (h : placeB l k = true) (hk : k < l.length) : ∃ n, szL (l.drop k) = n ∧ 1 ≤ n ∧ runeL l k = (l.drop k).take n ∧ ((l.drop k).take n).length = n ∧ byL ((l.drop k).take n) 0 = byL l k := by
  obtain ⟨hz, hle⟩ := sz_at h hk
  refine ⟨szL (l.drop k), rfl, by omega, ?_, by rw [List.length_take, List.length_drop]; omega, ?_⟩
  · unfold runeL; rw [if_pos ⟨h, by omega⟩, Int.toNat_natCast]
  · rw [byL_take (l.drop k) (by omega), byL_drop]; rfl
theorem runeL_out {l : List UInt8} {p : Int} (h : ¬ (placeB l p = true ∧ p ≠ l.length)) : runeL l p = [] := by unfold runeL; rw [if_neg h]
theorem kindR_of (l : List UInt8) (p : Int) (big : Bool) : kindR (runeL l p) big = kindI l p big := by
  by_cases h : placeB l p = true ∧ p ≠ l.length
  · obtain ⟨h1, h2⟩ := h
    have h3 := h1
    unfold placeB at h3; simp only [Bool.and_eq_true, decide_eq_true_eq] at h3
    obtain ⟨k, rfl⟩ : ∃ k : Nat, p = k := ⟨p.toNat, by omega⟩
    have hk : k < l.length := by omega
    obtain ⟨n, hn, h1n, e1, e2, e3⟩ := runeL_at h1 hk
    have hc : clsI l k = ofB (byL l k) := by unfold clsI; rw [if_pos ⟨h1, by omega⟩, Int.toNat_natCast]
    obtain ⟨hz, _⟩ := sz_at h1 hk
    obtain ⟨_, h4, _, h5⟩ := szL_pos hz
    rw [byL_drop, Nat.add_zero, hn] at h4
    have hb0 := byL_lo l k
    have hb1 := byL_hi l k
    have key : n = 1 ↔ byL l k < 128 := by
      have : fSize (byL l k) = 1 ↔ byL l k < 128 := by unfold fSize; repeat' (first | omega | split)
      omega
    have hten : (l.drop k).take n = [10] ↔ byL l k = 10 := by
      constructor
      · intro e; rw [← e3, e]; rfl
      · intro e
        have : n = 1 := by omega
        subst this
        rw [List.drop_eq_getElem_cons hk]
        have := byL_ten hk
        rw [e] at this
        simp at this
        simp [this]
    rw [e1]
    unfold kindR kindI bigI
    rw [hc, if_neg (by intro e; rw [e] at e2; simp at e2; omega), e2, e3]
    simp only [hten]
    have hal : alnumB (byL l k) = true ↔ (lettB (byL l k) = true ∨ (48 ≤ byL l k ∧ byL l k ≤ 57) ∨ byL l k = 95) := by unfold alnumB; simp [or_assoc]
    simp only [hal]
    unfold ofB
    by_cases hP : lettB (byL l k) = true <;> cases big <;> simp [hP] <;> (repeat' split) <;> first | rfl | omega
  · rw [runeL_out h]
    have hc : clsI l p = 0 := by unfold clsI; rw [if_neg h]
    unfold kindI bigI; rw [hc]; cases big <;> rfl
theorem dnI_at {l : List UInt8} {c : Int} {big : Bool} {a m f : Nat} (h : a ≤ m) : dnI l c big a (m + 1) f = if placeB l m = true then (if kindI l m big = c then dnI l c big a m m else f) else dnI l c big a m f := by rw [dnI, if_neg (by omega)]
theorem dnI_stop (l : List UInt8) (c : Int) (big : Bool) (a f : Nat) : dnI l c big a a f = f := by
  cases a with
  | zero => rfl
  | succ n => rw [dnI, if_pos (by omega)]
theorem upI_at {l : List UInt8} {c : Int} {big : Bool} {e i : Nat} {t : Int} (h : i < e) : upI l c big (e - i) i t = if placeB l i = true then (if kindI l i big = c then upI l c big (e - (i + 1)) (i + 1) (nextI l i) else t) else upI l c big (e - (i + 1)) (i + 1) t := by
  rw [show e - i = (e - (i + 1)) + 1 by omega, upI]
end Go.Proofs.YtckfdehendifoaaDoor
/- The contracts of the packages class and calamusref05 in the printer's form. -/
namespace Go.Proofs.YtckfdehendifoaaDoor
open Go.RowKit
set_option linter.unusedVariables false
set_option linter.unusedSimpArgs false
def class_Flip.f (a0 : ByteArray) : Option (ByteArray) := if a0.size ≤ 140737488351232 then some (flS a0) else none
theorem class_Flip.eq (a0 : ByteArray) (hg : a0.size ≤ 140737488351232) : class_Flip.f a0 = some (flS a0) := if_pos hg
theorem class_Flip.calls (a0 : ByteArray) (r : ByteArray) (w : World) (h : class_Flip.f a0 = some r) : Calls Tryd.prog 47 #[.string a0] w fun e w' => e = .returned (.string r) ∧ Below w.heap.size w w' := by
  unfold class_Flip.f at h
  split at h
  · cases h; exact cfl_c a0 w (by omega)
  · cases h
end Go.Proofs.YtckfdehendifoaaDoor
/- The contract of calamusref05.in in the printer's form. -/
namespace Go.Proofs.YtckfdehendifoaaDoor
open Go.RowKit
set_option linter.unusedVariables false
set_option linter.unusedSimpArgs false
def calamusref05_in.f (a0 : ByteArray) (a1 : Int) : Option (Int) := if a0.size ≤ 1099511627775 then some (findF (bsI (ls a0)) a1 0) else none
theorem calamusref05_in.eq (a0 : ByteArray) (a1 : Int) (hg : a0.size ≤ 1099511627775) : calamusref05_in.f a0 a1 = some (findF (bsI (ls a0)) a1 0) := if_pos hg
theorem calamusref05_in.calls (a0 : ByteArray) (a1 : Int) (r : Int) (w : World) (h : calamusref05_in.f a0 a1 = some r) : Calls Tryd.prog 81 #[.string a0, .int .u8 a1] w fun e w' => e = .returned (.int .i64 r) ∧ Below w.heap.size w w' := by
  unfold calamusref05_in.f at h
  split at h
  · cases h; exact rin_c a0 a1 w (by omega)
  · cases h
end Go.Proofs.YtckfdehendifoaaDoor
-- Printed by this work's xp.py out of the translation. Lean checks it.
namespace Go.Proofs.YtckfdehendifoaaDoor.QP
open Go.RowKit Go.Proofs.YtckfdehendifoaaDoorW.PrintWords Go.Proofs.YtckfdehendifoaaDoorW.PrintLast Go.Proofs.YtckfdehendifoaaDoorW.PrintMore
attribute [local go_sem] max2_int min2_int max_two min_two max_three min_three max_four min_four   -- for this text's walks alone
set_option linter.unusedVariables false
set_option linter.unusedSimpArgs false


/-! ### paste_behind -/
def paste_behind.l0 : Nat → ByteArray → Int → Int → Int → Option (Int × Int)
  | 0, _, _, _, _ => none
  | k + 1, x0, x1, x2, x8 => if x8 < x2 then ((paste_stop.f x0 x1).bind fun t205 => (if t205 = true then (some (x1, x8)) else ((utf_Next.f x0 x1).bind fun t206 => (paste_behind.l0 k x0 t206 x2 (wrap64 (x8 + 1)))))) else (some (x1, x8))
def paste_behind.f (k : Nat) (a0 : ByteArray) (a1 : Int) (a2 : Int) : Option (Int × Int) := paste_behind.l0 k a0 a1 a2 0
theorem paste_behind.mono_l : ∀ k, (∀ y0 y1 y2 y3, LeO (paste_behind.l0 k y0 y1 y2 y3) (paste_behind.l0 (k + 1) y0 y1 y2 y3))
  | 0 => fun _ _ _ _ r h => by simp [paste_behind.l0] at h
  | k + 1 => by
    have ih0 := paste_behind.mono_l k
    · intro y0 y1 y2 y3
      unfold paste_behind.l0
      repeat' first
      | (with_reducible exact ih0 _ _ _ _)
      | (with_reducible exact LeO.refl _)
      | (with_reducible exact LeO.none _)
      | (with_reducible refine LeO.ite ?_ ?_)
      | (with_reducible refine LeO.bind ?_ (fun _ => ?_))
      | exact ih0 _ _ _ _
      | exact LeO.none _
      | refine LeO.ite ?_ ?_
      | refine LeO.bind ?_ (fun _ => ?_)
theorem paste_behind.mono : ∀ a0 a1 a2 k, LeO (paste_behind.f k a0 a1 a2) (paste_behind.f (k + 1) a0 a1 a2) := by
  intro a0 a1 a2 k
  have ih0 := paste_behind.mono_l k
  unfold paste_behind.f
  repeat' first
      | (with_reducible exact ih0 _ _ _ _)
      | (with_reducible exact LeO.refl _)
      | (with_reducible exact LeO.none _)
      | (with_reducible refine LeO.ite ?_ ?_)
      | (with_reducible refine LeO.bind ?_ (fun _ => ?_))
      | exact ih0 _ _ _ _
      | exact LeO.none _
      | refine LeO.ite ?_ ?_
      | refine LeO.bind ?_ (fun _ => ?_)
set_option maxHeartbeats 8000000 in
set_option maxRecDepth 100000 in
theorem paste_behind.calls (k : Nat) (a0 : ByteArray) (a1 : Int) (a2 : Int) (r1 : Int) (r2 : Int) (w : World) (h : paste_behind.f k a0 a1 a2 = some (r1, r2)) :
    Calls Tryd.prog 46 #[.string a0, .int .i64 a1, .int .i64 a2] w fun e w' => e = .returned (.tuple #[.int .i64 r1, .int .i64 r2]) ∧ Below w.heap.size w w' := by
  have HB := Aside0.mk (Below.refl w.heap.size w)
  have H : (paste_behind.l0 k a0 a1 a2 0) = some (r1, r2) := h
  clear h
  have H' := Aside0.mk H
  clear H
  go_enter Tryd.func46, Tryd.ntmps46
  go_wp2
  go_loopg [1, 8] k (fun kq v1 v8 w' => ∃ (x1_1 : Int) (x8_1 : Int), v1 = .int .i64 x1_1 ∧ v8 = .int .i64 x8_1 ∧ Aside0 (paste_behind.l0 kq a0 x1_1 a2 x8_1 = some (r1, r2)) ∧ Aside0 (kq ≤ k) ∧ Aside0 (Below w.heap.size w w'))
  case atStart => exact ⟨(a1), (0), (by first | rfl | (simp; done) | (simp [*]; done)), (by first | rfl | (simp; done) | (simp [*]; done)), H', ⟨Nat.le_refl _⟩, ⟨by repeat (first | (with_reducible first | exact HB.out | apply below_alloc | apply pw_below_drewN | apply below_drew1) | exact HB.out)⟩⟩
  case round =>
    clear H'
    try clear p2
    obtain ⟨x1_1, x8_1, rfl, rfl, HA, HK1, HB⟩ := hrel
    cases gk with
    | zero => exact absurd HA.out (by simp [paste_behind.l0])
    | succ k1 =>
      have H := HA.out
      clear HA
      simp only [paste_behind.l0] at H
      by_cases c4 : x8_1 < a2
      · rw [if_pos c4] at H
        have c4b0 : decide (x8_1 < a2) = true := decide_eq_true c4
        clear c4
        replace H := Option.bind_eq_some_iff.mp H
        obtain ⟨t205, A50, H⟩ := H
        replace H : (if t205 = true then (some (x1_1, x8_1)) else ((utf_Next.f a0 x1_1).bind fun t206 => (paste_behind.l0 k1 a0 t206 a2 (wrap64 (x8_1 + 1))))) = some (r1, r2) := H
        have A5 := Aside0.mk A50
        clear A50
        by_cases c6 : t205 = true
        · subst c6
          have H1 : (some (x1_1, x8_1)) = some (r1, r2) := by rw [if_pos rfl] at H; exact H
          clear H
          have H := H1
          clear H1
          simp only [Option.some.injEq, Prod.mk.injEq] at H
          obtain ⟨rfl, rfl⟩ := H
          go_wp2_with (first | (go_at_call 24; (with_reducible refine (paste_stop.calls a0 x1_1 true _ A5.out).mono ?_); rintro e w' ⟨rfl, ⟨nd, rfl⟩⟩))
          go_ret2
          exact ⟨by first | rfl | (simp [errW_none, errW_some] <;> rfl) | (simp [*, errW_none, errW_some] <;> rfl), by repeat (first | (with_reducible first | exact HB.out | apply below_alloc | apply pw_below_drewN | apply below_drew1) | exact HB.out)⟩
        · replace c6 := Bool.eq_false_iff.mpr c6
          subst c6
          have H1 : ((utf_Next.f a0 x1_1).bind fun t206 => (paste_behind.l0 k1 a0 t206 a2 (wrap64 (x8_1 + 1)))) = some (r1, r2) := by rw [if_neg (show ¬ (false = true) by decide)] at H; exact H
          clear H
          have H := H1
          clear H1
          replace H := Option.bind_eq_some_iff.mp H
          obtain ⟨t206, A70, H⟩ := H
          replace H : (paste_behind.l0 k1 a0 t206 a2 (wrap64 (x8_1 + 1))) = some (r1, r2) := H
          have A7 := Aside0.mk A70
          clear A70
          have H' := Aside0.mk H
          clear H
          go_wp2_with (first | (go_at_call 24; (with_reducible refine (paste_stop.calls a0 x1_1 false _ A5.out).mono ?_); rintro e w' ⟨rfl, ⟨nd, rfl⟩⟩) | ((with_reducible refine gate_callee (f := 25) rfl ?_); refine goesL_ (some 22) rfl rfl Tryd.func25 (by kernel_rfl) rfl #[.string a0, .int .i64 x1_1] rfl (by (try simp only [List.map_toArray, List.map_cons, List.map_nil]); first | done | rfl | (simp only [List.length_drop, List.length_take]; rfl)) ?_; (with_reducible refine (utf_Next.calls a0 x1_1 t206 _ A7.out).mono ?_); rintro e w8 ⟨rfl, hb⟩; refine ⟨_, rfl, ?_⟩; have n0_ := Aside0.mk (below_step (by repeat (first | (with_reducible first | exact HB.out | apply below_alloc | apply pw_below_drewN | apply below_drew1) | exact HB.out)) hb); clear HB; have HB := n0_; clear n0_; (try clear hb); (try clear hb2); (try clear hk); (try clear hi)))
          go_roundg k1
          case measure => have := HK1.out; omega
          case rel => exact ⟨(t206), (wrap64 (x8_1 + 1)), (by first | rfl | (simp; done) | (simp [*]; done)), (by first | rfl | (simp; done) | (simp [*]; done)), H', ⟨by have := HK1.out; omega⟩, ⟨by repeat (first | (with_reducible first | exact HB.out | apply below_alloc | apply pw_below_drewN | apply below_drew1) | exact HB.out)⟩⟩
      · rw [if_neg c4] at H
        have c4b0 : decide (x8_1 < a2) = false := decide_eq_false c4
        clear c4
        simp only [Option.some.injEq, Prod.mk.injEq] at H
        obtain ⟨rfl, rfl⟩ := H
        go_wp2
        go_ret2
        exact ⟨by first | rfl | (simp [errW_none, errW_some] <;> rfl) | (simp [*, errW_none, errW_some] <;> rfl), by repeat (first | (with_reducible first | exact HB.out | apply below_alloc | apply pw_below_drewN | apply below_drew1) | exact HB.out)⟩


/-! ### paste_Flip -/
def paste_Flip.f (k : Nat) (a0 : ByteArray) (a1 : Int) (a2 : Int) : Option (ByteArray × Int × Int) := (utf_Place.f a0 a1).bind fun t207 => (if t207 = true then ((paste_stop.f a0 a1).bind fun t208 => (if t208 = true then (some ((⟨#[]⟩ : ByteArray), 0, 10)) else ((paste_behind.f k a0 a1 (mx a2 1)).bind fun bt209 => (if 0 ≤ a1 then (if a1 ≤ (a0.size : Int) then (if a1 ≤ bt209.1 then (if bt209.1 ≤ (a0.size : Int) then ((class_Flip.f (a0.extract (a1 : Int).toNat (bt209.1 : Int).toNat)).bind fun t211 => (if (a0.extract 0 (a1 : Int).toNat).size + t211.size ≤ 9223372036854775807 then (if 0 ≤ bt209.1 then (if ((a0.extract 0 (a1 : Int).toNat) ++ t211).size + (a0.extract (bt209.1 : Int).toNat a0.size).size ≤ 9223372036854775807 then ((line_Clamp.f (((a0.extract 0 (a1 : Int).toNat) ++ t211) ++ (a0.extract (bt209.1 : Int).toNat a0.size)) bt209.1).bind fun t212 => (some (((a0.extract 0 (a1 : Int).toNat) ++ t211) ++ (a0.extract (bt209.1 : Int).toNat a0.size), t212, 0))) else (none)) else (none)) else (none))) else (none)) else (none)) else (none)) else (none))))) else (some ((⟨#[]⟩ : ByteArray), 0, 1)))
theorem paste_Flip.mono : ∀ a0 a1 a2 k, LeO (paste_Flip.f k a0 a1 a2) (paste_Flip.f (k + 1) a0 a1 a2) := by
  intro a0 a1 a2 k
  unfold paste_Flip.f
  repeat' first
      | (with_reducible exact paste_behind.mono _ _ _ _)
      | (with_reducible exact LeO.refl _)
      | (with_reducible exact LeO.none _)
      | (with_reducible refine LeO.ite ?_ ?_)
      | (with_reducible refine LeO.bind ?_ (fun _ => ?_))
      | exact paste_behind.mono _ _ _ _
      | exact LeO.none _
      | refine LeO.ite ?_ ?_
      | refine LeO.bind ?_ (fun _ => ?_)
def paste_Flip.T6 : Bool × List (List Nat × List Nat) := (true, [([], []), ([], []), ([0, 1], [0, 1]), ([], []), ([], []), ([], []), ([3, 4, 5], [3, 4, 5]), ([6], [6]), ([2, 7], [2, 7]), ([], []), ([], []), ([9, 10], [9, 10]), ([8, 11], [8, 11]), ([12, 7, 0, 1, 2, 3, 4, 5, 6, 7, 8, 9, 10, 11, 12], [12])])
def paste_Flip.B6 : List Nat := [0, 0, 3, 0, 0, 0, 56, 120, 255, 0, 0, 1536, 4095, 8191]
theorem paste_Flip.tab6 : rtab .any (opsOf Tryd.f12 6) = paste_Flip.T6 := by kernel_rfl
theorem paste_Flip.bits6 : waitsOk paste_Flip.T6.2 paste_Flip.B6 = true := by kernel_rfl
set_option maxHeartbeats 8000000 in
set_option maxRecDepth 100000 in
theorem paste_Flip.calls (k : Nat) (a0 : ByteArray) (a1 : Int) (a2 : Int) (r1 : ByteArray) (r2 : Int) (r3 : Int) (w : World) (h : paste_Flip.f k a0 a1 a2 = some (r1, r2, r3)) :
    Calls Tryd.prog 12 #[.string a0, .int .i64 a1, .int .i64 a2] w fun e w' => e = .returned (.tuple #[.string r1, .int .i64 r2, .int .i64 r3]) ∧ Below w.heap.size w w' := by
  have HB := Aside0.mk (Below.refl w.heap.size w)
  have H : ((utf_Place.f a0 a1).bind fun t207 => (if t207 = true then ((paste_stop.f a0 a1).bind fun t208 => (if t208 = true then (some ((⟨#[]⟩ : ByteArray), 0, 10)) else ((paste_behind.f k a0 a1 (mx a2 1)).bind fun bt209 => (if 0 ≤ a1 then (if a1 ≤ (a0.size : Int) then (if a1 ≤ bt209.1 then (if bt209.1 ≤ (a0.size : Int) then ((class_Flip.f (a0.extract (a1 : Int).toNat (bt209.1 : Int).toNat)).bind fun t211 => (if (a0.extract 0 (a1 : Int).toNat).size + t211.size ≤ 9223372036854775807 then (if 0 ≤ bt209.1 then (if ((a0.extract 0 (a1 : Int).toNat) ++ t211).size + (a0.extract (bt209.1 : Int).toNat a0.size).size ≤ 9223372036854775807 then ((line_Clamp.f (((a0.extract 0 (a1 : Int).toNat) ++ t211) ++ (a0.extract (bt209.1 : Int).toNat a0.size)) bt209.1).bind fun t212 => (some (((a0.extract 0 (a1 : Int).toNat) ++ t211) ++ (a0.extract (bt209.1 : Int).toNat a0.size), t212, 0))) else (none)) else (none)) else (none))) else (none)) else (none)) else (none)) else (none))))) else (some ((⟨#[]⟩ : ByteArray), 0, 1)))) = some (r1, r2, r3) := h
  clear h
  replace H := Option.bind_eq_some_iff.mp H
  obtain ⟨t207, A40, H⟩ := H
  replace H : (if t207 = true then ((paste_stop.f a0 a1).bind fun t208 => (if t208 = true then (some ((⟨#[]⟩ : ByteArray), 0, 10)) else ((paste_behind.f k a0 a1 (mx a2 1)).bind fun bt209 => (if 0 ≤ a1 then (if a1 ≤ (a0.size : Int) then (if a1 ≤ bt209.1 then (if bt209.1 ≤ (a0.size : Int) then ((class_Flip.f (a0.extract (a1 : Int).toNat (bt209.1 : Int).toNat)).bind fun t211 => (if (a0.extract 0 (a1 : Int).toNat).size + t211.size ≤ 9223372036854775807 then (if 0 ≤ bt209.1 then (if ((a0.extract 0 (a1 : Int).toNat) ++ t211).size + (a0.extract (bt209.1 : Int).toNat a0.size).size ≤ 9223372036854775807 then ((line_Clamp.f (((a0.extract 0 (a1 : Int).toNat) ++ t211) ++ (a0.extract (bt209.1 : Int).toNat a0.size)) bt209.1).bind fun t212 => (some (((a0.extract 0 (a1 : Int).toNat) ++ t211) ++ (a0.extract (bt209.1 : Int).toNat a0.size), t212, 0))) else (none)) else (none)) else (none))) else (none)) else (none)) else (none)) else (none))))) else (some ((⟨#[]⟩ : ByteArray), 0, 1))) = some (r1, r2, r3) := H
  have A4 := Aside0.mk A40
  clear A40
  by_cases c5 : t207 = true
  · subst c5
    have H1 : ((paste_stop.f a0 a1).bind fun t208 => (if t208 = true then (some ((⟨#[]⟩ : ByteArray), 0, 10)) else ((paste_behind.f k a0 a1 (mx a2 1)).bind fun bt209 => (if 0 ≤ a1 then (if a1 ≤ (a0.size : Int) then (if a1 ≤ bt209.1 then (if bt209.1 ≤ (a0.size : Int) then ((class_Flip.f (a0.extract (a1 : Int).toNat (bt209.1 : Int).toNat)).bind fun t211 => (if (a0.extract 0 (a1 : Int).toNat).size + t211.size ≤ 9223372036854775807 then (if 0 ≤ bt209.1 then (if ((a0.extract 0 (a1 : Int).toNat) ++ t211).size + (a0.extract (bt209.1 : Int).toNat a0.size).size ≤ 9223372036854775807 then ((line_Clamp.f (((a0.extract 0 (a1 : Int).toNat) ++ t211) ++ (a0.extract (bt209.1 : Int).toNat a0.size)) bt209.1).bind fun t212 => (some (((a0.extract 0 (a1 : Int).toNat) ++ t211) ++ (a0.extract (bt209.1 : Int).toNat a0.size), t212, 0))) else (none)) else (none)) else (none))) else (none)) else (none)) else (none)) else (none))))) = some (r1, r2, r3) := by rw [if_pos rfl] at H; exact H
    clear H
    have H := H1
    clear H1
    replace H := Option.bind_eq_some_iff.mp H
    obtain ⟨t208, A60, H⟩ := H
    replace H : (if t208 = true then (some ((⟨#[]⟩ : ByteArray), 0, 10)) else ((paste_behind.f k a0 a1 (mx a2 1)).bind fun bt209 => (if 0 ≤ a1 then (if a1 ≤ (a0.size : Int) then (if a1 ≤ bt209.1 then (if bt209.1 ≤ (a0.size : Int) then ((class_Flip.f (a0.extract (a1 : Int).toNat (bt209.1 : Int).toNat)).bind fun t211 => (if (a0.extract 0 (a1 : Int).toNat).size + t211.size ≤ 9223372036854775807 then (if 0 ≤ bt209.1 then (if ((a0.extract 0 (a1 : Int).toNat) ++ t211).size + (a0.extract (bt209.1 : Int).toNat a0.size).size ≤ 9223372036854775807 then ((line_Clamp.f (((a0.extract 0 (a1 : Int).toNat) ++ t211) ++ (a0.extract (bt209.1 : Int).toNat a0.size)) bt209.1).bind fun t212 => (some (((a0.extract 0 (a1 : Int).toNat) ++ t211) ++ (a0.extract (bt209.1 : Int).toNat a0.size), t212, 0))) else (none)) else (none)) else (none))) else (none)) else (none)) else (none)) else (none)))) = some (r1, r2, r3) := H
    have A6 := Aside0.mk A60
    clear A60
    by_cases c7 : t208 = true
    · subst c7
      have H1 : (some ((⟨#[]⟩ : ByteArray), 0, 10)) = some (r1, r2, r3) := by rw [if_pos rfl] at H; exact H
      clear H
      have H := H1
      clear H1
      simp only [Option.some.injEq, Prod.mk.injEq] at H
      obtain ⟨rfl, rfl, rfl⟩ := H
      go_enter Tryd.func12, Tryd.ntmps12
      go_wp2_with (first | ((with_reducible refine gate_callee (f := 19) rfl ?_); refine goesL_ (some 14) rfl rfl Tryd.func19 (by kernel_rfl) rfl #[.string a0, .int .i64 a1] rfl (by (try simp only [List.map_toArray, List.map_cons, List.map_nil]); first | done | rfl | (simp only [List.length_drop, List.length_take]; rfl)) ?_; (with_reducible refine (utf_Place.calls a0 a1 true _ A4.out).mono ?_); rintro e w8 ⟨rfl, hb⟩; refine ⟨_, rfl, ?_⟩; have n0_ := Aside0.mk (below_step (by repeat (first | (with_reducible first | exact HB.out | apply below_alloc | apply pw_below_drewN | apply below_drew1) | exact HB.out)) hb); clear HB; have HB := n0_; clear n0_; (try clear hb); (try clear hb2); (try clear hk); (try clear hi)) | ((with_reducible refine gate_callee (f := 24) rfl ?_); refine goesL_ (some 18) rfl rfl Tryd.func24 (by kernel_rfl) rfl #[.string a0, .int .i64 a1] rfl (by (try simp only [List.map_toArray, List.map_cons, List.map_nil]); first | done | rfl | (simp only [List.length_drop, List.length_take]; rfl)) ?_; (with_reducible refine (paste_stop.calls a0 a1 true _ A6.out).mono ?_); rintro e w' ⟨rfl, ⟨nd, rfl⟩⟩; refine ⟨_, rfl, ?_⟩))
      go_ret3
      exact ⟨by first | rfl | (simp [errW_none, errW_some] <;> rfl) | (simp [*, errW_none, errW_some] <;> rfl), by repeat (first | (with_reducible first | exact HB.out | apply below_alloc | apply pw_below_drewN | apply below_drew1) | exact HB.out)⟩
    · replace c7 := Bool.eq_false_iff.mpr c7
      subst c7
      have H1 : ((paste_behind.f k a0 a1 (mx a2 1)).bind fun bt209 => (if 0 ≤ a1 then (if a1 ≤ (a0.size : Int) then (if a1 ≤ bt209.1 then (if bt209.1 ≤ (a0.size : Int) then ((class_Flip.f (a0.extract (a1 : Int).toNat (bt209.1 : Int).toNat)).bind fun t211 => (if (a0.extract 0 (a1 : Int).toNat).size + t211.size ≤ 9223372036854775807 then (if 0 ≤ bt209.1 then (if ((a0.extract 0 (a1 : Int).toNat) ++ t211).size + (a0.extract (bt209.1 : Int).toNat a0.size).size ≤ 9223372036854775807 then ((line_Clamp.f (((a0.extract 0 (a1 : Int).toNat) ++ t211) ++ (a0.extract (bt209.1 : Int).toNat a0.size)) bt209.1).bind fun t212 => (some (((a0.extract 0 (a1 : Int).toNat) ++ t211) ++ (a0.extract (bt209.1 : Int).toNat a0.size), t212, 0))) else (none)) else (none)) else (none))) else (none)) else (none)) else (none)) else (none))) = some (r1, r2, r3) := by rw [if_neg (show ¬ (false = true) by decide)] at H; exact H
      clear H
      have H := H1
      clear H1
      obtain ⟨ji9, hji9⟩ : ∃ j_ : Int, (mx a2 1) = j_ := ⟨_, rfl⟩
      replace H : ((paste_behind.f k a0 a1 (ji9)).bind fun bt209 => (if 0 ≤ a1 then (if a1 ≤ (a0.size : Int) then (if a1 ≤ bt209.1 then (if bt209.1 ≤ (a0.size : Int) then ((class_Flip.f (a0.extract (a1 : Int).toNat (bt209.1 : Int).toNat)).bind fun t211 => (if (a0.extract 0 (a1 : Int).toNat).size + t211.size ≤ 9223372036854775807 then (if 0 ≤ bt209.1 then (if ((a0.extract 0 (a1 : Int).toNat) ++ t211).size + (a0.extract (bt209.1 : Int).toNat a0.size).size ≤ 9223372036854775807 then ((line_Clamp.f (((a0.extract 0 (a1 : Int).toNat) ++ t211) ++ (a0.extract (bt209.1 : Int).toNat a0.size)) bt209.1).bind fun t212 => (some (((a0.extract 0 (a1 : Int).toNat) ++ t211) ++ (a0.extract (bt209.1 : Int).toNat a0.size), t212, 0))) else (none)) else (none)) else (none))) else (none)) else (none)) else (none)) else (none))) = some (r1, r2, r3) := by first | (rw [hji9] at H; exact H) | (simp only [hji9] at H ⊢; exact H)
      (try rw [hji9] at A4)
      (try rw [hji9] at A6)
      (try (have hji9l : 1 ≤ ji9 := by (rw [← hji9]; unfold mx; (repeat' split) <;> omega)))
      (try (have hji9m : 0 ≤ ji9 := by omega))
      have hji9_ : (if a2 < 1 then 1 else a2) = ji9 := hji9
      replace H := Option.bind_eq_some_iff.mp H
      obtain ⟨⟨t209, t210⟩, A100, H⟩ := H
      replace H : (if 0 ≤ a1 then (if a1 ≤ (a0.size : Int) then (if a1 ≤ t209 then (if t209 ≤ (a0.size : Int) then ((class_Flip.f (a0.extract (a1 : Int).toNat (t209 : Int).toNat)).bind fun t211 => (if (a0.extract 0 (a1 : Int).toNat).size + t211.size ≤ 9223372036854775807 then (if 0 ≤ t209 then (if ((a0.extract 0 (a1 : Int).toNat) ++ t211).size + (a0.extract (t209 : Int).toNat a0.size).size ≤ 9223372036854775807 then ((line_Clamp.f (((a0.extract 0 (a1 : Int).toNat) ++ t211) ++ (a0.extract (t209 : Int).toNat a0.size)) t209).bind fun t212 => (some (((a0.extract 0 (a1 : Int).toNat) ++ t211) ++ (a0.extract (t209 : Int).toNat a0.size), t212, 0))) else (none)) else (none)) else (none))) else (none)) else (none)) else (none)) else (none)) = some (r1, r2, r3) := H
      have A10 := Aside0.mk A100
      clear A100
      by_cases c11 : 0 ≤ a1
      · rw [if_pos c11] at H
        have c11b0 := eq_true c11
        have c11b1 : decide (0 ≤ a1) = true := decide_eq_true c11
        clear c11
        by_cases c12 : a1 ≤ (a0.size : Int)
        · rw [if_pos c12] at H
          have c12b0 := eq_true c12
          have c12b1 : decide (a1 ≤ (a0.size : Int)) = true := decide_eq_true c12
          clear c12
          have c13b0 := eq_true (of_decide_eq_true (by first | (with_reducible assumption) | assumption) : 0 ≤ a1)
          by_cases c14 : a1 ≤ t209
          · rw [if_pos c14] at H
            have c14b0 := eq_true c14
            have c14b1 : decide (a1 ≤ t209) = true := decide_eq_true c14
            clear c14
            by_cases c15 : t209 ≤ (a0.size : Int)
            · rw [if_pos c15] at H
              have c15b0 := eq_true c15
              have c15b1 : decide (t209 ≤ (a0.size : Int)) = true := decide_eq_true c15
              clear c15
              replace H := Option.bind_eq_some_iff.mp H
              obtain ⟨t211, A160, H⟩ := H
              replace H : (if (a0.extract 0 (a1 : Int).toNat).size + t211.size ≤ 9223372036854775807 then (if 0 ≤ t209 then (if ((a0.extract 0 (a1 : Int).toNat) ++ t211).size + (a0.extract (t209 : Int).toNat a0.size).size ≤ 9223372036854775807 then ((line_Clamp.f (((a0.extract 0 (a1 : Int).toNat) ++ t211) ++ (a0.extract (t209 : Int).toNat a0.size)) t209).bind fun t212 => (some (((a0.extract 0 (a1 : Int).toNat) ++ t211) ++ (a0.extract (t209 : Int).toNat a0.size), t212, 0))) else (none)) else (none)) else (none)) = some (r1, r2, r3) := H
              have A16 := Aside0.mk A160
              clear A160
              by_cases c17 : (a0.extract 0 (a1 : Int).toNat).size + t211.size ≤ 9223372036854775807
              · rw [if_pos c17] at H
                have c17b0 := eq_true c17
                have c17b1 : decide ((a0.extract 0 (a1 : Int).toNat).size + t211.size ≤ 9223372036854775807) = true := decide_eq_true c17
                try have c17b2 : (9223372036854775807 < (a0.extract 0 (a1 : Int).toNat).size + t211.size) = False := eq_false (Nat.not_lt.2 c17)
                try have c17b3 : (9223372036854775807 < a1.toNat + t211.size) = False := eq_false (Nat.not_lt.2 (by have q := c17; simp only [ByteArray.size_append, ByteArray.size_extract] at q; have q0 : (a1 : Int) ≤ (a0.size : Int) := of_decide_eq_true (by assumption); have p0 : (0 : Int) ≤ a1 := of_decide_eq_true (by assumption); omega))
                by_cases c18 : 0 ≤ t209
                · rw [if_pos c18] at H
                  have c18b0 := eq_true c18
                  have c18b1 : decide (0 ≤ t209) = true := decide_eq_true c18
                  clear c18
                  have c19b0 := eq_true (of_decide_eq_true (by first | (with_reducible assumption) | assumption) : t209 ≤ (a0.size : Int))
                  by_cases c20 : ((a0.extract 0 (a1 : Int).toNat) ++ t211).size + (a0.extract (t209 : Int).toNat a0.size).size ≤ 9223372036854775807
                  · rw [if_pos c20] at H
                    have c20b0 := eq_true c20
                    have c20b1 : decide (((a0.extract 0 (a1 : Int).toNat) ++ t211).size + (a0.extract (t209 : Int).toNat a0.size).size ≤ 9223372036854775807) = true := decide_eq_true c20
                    try have c20b2 : (9223372036854775807 < ((a0.extract 0 (a1 : Int).toNat) ++ t211).size + (a0.extract (t209 : Int).toNat a0.size).size) = False := eq_false (Nat.not_lt.2 c20)
                    try have c20b3 : (9223372036854775807 < a1.toNat + t211.size + (a0.size - t209.toNat)) = False := eq_false (Nat.not_lt.2 (by have q := c20; simp only [ByteArray.size_append, ByteArray.size_extract] at q; have q0 : (a1 : Int) ≤ (a0.size : Int) := of_decide_eq_true (by assumption); have p0 : (0 : Int) ≤ a1 := of_decide_eq_true (by assumption); have q1 : (t209 : Int) ≤ (a0.size : Int) := of_decide_eq_true (by assumption); have p1 : (0 : Int) ≤ t209 := of_decide_eq_true (by assumption); omega))
                    replace H := Option.bind_eq_some_iff.mp H
                    obtain ⟨t212, A210, H⟩ := H
                    replace H : (some (((a0.extract 0 (a1 : Int).toNat) ++ t211) ++ (a0.extract (t209 : Int).toNat a0.size), t212, 0)) = some (r1, r2, r3) := H
                    have A21 := Aside0.mk A210
                    clear A210
                    simp only [Option.some.injEq, Prod.mk.injEq] at H
                    obtain ⟨rfl, rfl, rfl⟩ := H
                    go_enter Tryd.func12, Tryd.ntmps12
                    try go_wp2_with (first | ((with_reducible refine gate_callee (f := 19) rfl ?_); refine goesL_ (some 14) rfl rfl Tryd.func19 (by kernel_rfl) rfl #[.string a0, .int .i64 a1] rfl (by (try simp only [List.map_toArray, List.map_cons, List.map_nil]); first | done | rfl | (simp only [List.length_drop, List.length_take]; rfl)) ?_; (with_reducible refine (utf_Place.calls a0 a1 true _ A4.out).mono ?_); rintro e w22 ⟨rfl, hb⟩; refine ⟨_, rfl, ?_⟩; have n0_ := Aside0.mk (below_step (by repeat (first | (with_reducible first | exact HB.out | apply below_alloc | apply pw_below_drewN | apply below_drew1) | exact HB.out)) hb); clear HB; have HB := n0_; clear n0_; (try clear hb); (try clear hb2); (try clear hk); (try clear hi)) | ((with_reducible refine gate_callee (f := 24) rfl ?_); refine goesL_ (some 18) rfl rfl Tryd.func24 (by kernel_rfl) rfl #[.string a0, .int .i64 a1] rfl (by (try simp only [List.map_toArray, List.map_cons, List.map_nil]); first | done | rfl | (simp only [List.length_drop, List.length_take]; rfl)) ?_; (with_reducible refine (paste_stop.calls a0 a1 false _ A6.out).mono ?_); rintro e w' ⟨rfl, ⟨nd, rfl⟩⟩; refine ⟨_, rfl, ?_⟩) | ((with_reducible refine gate_callee (f := 46) rfl ?_); refine goesL_ (some 24) rfl rfl Tryd.func46 (by kernel_rfl) rfl #[.string a0, .int .i64 a1, .int .i64 ji9] rfl (by (try simp only [List.map_toArray, List.map_cons, List.map_nil]); first | done | (simp only [hji9]; rfl) | rfl | (simp only [List.length_drop, List.length_take]; rfl)) ?_; (with_reducible refine (paste_behind.calls k a0 a1 ji9 t209 t210 _ A10.out).mono ?_); rintro e w23 ⟨rfl, hb⟩; refine ⟨_, rfl, ?_⟩; have n0_ := Aside0.mk (below_step (by repeat (first | (with_reducible first | exact HB.out | apply below_alloc | apply pw_below_drewN | apply below_drew1) | exact HB.out)) hb); clear HB; have HB := n0_; clear n0_; (try clear hb); (try clear hb2); (try clear hk); (try clear hi)))
                    have n0_ := Aside0.mk (below_drew1 HB.out)
                    clear HB
                    have HB := n0_
                    clear n0_
                    refine start_ (n := 14) (S := fun w' => True) (ds := []) #[false, false, false, false, false, false, false, false, false, false, false, false, false, false] (by kernel_rfl) rfl rfl trivial (fun hHeld => ?_); refine with_tabW paste_Flip.tab6 paste_Flip.bits6 (fun HT_ HW_ => ?_)
                    generalize w23.drew = w24 at HB hHeld ⊢
                    refine pure_ (i := 0) (N := some 27) (v := ?_) (a' := ?_) #[true, false, false, false, false, false, false, false, false, false, false, false, false, false] rfl rfl (any_of HT_.out (by kernel_rfl)) (fun _ _ _ h => h) (Or.inl ⟨by rfl, ?_⟩) ?_ ?_
                    rotate_left
                    · intro w'
                      go_simp
                      with_reducible rfl
                    rotate_left
                    · simp only [Act.put, List.setIfInBounds_toArray, List.set_cons_zero, List.set_cons_succ, i64_w, i32_w]
                      rfl
                    refine pure_ (i := 1) (N := some 28) (v := ?_) (a' := ?_) #[true, true, false, false, false, false, false, false, false, false, false, false, false, false] rfl rfl (any_of HT_.out (by kernel_rfl)) (fun _ _ _ h => h) (Or.inl ⟨by rfl, ?_⟩) ?_ ?_
                    rotate_left
                    · intro w'
                      go_simp
                      with_reducible rfl
                    rotate_left
                    · simp only [Act.put, List.setIfInBounds_toArray, List.set_cons_zero, List.set_cons_succ, i64_w, i32_w]
                      rfl
                    refine pure_ (i := 2) (N := some 29) (v := ?_) (a' := ?_) #[true, true, true, false, false, false, false, false, false, false, false, false, false, false] rfl rfl (any_of HT_.out (by kernel_rfl)) (fun _ _ _ h => h) (Or.inl ⟨by rfl, ?_⟩) ?_ ?_
                    rotate_left
                    · intro w'
                      go_simp
                      with_reducible rfl
                    rotate_left
                    · simp only [Act.put, List.setIfInBounds_toArray, List.set_cons_zero, List.set_cons_succ, i64_w, i32_w]
                      rfl
                    refine pure_ (i := 3) (N := some 30) (v := ?_) (a' := ?_) #[true, true, true, true, false, false, false, false, false, false, false, false, false, false] rfl rfl (any_of HT_.out (by kernel_rfl)) (fun _ _ _ h => h) (Or.inl ⟨by rfl, ?_⟩) ?_ ?_
                    rotate_left
                    · intro w'
                      go_simp
                      with_reducible rfl
                    rotate_left
                    · simp only [Act.put, List.setIfInBounds_toArray, List.set_cons_zero, List.set_cons_succ, i64_w, i32_w]
                      rfl
                    refine pure_ (i := 4) (N := some 31) (v := ?_) (a' := ?_) #[true, true, true, true, true, false, false, false, false, false, false, false, false, false] rfl rfl (any_of HT_.out (by kernel_rfl)) (fun _ _ _ h => h) (Or.inl ⟨by rfl, ?_⟩) ?_ ?_
                    rotate_left
                    · intro w'
                      go_simp
                      with_reducible rfl
                    rotate_left
                    · simp only [Act.put, List.setIfInBounds_toArray, List.set_cons_zero, List.set_cons_succ, i64_w, i32_w]
                      rfl
                    refine pure_ (i := 5) (N := some 32) (v := ?_) (a' := ?_) #[true, true, true, true, true, true, false, false, false, false, false, false, false, false] rfl rfl (any_of HT_.out (by kernel_rfl)) (fun _ _ _ h => h) (Or.inl ⟨by rfl, ?_⟩) ?_ ?_
                    rotate_left
                    · intro w'
                      go_simp
                      with_reducible rfl
                    rotate_left
                    · simp only [Act.put, List.setIfInBounds_toArray, List.set_cons_zero, List.set_cons_succ, i64_w, i32_w]
                      rfl
                    refine pure_ (i := 6) (N := some 33) (v := ?_) (a' := ?_) #[true, true, true, true, true, true, true, false, false, false, false, false, false, false] rfl rfl (any_of HT_.out (by kernel_rfl)) (fun _ _ _ h => h) (Or.inl ⟨by rfl, ?_⟩) ?_ ?_
                    rotate_left
                    · intro w'
                      go_simp
                      with_reducible rfl
                    rotate_left
                    · simp only [Act.put, List.setIfInBounds_toArray, List.set_cons_zero, List.set_cons_succ, i64_w, i32_w]
                      rfl
                    refine pure_ (i := 9) (N := some 36) (v := ?_) (a' := ?_) #[true, true, true, true, true, true, true, false, false, true, false, false, false, false] rfl rfl (any_of HT_.out (by kernel_rfl)) (fun _ _ _ h => h) (Or.inl ⟨by rfl, ?_⟩) ?_ ?_
                    rotate_left
                    · intro w'
                      go_simp
                      with_reducible rfl
                    rotate_left
                    · simp only [Act.put, List.setIfInBounds_toArray, List.set_cons_zero, List.set_cons_succ, i64_w, i32_w]
                      rfl
                    refine pure_ (i := 10) (N := some 37) (v := ?_) (a' := ?_) #[true, true, true, true, true, true, true, false, false, true, true, false, false, false] rfl rfl (any_of HT_.out (by kernel_rfl)) (fun _ _ _ h => h) (Or.inl ⟨by rfl, ?_⟩) ?_ ?_
                    rotate_left
                    · intro w'
                      go_simp
                      with_reducible rfl
                    rotate_left
                    · simp only [Act.put, List.setIfInBounds_toArray, List.set_cons_zero, List.set_cons_succ, i64_w, i32_w]
                      rfl
                    refine pure_ (i := 11) (N := some 38) (v := ?_) (a' := ?_) #[true, true, true, true, true, true, true, false, false, true, true, true, false, false] rfl rfl (any_of HT_.out (by kernel_rfl)) (fun _ _ _ h => h) (Or.inl ⟨by rfl, ?_⟩) ?_ ?_
                    rotate_left
                    · intro w'
                      go_simp
                      with_reducible rfl
                    rotate_left
                    · simp only [Act.put, List.setIfInBounds_toArray, List.set_cons_zero, List.set_cons_succ, i64_w, i32_w]
                      rfl
                    refine one_ (i := 7) (N := some 34) #[true, true, true, true, true, true, true, true, false, true, true, true, false, false] rfl rfl (one_of HT_.out (by kernel_rfl)) (by decide) (fun K hK => ?_)
                    refine goes_ Tryd.func47 (by kernel_rfl) rfl #[.string (a0.extract (a1 : Int).toNat (t209 : Int).toNat)] (by rfl) rfl rfl (by (try simp only [List.map_toArray, List.map_cons, List.map_nil]); first | done | rfl | (simp only [List.length_drop, List.length_take]; rfl)) ?_
                    with_reducible refine (class_Flip.calls (a0.extract (a1 : Int).toNat (t209 : Int).toNat) t211 _ A16.out).mono ?_
                    rintro e w25 ⟨rfl, hb⟩
                    refine ⟨_, rfl, ?_⟩
                    have n0_ := Aside0.mk (below_step (by repeat (first | (with_reducible first | exact HB.out | apply below_alloc | apply pw_below_drewN | apply below_drew1) | exact HB.out)) hb)
                    clear HB
                    have HB := n0_
                    clear n0_
                    (try clear hb)
                    (try clear hb2)
                    (try clear hk)
                    (try clear hi)
                    refine hK.out _ _ trivial (fun hHeld => ?_)
                    clear hK K
                    refine norm_ (a' := ?_) ?_ ?_
                    rotate_left
                    · show Act.put _ (some 34) _ = _
                      simp only [Act.put, List.setIfInBounds_toArray, List.set_cons_zero, List.set_cons_succ, i64_w, i32_w]
                      rfl
                    refine pure_ (i := 8) (N := some 35) (v := ?_) (a' := ?_) #[true, true, true, true, true, true, true, true, true, true, true, true, false, false] rfl rfl (any_of HT_.out (by kernel_rfl)) (fun _ _ _ h => h) (Or.inl ⟨by rfl, ?_⟩) ?_ ?_
                    rotate_left
                    · intro w'
                      go_simp
                      with_reducible rfl
                    rotate_left
                    · simp only [Act.put, List.setIfInBounds_toArray, List.set_cons_zero, List.set_cons_succ, i64_w, i32_w]
                      rfl
                    refine pure_ (i := 12) (N := some 39) (v := ?_) (a' := ?_) #[true, true, true, true, true, true, true, true, true, true, true, true, true, false] rfl rfl (any_of HT_.out (by kernel_rfl)) (fun _ _ _ h => h) (Or.inl ⟨by rfl, ?_⟩) ?_ ?_
                    rotate_left
                    · intro w'
                      go_simp
                      with_reducible rfl
                    rotate_left
                    · simp only [Act.put, List.setIfInBounds_toArray, List.set_cons_zero, List.set_cons_succ, i64_w, i32_w]
                      rfl
                    refine pure_ (i := 13) (N := some 11) (v := ?_) (a' := ?_) #[true, true, true, true, true, true, true, true, true, true, true, true, true, true] rfl rfl (any_of HT_.out (by kernel_rfl)) (fun _ _ _ h => h) (Or.inl ⟨by rfl, ?_⟩) ?_ ?_
                    rotate_left
                    · intro w'
                      go_simp
                      with_reducible rfl
                    rotate_left
                    · simp only [Act.put, List.setIfInBounds_toArray, List.set_cons_zero, List.set_cons_succ, i64_w, i32_w]
                      rfl
                    refine done_ (done_of HT_.out (by kernel_rfl)) ?_
                    try go_wp2_with (first | ((with_reducible refine gate_callee (f := 28) rfl ?_); refine goesL_ (some 43) rfl rfl Tryd.func28 (by kernel_rfl) rfl #[.string (((a0.extract 0 (a1 : Int).toNat) ++ t211) ++ (a0.extract (t209 : Int).toNat a0.size)), .int .i64 t209] rfl (by (try simp only [List.map_toArray, List.map_cons, List.map_nil]); first | done | rfl | (simp only [List.length_drop, List.length_take]; rfl)) ?_; (with_reducible refine (line_Clamp.calls (((a0.extract 0 (a1 : Int).toNat) ++ t211) ++ (a0.extract (t209 : Int).toNat a0.size)) t209 t212 _ A21.out).mono ?_); rintro e w26 ⟨rfl, hb⟩; refine ⟨_, rfl, ?_⟩; have n0_ := Aside0.mk (below_step (by repeat (first | (with_reducible first | exact HB.out | apply below_alloc | apply pw_below_drewN | apply below_drew1) | exact HB.out)) hb); clear HB; have HB := n0_; clear n0_; (try clear hb); (try clear hb2); (try clear hk); (try clear hi)))
                    go_ret3
                    exact ⟨by first | rfl | (simp [errW_none, errW_some] <;> rfl) | (simp only [← hji9]; first | rfl | (simp [errW_none, errW_some] <;> rfl)) | (simp [*, errW_none, errW_some] <;> rfl), by repeat (first | (with_reducible first | exact HB.out | apply below_alloc | apply pw_below_drewN | apply below_drew1) | exact HB.out)⟩
                  · rw [if_neg c20] at H
                    exact absurd H (by simp)
                · rw [if_neg c18] at H
                  exact absurd H (by simp)
              · rw [if_neg c17] at H
                exact absurd H (by simp)
            · rw [if_neg c15] at H
              exact absurd H (by simp)
          · rw [if_neg c14] at H
            exact absurd H (by simp)
        · rw [if_neg c12] at H
          exact absurd H (by simp)
      · rw [if_neg c11] at H
        exact absurd H (by simp)
  · replace c5 := Bool.eq_false_iff.mpr c5
    subst c5
    have H1 : (some ((⟨#[]⟩ : ByteArray), 0, 1)) = some (r1, r2, r3) := by rw [if_neg (show ¬ (false = true) by decide)] at H; exact H
    clear H
    have H := H1
    clear H1
    simp only [Option.some.injEq, Prod.mk.injEq] at H
    obtain ⟨rfl, rfl, rfl⟩ := H
    go_enter Tryd.func12, Tryd.ntmps12
    go_wp2_with (first | ((with_reducible refine gate_callee (f := 19) rfl ?_); refine goesL_ (some 14) rfl rfl Tryd.func19 (by kernel_rfl) rfl #[.string a0, .int .i64 a1] rfl (by (try simp only [List.map_toArray, List.map_cons, List.map_nil]); first | done | rfl | (simp only [List.length_drop, List.length_take]; rfl)) ?_; (with_reducible refine (utf_Place.calls a0 a1 false _ A4.out).mono ?_); rintro e w27 ⟨rfl, hb⟩; refine ⟨_, rfl, ?_⟩; have n0_ := Aside0.mk (below_step (by repeat (first | (with_reducible first | exact HB.out | apply below_alloc | apply pw_below_drewN | apply below_drew1) | exact HB.out)) hb); clear HB; have HB := n0_; clear n0_; (try clear hb); (try clear hb2); (try clear hk); (try clear hi)))
    go_ret3
    exact ⟨by first | rfl | (simp [errW_none, errW_some] <;> rfl) | (simp [*, errW_none, errW_some] <;> rfl), by repeat (first | (with_reducible first | exact HB.out | apply below_alloc | apply pw_below_drewN | apply below_drew1) | exact HB.out)⟩

/-! ### calamusref05_swap -/
def calamusref05_swap.l0 : Nat → ByteArray → ByteArray → ByteArray → ByteArray → Int → Option (ByteArray)
  | 0, _, _, _, _, _ => none
  | k + 1, x0, x1, x2, x7, x8 => if x8 < (x0.size : Int) then (if 0 ≤ x8 then ((calamusref05_in.f x1 (bt x0 x8)).bind fun t218 => (if t218 ≥ 0 then (if 0 ≤ t218 then (if t218 ≤ (wrap64 (t218 + 1)) then (if (wrap64 (t218 + 1)) ≤ (x2.size : Int) then (if x7.size + (x2.extract (t218 : Int).toNat ((wrap64 (t218 + 1)) : Int).toNat).size ≤ 9223372036854775807 then (calamusref05_swap.l0 k x0 x1 x2 (x7 ++ (x2.extract (t218 : Int).toNat ((wrap64 (t218 + 1)) : Int).toNat)) (wrap64 (x8 + 1))) else (none)) else (none)) else (none)) else (none)) else (if x8 ≤ (wrap64 (x8 + 1)) then (if (wrap64 (x8 + 1)) ≤ (x0.size : Int) then (if x7.size + (x0.extract (x8 : Int).toNat ((wrap64 (x8 + 1)) : Int).toNat).size ≤ 9223372036854775807 then (calamusref05_swap.l0 k x0 x1 x2 (x7 ++ (x0.extract (x8 : Int).toNat ((wrap64 (x8 + 1)) : Int).toNat)) (wrap64 (x8 + 1))) else (none)) else (none)) else (none)))) else (none)) else (some x7)
def calamusref05_swap.f (k : Nat) (a0 : ByteArray) (a1 : ByteArray) (a2 : ByteArray) : Option (ByteArray) := calamusref05_swap.l0 k a0 a1 a2 (⟨#[]⟩ : ByteArray) 0
theorem calamusref05_swap.mono_l : ∀ k, (∀ y0 y1 y2 y3 y4, LeO (calamusref05_swap.l0 k y0 y1 y2 y3 y4) (calamusref05_swap.l0 (k + 1) y0 y1 y2 y3 y4))
  | 0 => fun _ _ _ _ _ r h => by simp [calamusref05_swap.l0] at h
  | k + 1 => by
    have ih0 := calamusref05_swap.mono_l k
    · intro y0 y1 y2 y3 y4
      unfold calamusref05_swap.l0
      repeat' first
      | (with_reducible exact ih0 _ _ _ _ _)
      | (with_reducible exact LeO.refl _)
      | (with_reducible exact LeO.none _)
      | (with_reducible refine LeO.ite ?_ ?_)
      | (with_reducible refine LeO.bind ?_ (fun _ => ?_))
      | exact ih0 _ _ _ _ _
      | exact LeO.none _
      | refine LeO.ite ?_ ?_
      | refine LeO.bind ?_ (fun _ => ?_)
theorem calamusref05_swap.mono : ∀ a0 a1 a2 k, LeO (calamusref05_swap.f k a0 a1 a2) (calamusref05_swap.f (k + 1) a0 a1 a2) := by
  intro a0 a1 a2 k
  have ih0 := calamusref05_swap.mono_l k
  unfold calamusref05_swap.f
  repeat' first
      | (with_reducible exact ih0 _ _ _ _ _)
      | (with_reducible exact LeO.refl _)
      | (with_reducible exact LeO.none _)
      | (with_reducible refine LeO.ite ?_ ?_)
      | (with_reducible refine LeO.bind ?_ (fun _ => ?_))
      | exact ih0 _ _ _ _ _
      | exact LeO.none _
      | refine LeO.ite ?_ ?_
      | refine LeO.bind ?_ (fun _ => ?_)
set_option maxHeartbeats 8000000 in
set_option maxRecDepth 100000 in
theorem calamusref05_swap.calls (k : Nat) (a0 : ByteArray) (a1 : ByteArray) (a2 : ByteArray) (r : ByteArray) (w : World) (h : calamusref05_swap.f k a0 a1 a2 = some r) :
    Calls Tryd.prog 69 #[.string a0, .string a1, .string a2] w fun e w' => e = .returned (.string r) ∧ Below w.heap.size w w' := by
  have HB := Aside0.mk (Below.refl w.heap.size w)
  have H : (calamusref05_swap.l0 k a0 a1 a2 (⟨#[]⟩ : ByteArray) 0) = some r := h
  clear h
  have H' := Aside0.mk H
  clear H
  go_enter Tryd.func69, Tryd.ntmps69
  go_wp2
  go_loopg [7, 8] k (fun kq v7 v8 w' => ∃ (x7_1 : ByteArray) (x8_1 : Int), v7 = .string x7_1 ∧ v8 = .int .i64 x8_1 ∧ Aside0 (calamusref05_swap.l0 kq a0 a1 a2 x7_1 x8_1 = some r) ∧ Aside0 (kq ≤ k) ∧ Aside0 (Below w.heap.size w w'))
  case atStart => exact ⟨((⟨#[]⟩ : ByteArray)), (0), (by first | rfl | (simp; done) | (simp [*]; done)), (by first | rfl | (simp; done) | (simp [*]; done)), H', ⟨Nat.le_refl _⟩, ⟨by repeat (first | (with_reducible first | exact HB.out | apply below_alloc | apply pw_below_drewN | apply below_drew1) | exact HB.out)⟩⟩
  case round =>
    clear H'
    try clear p2
    obtain ⟨x7_1, x8_1, rfl, rfl, HA, HK1, HB⟩ := hrel
    cases gk with
    | zero => exact absurd HA.out (by simp [calamusref05_swap.l0])
    | succ k1 =>
      have H := HA.out
      clear HA
      simp only [calamusref05_swap.l0] at H
      by_cases c4 : x8_1 < (a0.size : Int)
      · rw [if_pos c4] at H
        have c4b0 : decide (x8_1 < (a0.size : Int)) = true := decide_eq_true c4
        clear c4
        by_cases c5 : 0 ≤ x8_1
        · rw [if_pos c5] at H
          have c5b0 : decide (0 ≤ x8_1) = true := decide_eq_true c5
          clear c5
          replace H := Option.bind_eq_some_iff.mp H
          obtain ⟨t218, A70, H⟩ := H
          replace H : (if t218 ≥ 0 then (if 0 ≤ t218 then (if t218 ≤ (wrap64 (t218 + 1)) then (if (wrap64 (t218 + 1)) ≤ (a2.size : Int) then (if x7_1.size + (a2.extract (t218 : Int).toNat ((wrap64 (t218 + 1)) : Int).toNat).size ≤ 9223372036854775807 then (calamusref05_swap.l0 k1 a0 a1 a2 (x7_1 ++ (a2.extract (t218 : Int).toNat ((wrap64 (t218 + 1)) : Int).toNat)) (wrap64 (x8_1 + 1))) else (none)) else (none)) else (none)) else (none)) else (if x8_1 ≤ (wrap64 (x8_1 + 1)) then (if (wrap64 (x8_1 + 1)) ≤ (a0.size : Int) then (if x7_1.size + (a0.extract (x8_1 : Int).toNat ((wrap64 (x8_1 + 1)) : Int).toNat).size ≤ 9223372036854775807 then (calamusref05_swap.l0 k1 a0 a1 a2 (x7_1 ++ (a0.extract (x8_1 : Int).toNat ((wrap64 (x8_1 + 1)) : Int).toNat)) (wrap64 (x8_1 + 1))) else (none)) else (none)) else (none))) = some r := H
          have A7 := Aside0.mk A70
          clear A70
          by_cases c8 : t218 ≥ 0
          · rw [if_pos c8] at H
            have c8b0 : decide (0 ≤ t218) = true := decide_eq_true c8
            clear c8
            by_cases c9 : 0 ≤ t218
            · rw [if_pos c9] at H
              have c9b0 := eq_true c9
              have c9b1 : decide (0 ≤ t218) = true := decide_eq_true c9
              clear c9
              by_cases c10 : t218 ≤ (wrap64 (t218 + 1))
              · rw [if_pos c10] at H
                have c10b0 := eq_true c10
                have c10b1 : decide (t218 ≤ (wrap64 (t218 + 1))) = true := decide_eq_true c10
                by_cases c11 : (wrap64 (t218 + 1)) ≤ (a2.size : Int)
                · rw [if_pos c11] at H
                  have c11b0 := eq_true c11
                  have c11b1 : decide ((wrap64 (t218 + 1)) ≤ (a2.size : Int)) = true := decide_eq_true c11
                  by_cases c12 : x7_1.size + (a2.extract (t218 : Int).toNat ((wrap64 (t218 + 1)) : Int).toNat).size ≤ 9223372036854775807
                  · rw [if_pos c12] at H
                    have c12b0 := eq_true c12
                    have c12b1 : decide (x7_1.size + (a2.extract (t218 : Int).toNat ((wrap64 (t218 + 1)) : Int).toNat).size ≤ 9223372036854775807) = true := decide_eq_true c12
                    try have c12b2 : (9223372036854775807 < x7_1.size + (a2.extract (t218 : Int).toNat ((wrap64 (t218 + 1)) : Int).toNat).size) = False := eq_false (Nat.not_lt.2 c12)
                    have H' := Aside0.mk H
                    clear H
                    have p6 : 0 ≤ (x8_1 : Int) := of_decide_eq_true (by first | (with_reducible assumption) | assumption)
                    have q6 : x8_1 < (a0.size : Int) := of_decide_eq_true (by first | (with_reducible assumption) | assumption)
                    have hx6 := bt_at a0 x8_1
                    replace p6 := eq_true p6
                    replace q6 := eq_true q6
                    go_wp2_with (first | ((with_reducible refine gate_callee (f := 81) rfl ?_); refine goesL_ (some 20) rfl rfl Tryd.func81 (by kernel_rfl) rfl #[.string a1, .int .u8 (bt a0 x8_1)] rfl (by (try simp only [List.map_toArray, List.map_cons, List.map_nil]); first | done | rfl | (simp only [List.length_drop, List.length_take]; rfl)) ?_; (with_reducible refine (calamusref05_in.calls a1 (bt a0 x8_1) t218 _ A7.out).mono ?_); rintro e w13 ⟨rfl, hb⟩; refine ⟨_, rfl, ?_⟩; have n0_ := Aside0.mk (below_step (by repeat (first | (with_reducible first | exact HB.out | apply below_alloc | apply pw_below_drewN | apply below_drew1) | exact HB.out)) hb); clear HB; have HB := n0_; clear n0_; (try clear hb); (try clear hb2); (try clear hk); (try clear hi)))
                    go_roundg k1
                    case measure => have := HK1.out; omega
                    case rel => exact ⟨(x7_1 ++ (a2.extract (t218 : Int).toNat ((wrap64 (t218 + 1)) : Int).toNat)), (wrap64 (x8_1 + 1)), (by first | rfl | (simp; done) | (simp [*]; done)), (by first | rfl | (simp; done) | (simp [*]; done)), H', ⟨by have := HK1.out; omega⟩, ⟨by repeat (first | (with_reducible first | exact HB.out | apply below_alloc | apply pw_below_drewN | apply below_drew1) | exact HB.out)⟩⟩
                  · rw [if_neg c12] at H
                    exact absurd H (by simp)
                · rw [if_neg c11] at H
                  exact absurd H (by simp)
              · rw [if_neg c10] at H
                exact absurd H (by simp)
            · rw [if_neg c9] at H
              exact absurd H (by simp)
          · rw [if_neg c8] at H
            have c8b0 : decide (0 ≤ t218) = false := decide_eq_false c8
            clear c8
            have c14b0 := eq_true (of_decide_eq_true (by first | (with_reducible assumption) | assumption) : 0 ≤ x8_1)
            by_cases c15 : x8_1 ≤ (wrap64 (x8_1 + 1))
            · rw [if_pos c15] at H
              have c15b0 := eq_true c15
              have c15b1 : decide (x8_1 ≤ (wrap64 (x8_1 + 1))) = true := decide_eq_true c15
              by_cases c16 : (wrap64 (x8_1 + 1)) ≤ (a0.size : Int)
              · rw [if_pos c16] at H
                have c16b0 := eq_true c16
                have c16b1 : decide ((wrap64 (x8_1 + 1)) ≤ (a0.size : Int)) = true := decide_eq_true c16
                by_cases c17 : x7_1.size + (a0.extract (x8_1 : Int).toNat ((wrap64 (x8_1 + 1)) : Int).toNat).size ≤ 9223372036854775807
                · rw [if_pos c17] at H
                  have c17b0 := eq_true c17
                  have c17b1 : decide (x7_1.size + (a0.extract (x8_1 : Int).toNat ((wrap64 (x8_1 + 1)) : Int).toNat).size ≤ 9223372036854775807) = true := decide_eq_true c17
                  try have c17b2 : (9223372036854775807 < x7_1.size + (a0.extract (x8_1 : Int).toNat ((wrap64 (x8_1 + 1)) : Int).toNat).size) = False := eq_false (Nat.not_lt.2 c17)
                  have H' := Aside0.mk H
                  clear H
                  have p6 : 0 ≤ (x8_1 : Int) := of_decide_eq_true (by first | (with_reducible assumption) | assumption)
                  have q6 : x8_1 < (a0.size : Int) := of_decide_eq_true (by first | (with_reducible assumption) | assumption)
                  have hx6 := bt_at a0 x8_1
                  replace p6 := eq_true p6
                  replace q6 := eq_true q6
                  go_wp2_with (first | ((with_reducible refine gate_callee (f := 81) rfl ?_); refine goesL_ (some 20) rfl rfl Tryd.func81 (by kernel_rfl) rfl #[.string a1, .int .u8 (bt a0 x8_1)] rfl (by (try simp only [List.map_toArray, List.map_cons, List.map_nil]); first | done | rfl | (simp only [List.length_drop, List.length_take]; rfl)) ?_; (with_reducible refine (calamusref05_in.calls a1 (bt a0 x8_1) t218 _ A7.out).mono ?_); rintro e w18 ⟨rfl, hb⟩; refine ⟨_, rfl, ?_⟩; have n0_ := Aside0.mk (below_step (by repeat (first | (with_reducible first | exact HB.out | apply below_alloc | apply pw_below_drewN | apply below_drew1) | exact HB.out)) hb); clear HB; have HB := n0_; clear n0_; (try clear hb); (try clear hb2); (try clear hk); (try clear hi)))
                  go_roundg k1
                  case measure => have := HK1.out; omega
                  case rel => exact ⟨(x7_1 ++ (a0.extract (x8_1 : Int).toNat ((wrap64 (x8_1 + 1)) : Int).toNat)), (wrap64 (x8_1 + 1)), (by first | rfl | (simp; done) | (simp [*]; done)), (by first | rfl | (simp; done) | (simp [*]; done)), H', ⟨by have := HK1.out; omega⟩, ⟨by repeat (first | (with_reducible first | exact HB.out | apply below_alloc | apply pw_below_drewN | apply below_drew1) | exact HB.out)⟩⟩
                · rw [if_neg c17] at H
                  exact absurd H (by simp)
              · rw [if_neg c16] at H
                exact absurd H (by simp)
            · rw [if_neg c15] at H
              exact absurd H (by simp)
        · rw [if_neg c5] at H
          exact absurd H (by simp)
      · rw [if_neg c4] at H
        have c4b0 : decide (x8_1 < (a0.size : Int)) = false := decide_eq_false c4
        clear c4
        obtain rfl := Option.some.inj H
        go_wp2
        go_ret
        exact ⟨by first | rfl | (simp [errW_none, errW_some] <;> rfl) | (simp [*, errW_none, errW_some] <;> rfl), by repeat (first | (with_reducible first | exact HB.out | apply below_alloc | apply pw_below_drewN | apply below_drew1) | exact HB.out)⟩

/-! ### calamusref05_Flip -/
def calamusref05_Flip.f (k : Nat) (a0 : ByteArray) : Option (ByteArray) := (calamusref05_swap.f k a0 (⟨#[97, 98, 99, 100, 101, 102, 103, 104, 105, 106, 107, 108, 109, 110, 111, 112, 113, 114, 115, 116, 117, 118, 119, 120, 121, 122, 65, 66, 67, 68, 69, 70, 71, 72, 73, 74, 75, 76, 77, 78, 79, 80, 81, 82, 83, 84, 85, 86, 87, 88, 89, 90]⟩ : ByteArray) (⟨#[65, 66, 67, 68, 69, 70, 71, 72, 73, 74, 75, 76, 77, 78, 79, 80, 81, 82, 83, 84, 85, 86, 87, 88, 89, 90, 97, 98, 99, 100, 101, 102, 103, 104, 105, 106, 107, 108, 109, 110, 111, 112, 113, 114, 115, 116, 117, 118, 119, 120, 121, 122]⟩ : ByteArray)).bind fun t219 => (some t219)
theorem calamusref05_Flip.mono : ∀ a0 k, LeO (calamusref05_Flip.f k a0) (calamusref05_Flip.f (k + 1) a0) := by
  intro a0 k
  unfold calamusref05_Flip.f
  repeat' first
      | (with_reducible exact calamusref05_swap.mono _ _ _ _)
      | (with_reducible exact LeO.refl _)
      | (with_reducible exact LeO.none _)
      | (with_reducible refine LeO.ite ?_ ?_)
      | (with_reducible refine LeO.bind ?_ (fun _ => ?_))
      | exact calamusref05_swap.mono _ _ _ _
      | exact LeO.none _
      | refine LeO.ite ?_ ?_
      | refine LeO.bind ?_ (fun _ => ?_)
set_option maxHeartbeats 8000000 in
set_option maxRecDepth 100000 in
theorem calamusref05_Flip.calls (k : Nat) (a0 : ByteArray) (r : ByteArray) (w : World) (h : calamusref05_Flip.f k a0 = some r) :
    Calls Tryd.prog 49 #[.string a0] w fun e w' => e = .returned (.string r) ∧ Below w.heap.size w w' := by
  have HB := Aside0.mk (Below.refl w.heap.size w)
  have H : ((calamusref05_swap.f k a0 (⟨#[97, 98, 99, 100, 101, 102, 103, 104, 105, 106, 107, 108, 109, 110, 111, 112, 113, 114, 115, 116, 117, 118, 119, 120, 121, 122, 65, 66, 67, 68, 69, 70, 71, 72, 73, 74, 75, 76, 77, 78, 79, 80, 81, 82, 83, 84, 85, 86, 87, 88, 89, 90]⟩ : ByteArray) (⟨#[65, 66, 67, 68, 69, 70, 71, 72, 73, 74, 75, 76, 77, 78, 79, 80, 81, 82, 83, 84, 85, 86, 87, 88, 89, 90, 97, 98, 99, 100, 101, 102, 103, 104, 105, 106, 107, 108, 109, 110, 111, 112, 113, 114, 115, 116, 117, 118, 119, 120, 121, 122]⟩ : ByteArray)).bind fun t219 => (some t219)) = some r := h
  clear h
  replace H := Option.bind_eq_some_iff.mp H
  obtain ⟨t219, A20, H⟩ := H
  replace H : (some t219) = some r := H
  have A2 := Aside0.mk A20
  clear A20
  obtain rfl := Option.some.inj H
  go_enter Tryd.func49, Tryd.ntmps49
  go_wp2_with (first | ((with_reducible refine gate_callee (f := 69) rfl ?_); refine goesL_ (some 4) rfl rfl Tryd.func69 (by kernel_rfl) rfl #[.string a0, .string (⟨#[97, 98, 99, 100, 101, 102, 103, 104, 105, 106, 107, 108, 109, 110, 111, 112, 113, 114, 115, 116, 117, 118, 119, 120, 121, 122, 65, 66, 67, 68, 69, 70, 71, 72, 73, 74, 75, 76, 77, 78, 79, 80, 81, 82, 83, 84, 85, 86, 87, 88, 89, 90]⟩ : ByteArray), .string (⟨#[65, 66, 67, 68, 69, 70, 71, 72, 73, 74, 75, 76, 77, 78, 79, 80, 81, 82, 83, 84, 85, 86, 87, 88, 89, 90, 97, 98, 99, 100, 101, 102, 103, 104, 105, 106, 107, 108, 109, 110, 111, 112, 113, 114, 115, 116, 117, 118, 119, 120, 121, 122]⟩ : ByteArray)] rfl (by (try simp only [List.map_toArray, List.map_cons, List.map_nil]); first | done | rfl | (simp only [List.length_drop, List.length_take]; rfl)) ?_; (with_reducible refine (calamusref05_swap.calls k a0 (⟨#[97, 98, 99, 100, 101, 102, 103, 104, 105, 106, 107, 108, 109, 110, 111, 112, 113, 114, 115, 116, 117, 118, 119, 120, 121, 122, 65, 66, 67, 68, 69, 70, 71, 72, 73, 74, 75, 76, 77, 78, 79, 80, 81, 82, 83, 84, 85, 86, 87, 88, 89, 90]⟩ : ByteArray) (⟨#[65, 66, 67, 68, 69, 70, 71, 72, 73, 74, 75, 76, 77, 78, 79, 80, 81, 82, 83, 84, 85, 86, 87, 88, 89, 90, 97, 98, 99, 100, 101, 102, 103, 104, 105, 106, 107, 108, 109, 110, 111, 112, 113, 114, 115, 116, 117, 118, 119, 120, 121, 122]⟩ : ByteArray) t219 _ A2.out).mono ?_); rintro e w3 ⟨rfl, hb⟩; refine ⟨_, rfl, ?_⟩; have n0_ := Aside0.mk (below_step (by repeat (first | (with_reducible first | exact HB.out | apply below_alloc | apply pw_below_drewN | apply below_drew1) | exact HB.out)) hb); clear HB; have HB := n0_; clear n0_; (try clear hb); (try clear hb2); (try clear hk); (try clear hi)))
  go_ret
  exact ⟨by first | rfl | (simp [errW_none, errW_some] <;> rfl) | (simp [*, errW_none, errW_some] <;> rfl), by repeat (first | (with_reducible first | exact HB.out | apply below_alloc | apply pw_below_drewN | apply below_drew1) | exact HB.out)⟩

end Go.Proofs.YtckfdehendifoaaDoor.QP
/- The parts of layer 24 (paste) in plain words (MOD QP): stop, behind, some, times, rep. -/
namespace Go.Proofs.YtckfdehendifoaaDoor
open Go.RowKit
set_option linter.unusedVariables false
set_option linter.unusedSimpArgs false
open Go.RowKit Go.Proofs.YtckfdehendifoaaDoor.QP Go.Proofs.YtckfdehendifoaaDoorW.PrintWords Go.Proofs.YtckfdehendifoaaDoorW.PrintMore
theorem ls_cat (a b : ByteArray) : ls (a ++ b) = ls a ++ ls b := by unfold ls; rw [ByteArray.data_append, Array.toList_append]
theorem stop_val (t : ByteArray) {p e : Nat} (hp : placeB (ls t) p = true) (he : endI (ls t) (ofI (ls t) p) = e) (ht : t.size ≤ 1000000) : paste_stop.f t p = some (decide (p = e)) := by
  obtain ⟨g1, g2, g3⟩ := end_gt hp he
  rw [ls_len] at g1 g3
  unfold paste_stop.f
  by_cases h : (p : Int) = t.size
  · rw [if_pos h]; congr 1; symm; rw [decide_eq_true_eq]; omega
  · have hlt : p < t.size := by omega
    rw [if_neg h, if_pos (by omega), if_pos (by omega), bt_nat t p hlt]
    congr 1
    by_cases hb : byL (ls t) p = 10
    · rw [show (byL (ls t) p == 10) = true by rw [hb]; rfl]
      symm; rw [decide_eq_true_eq]
      have : ¬ p < e := fun h => (g1.1 h).2 hb
      omega
    · rw [show (byL (ls t) p == 10) = false by simpa using hb]
      symm; rw [decide_eq_false_iff_not]
      have := g1.2 ⟨hlt, hb⟩
      omega
def restN (l : List UInt8) (p e : Nat) : Nat := cntL (rowL l (p, e))
theorem rest_end (l : List UInt8) (e : Nat) : restN l e e = 0 := by unfold restN; rw [row_nil]; rfl
theorem rest_next {l : List UInt8} {p e : Nat} (hp : placeB l p = true) (he : endI l (ofI l p) = e) (h : p < e) : ∃ n : Nat, nextI l p = n ∧ p < n ∧ n ≤ e ∧ placeB l n = true ∧ ofI l n = ofI l p ∧ restN l p e = restN l n e + 1 ∧ ∀ m : Int, 0 < m → vAt l e p m = vAt l e n (m - 1) := by
  obtain ⟨e', h1, h2, h3, h4, h5, h6, h7, h8⟩ := line_pair hp
  obtain rfl : e' = e := by omega
  obtain ⟨n, g1, g2, g3, g4, g5, g6⟩ := col_next hp he h
  obtain ⟨n', k1, k2, k3, k4, k5⟩ := next_gap hp (show p < l.length by omega)
  obtain rfl : n' = n := by omega
  have h1c := cnt_one_rune hp (n' - (p + 1)) n' (by omega) k3 (fun i a b => k5 i a b)
  refine ⟨n', g1, g2, g3, g4, g5, ?_, ?_⟩
  · unfold restN; rw [row_app (n := n') (by omega) g3 h6, cnt_app, h1c]; omega
  · intro m hm
    obtain ⟨q, q1, _, _, _, q5⟩ := vAt_step (c := m) hm h hp h8
    obtain rfl : q = n' := by rw [g1] at q1; omega
    exact q5
theorem rest_pos {l : List UInt8} {p e : Nat} (hp : placeB l p = true) (he : endI l (ofI l p) = e) (h : p < e) : 0 < restN l p e := by
  obtain ⟨n, _, _, _, _, _, h6, _⟩ := rest_next hp he h; omega
theorem rest_le {l : List UInt8} {p e : Nat} (h : p ≤ e) (h2 : e ≤ l.length) : restN l p e ≤ e - p := by
  unfold restN
  have := cntL_le (rowL l (p, e))
  rw [rowL_len h h2] at this
  simp only at this
  omega
theorem behind_ev (t : ByteArray) (e : Nat) (N : Int) (ht : t.size ≤ 1000000) (hN : N ≤ 9223372036854775807) : ∀ (d p : Nat) (j : Int), e - p ≤ d → p ≤ e → placeB (ls t) p = true → endI (ls t) (ofI (ls t) p) = e → 0 ≤ j → j ≤ N → j + (e - p) ≤ 2000000 → Ev (fun K => paste_behind.l0 K t p N j) (vAt (ls t) e p (N - j), j + min (N - j) (restN (ls t) p e)) := by
  intro d
  induction d with
  | zero =>
    intro p j h1 h2 hp he h0 hj hb
    obtain rfl : p = e := by omega
    refine Ev.step (fun _ => (by rw [paste_behind.l0])) ?_
    rw [rest_end, vAt_end]
    refine Ev.ite (fun hlt => ?_) (fun hlt => Ev.ret (by rw [show j + min (N - j) ((0 : Nat) : Int) = j by omega]))
    refine Ev.call (stop_val t hp he ht) (Ev.pos (by simp) (Ev.ret (by rw [show j + min (N - j) ((0 : Nat) : Int) = j by omega])))
  | succ d ih =>
    intro p j h1 h2 hp he h0 hj hb
    by_cases hpe : p = e
    · exact ih p j (by omega) h2 hp he h0 hj hb
    · obtain ⟨_, _, _, _, _, _, _, _, h8⟩ := line_pair hp
      obtain ⟨n, g1, g2, g3, g4, g5, g6, g7⟩ := rest_next hp he (by omega)
      refine Ev.step (fun _ => (by rw [paste_behind.l0])) ?_
      refine Ev.ite (fun hlt => ?_) (fun hlt => Ev.ret ?_)
      · refine Ev.call (stop_val t hp he ht) (Ev.neg (by simpa using hpe) (Ev.call (utf_Next.eq t p (by omega)) ?_))
        rw [g1, w64 (by omega) (by omega)]
        refine Ev.eq (ih n (j + 1) (by omega) g3 g4 (by rw [g5]; exact he) (by omega) (by omega) (by omega)) ?_
        rw [g7 _ (by omega), g6, show N - j - 1 = N - (j + 1) by omega, show j + 1 + min (N - (j + 1)) (restN (ls t) n e : Int) = j + min (N - j) ((restN (ls t) n e + 1 : Nat) : Int) by omega]
      · obtain rfl : j = N := by omega
        obtain ⟨e', k1, k2, k3, k4, k5, k6, k7, k8⟩ := line_pair hp
        obtain rfl : e' = e := by omega
        rw [show j - j = 0 by omega, vAt_zero k8 hp h2, show j + min 0 (restN (ls t) p e' : Int) = j by omega]
end Go.Proofs.YtckfdehendifoaaDoor
/- The parts of layer 24 (paste), further: a text so many times (times); Flip and Over (MOD QP). -/
namespace Go.Proofs.YtckfdehendifoaaDoor
open Go.RowKit
set_option linter.unusedVariables false
set_option linter.unusedSimpArgs false
open Go.RowKit Go.Proofs.YtckfdehendifoaaDoor.QP Go.Proofs.YtckfdehendifoaaDoorW.PrintWords Go.Proofs.YtckfdehendifoaaDoorW.PrintMore
def repB (s b : List UInt8) : Nat → List UInt8
  | 0 => []
  | 1 => s
  | n + 2 => repB s b (n + 1) ++ b ++ s
theorem tail_snoc (b : List UInt8) : ∀ (r : List (List UInt8)) (x : List UInt8), Lib.joinTail b (r ++ [x]) = Lib.joinTail b r ++ b ++ x := by
  intro r x
  simp [Lib.joinTail, List.append_assoc]
theorem join_rep (s b : List UInt8) : ∀ n, Lib.join (List.replicate n s) b = repB s b n := by
  have tl : ∀ n, s ++ Lib.joinTail b (List.replicate n s) = repB s b (n + 1) := by
    intro n
    induction n with
    | zero => simp [Lib.joinTail, repB]
    | succ n ih => rw [repB, ← ih, List.replicate_succ', tail_snoc]; simp [List.append_assoc]
  intro n
  cases n with
  | zero => rfl
  | succ n => rw [List.replicate_succ, Lib.join_cons, tl]
theorem repB_len (s b : List UInt8) : ∀ n, (repB s b (n + 1)).length = (n + 1) * s.length + n * b.length
  | 0 => by simp [repB]
  | n + 1 => by
    rw [repB, List.length_append, List.length_append, repB_len s b n, Nat.succ_mul (n + 1), Nat.succ_mul n b.length]; omega
def repT (s b : ByteArray) (n : Nat) : ByteArray := ⟨(repB (ls s) (ls b) n).toArray⟩
theorem ls_repT (s b : ByteArray) (n : Nat) : ls (repT s b n) = repB (ls s) (ls b) n := by unfold repT ls; simp
theorem size_repT (s b : ByteArray) (n : Nat) : (repT s b (n + 1)).size = (n + 1) * s.size + n * b.size := by rw [← ls_len, ls_repT, repB_len, ls_len, ls_len]
theorem joinS_rep (s b : ByteArray) (n : Nat) : joinS (List.replicate n s) b = repT s b n := by
  unfold joinS repT
  rw [List.map_replicate]
  show (⟨(Lib.join (List.replicate n (ls s)) (ls b)).toArray⟩ : ByteArray) = _
  rw [join_rep]
theorem set_rep (s z : ByteArray) (n i : Nat) (h : i < n) : (List.replicate i s ++ List.replicate (n - i) z).set i s = List.replicate (i + 1) s ++ List.replicate (n - (i + 1)) z := by
  have e : n - i = (n - (i + 1)) + 1 := by omega
  rw [e, List.replicate_succ, List.set_append_right _ _ (by simp), List.replicate_succ']
  simp
theorem times_l0 (s b : ByteArray) (n : Nat) (hn : 1 ≤ n) (hn2 : n ≤ 4097) (hb : n * (s.size + b.size) ≤ 8194) : ∀ (d i : Nat), n - i ≤ d → i ≤ n → Ev (fun K => paste_times.l0 K s b (List.replicate i s ++ List.replicate (n - i) ⟨#[]⟩) n i) (repT s b n, true) := by
  intro d
  have hz : (Lib.join ((List.replicate n s).map (·.data.toList)) b.data.toList).length ≤ 140737488355328 := by
    rw [List.map_replicate]
    show (Lib.join (List.replicate n (ls s)) (ls b)).length ≤ _
    rw [join_rep]
    obtain ⟨m, rfl⟩ := Nat.exists_eq_succ_of_ne_zero (show n ≠ 0 by omega)
    rw [repB_len, ls_len, ls_len]
    rw [Nat.mul_add] at hb
    have : m * b.size ≤ (m + 1) * b.size := Nat.mul_le_mul_right _ (by omega)
    simp only [Nat.succ_eq_add_one] at hb
    omega
  have last : Ev (fun K => paste_times.l0 K s b (List.replicate n s ++ List.replicate (n - n) ⟨#[]⟩) n n) (repT s b n, true) := by
    refine Ev.step (fun _ => (by rw [paste_times.l0])) ?_
    refine Ev.neg (by omega) ?_
    rw [Nat.sub_self, List.replicate_zero, List.append_nil]
    refine Ev.call (paste_join.eq b _ ⟨by rw [List.length_replicate]; omega, hz⟩) (Ev.ret ?_)
    rw [joinS_rep]
  induction d with
  | zero => intro i h1 h2; obtain rfl : i = n := by omega
            exact last
  | succ d ih =>
    intro i h1 h2
    by_cases he : i = n
    · subst he; exact last
    · refine Ev.step (fun _ => (by rw [paste_times.l0])) ?_
      refine Ev.pos (by omega) (Ev.pos (by omega) (Ev.pos (by simp; omega) ?_))
      rw [Int.toNat_natCast, set_rep s _ n i (by omega), w64 (by omega) (by omega)]
      exact ih (i + 1) (by omega) (by omega)
theorem times_ev (s b : ByteArray) (n : Nat) (hn : 1 ≤ n) (hn2 : n ≤ 4097) (hb : n * (s.size + b.size) ≤ 8194) : Ev (fun K => paste_times.f K s b n) (repT s b n, true) := by
  have h1 : ((n * (s.size + b.size) : Nat) : Int) = (n : Int) * ((s.size : Int) + (b.size : Int)) := by push_cast; rfl
  have h2 : s.size + b.size ≤ n * (s.size + b.size) := Nat.le_mul_of_pos_left _ hn
  unfold paste_times.f
  refine Ev.neg (by omega) ?_
  rw [w64 (n := (s.size : Int) + b.size) (by omega) (by omega), w64 (by omega) (by omega), decide_eq_false (by omega)]
  refine Ev.step (fun _ => (by rw [paste_times.j0])) ?_
  refine Ev.neg (by simp) (Ev.pos (by omega) (Ev.pos (by omega) (Ev.call rfl ?_)))
  have := times_l0 s b n hn hn2 hb n 0 (by omega) (by omega)
  rw [List.replicate_zero, List.nil_append, Nat.sub_zero] at this
  rw [Int.toNat_natCast, List.length_replicate]
  exact this
theorem times_long (s b : ByteArray) (n : Int) (hs : s.size + b.size ≤ 100000) (hn : 1 ≤ n) (h : n > 4097 ∨ n * ((s.size : Int) + (b.size : Int)) > 8194) : Ev (fun K => paste_times.f K s b n) (⟨#[]⟩, false) := by
  have fin : Ev (fun K => paste_times.j0 K s b n true) (⟨#[]⟩, false) := by
    refine Ev.step (fun _ => (by rw [paste_times.j0])) ?_
    exact Ev.pos rfl (Ev.ret rfl)
  unfold paste_times.f
  refine Ev.ite (fun _ => fin) (fun h1 => ?_)
  have h2 : n * ((s.size : Int) + (b.size : Int)) > 8194 := by
    rcases h with h | h
    · omega
    · exact h
  have h3 : n * ((s.size : Int) + (b.size : Int)) ≤ 4097 * ((s.size : Int) + (b.size : Int)) := Int.mul_le_mul_of_nonneg_right (by omega) (by omega)
  rw [w64 (n := (s.size : Int) + b.size) (by omega) (by omega), w64 (by omega) (by omega), decide_eq_true h2]
  exact fin
end Go.Proofs.YtckfdehendifoaaDoor
/- A text at a place (paste.insert), and one so many times without another between (MOD QP). -/
namespace Go.Proofs.YtckfdehendifoaaDoor
open Go.RowKit
set_option linter.unusedVariables false
set_option linter.unusedSimpArgs false
open Go.RowKit Go.Proofs.YtckfdehendifoaaDoor.QP Go.Proofs.YtckfdehendifoaaDoorW.PrintWords Go.Proofs.YtckfdehendifoaaDoorW.PrintMore
theorem repB_nil_succ (s : List UInt8) : ∀ n, repB s [] (n + 1) = repB s [] n ++ s
  | 0 => rfl
  | n + 1 => by rw [repB]; simp
theorem size_rep0 (s : ByteArray) (n : Nat) : (repT s ⟨#[]⟩ n).size = n * s.size := by
  cases n with
  | zero => rw [← ls_len, ls_repT]; simp [repB]
  | succ n => rw [size_repT]; show (n + 1) * s.size + n * 0 = _; rw [Nat.mul_zero, Nat.add_zero]
theorem insert_ok (t s : ByteArray) (at_ : Nat) (ha : at_ ≤ t.size) (h : t.size + s.size ≤ 4096) : paste_insert.f t at_ s = some ((t.extract 0 at_ ++ s) ++ t.extract at_ t.size, 0) := by
  have z1 : (t.extract 0 at_).size = at_ := by rw [ByteArray.size_extract]; omega
  have z2 : (t.extract at_ t.size).size = t.size - at_ := by rw [ByteArray.size_extract]; omega
  unfold paste_insert.f
  rw [w64 (by omega) (by omega), if_neg (by omega), if_pos (by omega), if_pos (by omega), Int.toNat_natCast, if_pos (by rw [z1]; omega), if_pos (by rw [ByteArray.size_append, z1, z2]; omega)]
theorem insert_long (t s : ByteArray) (at_ : Int) (ht : t.size ≤ 100000) (hs : s.size ≤ 1000000) (h : ¬ t.size + s.size ≤ 4096) : paste_insert.f t at_ s = some (⟨#[]⟩, 8) := by
  unfold paste_insert.f
  rw [w64 (by omega) (by omega), if_pos (by omega)]
end Go.Proofs.YtckfdehendifoaaDoor
