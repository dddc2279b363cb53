/- The contracts of the package line: all, find. -/
import Derived.Test.YtgapekdcoedmgaaU1
import Derived.Test.YtgapekdcoedmgaaML
import Derived.Test.YtgapekdcoedmgaaShelf
import Derived.RangeFuncFrom
import Derived.RangeFuncLeaves
import Derived.RangeFuncBound
import Derived.RangeFuncCalls
import Derived.RangeFuncWrites
import Derived.Shelf.Abstract
import Derived.Shelf.RegionOpen
import Derived.OwnWalkIn
import Derived.TacticsInMore
import Derived.LoopNIn
import Derived.LoopIn
namespace Go.Proofs.Ytgapekdcoedmgaa
open Go.RowKit
set_option linter.unusedVariables false
set_option linter.unusedSimpArgs false
open Go.Shelf
attribute [local go_sem] Oper.semAt_some

theorem Ext.keep {w w' : World} (h : Ext w w') {a : Addr} {v : Value} (hc : w.cell? a = some v) : w'.cell? a = some v := by rw [Below.cell h (World.block_lt_of_cell? w _ hc)]; exact hc
theorem Ext.unfr {w w' : World} (h : Ext w w') {a : Addr} {v : Value} (hc : w.cell? a = some v) (hf : w.frozen? a = false) : w'.frozen? a = false := by rw [Below.frozen h (World.block_lt_of_cell? w _ hc)]; exact hf
theorem cell_new (W : World) (v : Value) (t : TypeId) : (W.alloc (.cells #[v] t)).cell? ⟨W.heap.size, 0, none⟩ = some v := by
  have := cell_of_row (W.alloc (.cells #[v] t)) W.heap.size 0 #[v] t (0, 0) (heap_alloc_new W _); rw [this]; rfl
theorem unfr_new (W : World) (v : Value) (t : TypeId) : (W.alloc (.cells #[v] t)).frozen? ⟨W.heap.size, 0, none⟩ = false :=
  frozen_of_row _ _ 0 #[v] t (heap_alloc_new W _)
theorem cell_set_ne {W : World} {b b' o o' : Nat} {u v : Value} (h : b ≠ b') (hc : W.cell? ⟨b', o', none⟩ = some v) : (W.setCell ⟨b, o, none⟩ u).cell? ⟨b', o', none⟩ = some v := by
  have := World.cell?_of_block (w := W) (w' := W.setCell ⟨b, o, none⟩ u) (a := ⟨b', o', none⟩) (Below.heap_setCell _ _ _ _ (fun e => h e.symm))
  rw [this]; exact hc
theorem cell_set_eq {W : World} {b o : Nat} {u v : Value} (hc : W.cell? ⟨b, o, none⟩ = some v) : (W.setCell ⟨b, o, none⟩ u).cell? ⟨b, o, none⟩ = some u :=
  World.cell?_setCell_same' _ _ _ (by rw [hc]; rfl)
theorem unfr_set {W : World} {a b : Addr} {u : Value} (h : W.frozen? b = false) : (W.setCell a u).frozen? b = false := by rw [World.frozen?_setCell]; exact h
/-- What a round must keep: the cell in which the iterator has its text. -/
def KeepC (B : Nat) (W W' : World) : Prop := ∀ v, W.cell? ⟨B, 0, none⟩ = some v → W'.cell? ⟨B, 0, none⟩ = some v
theorem KeepC.refl (B : Nat) (W : World) : KeepC B W W := fun _ h => h
theorem KeepC.t {B : Nat} {A C D : World} (h : KeepC B A C) (k : KeepC B C D) : KeepC B A D := fun v e => k v (h v e)
theorem KeepC.b {B : Nat} {w : World} (W : World) (l : Nat) (o o' : Obj) (_ : w.heap.size ≤ l) (h : W.heap[l]? = some o) (ho : o.isCells = false) (_ : o.isWalk = false) : KeepC B W (W.putObj l o') := by
  intro v hv
  by_cases e : l = B
  · subst e
    unfold World.cell? at hv
    rw [h] at hv
    cases o <;> simp [Obj.isCells] at ho hv
  · have hne : B ≠ l := fun x => e x.symm
    rw [World.cell?_of_block (w := W) (a := ⟨B, 0, none⟩) ((World.putObj_heap_other hne))]
    exact hv
theorem KeepC.of_ext {B : Nat} {W W' : World} (h : Ext W W') : KeepC B W W' := fun v e => by rw [Below.cell h (World.block_lt_of_cell? W _ e)]; exact e
theorem KeepC.setCell {B : Nat} {W : World} {p : Addr} (h : p.block ≠ B) (u : Value) : KeepC B W (W.setCell p u) := fun v e => by
  rw [World.cell?_of_block (w := W) (a := ⟨B, 0, none⟩) (Below.heap_setCell _ _ _ _ (fun x => h x.symm))]; exact e
def encP (x : Nat × Nat) : Array Value := #[.int .i64 x.1, .int .i64 x.2]

theorem index_ten (s : ByteArray) (w : World) : Calls Try.prog 61 #[.string s, .string ⟨#[10]⟩] w fun e w' => e = .returned (.int .i64 (Lib.indexByte (ls s) 10)) ∧ w = w' :=
  (Try.strings_Index_one s 10 w).mono fun _ _ h => ⟨h.1, h.2.symm⟩

set_option maxHeartbeats 4000000 in
set_option maxRecDepth 100000 in
theorem all1_c (n : Nat) (hn : 2 ≤ n) (l B : Nat) (s : ByteArray) (hs : s.size ≤ 1152921504606846976) (J Jx : List (Nat × Nat) → World → Prop)
    (hY : ∀ pre x W, J pre W → pre.length < (lns (ls s)).length → YieldAt Fence.wide (n - 1) Try.prog l (encP x) W fun e W' =>
      (e = .returned (.bool true) ∧ J (pre ++ [x]) W' ∧ KeepC B W W') ∨ (e = .returned (.bool false) ∧ Jx (pre ++ [x]) W'))
    (W : World) (hB : W.cell? ⟨B, 0, none⟩ = some (.string s)) (h0 : J [] W) :
    CallsIn Fence.wide n Try.prog 69 #[.func (.yield l) #[] #[], .pointer (some ⟨B, 0, none⟩)] W fun e W' => (∃ v, e = .returned v) ∧
      ((∃ ys, ys = lns (ls s) ∧ J ys W') ∨ (∃ pre, pre <+: lns (ls s) ∧ Jx pre W')) := by
  refine callsIn_of_wp Try.func69 rfl trivial ?_ rfl
  simp only [Try.ntmps69, List.size_toArray, List.length_cons, List.length_nil, Nat.reduceAdd, Nat.reduceSub, Array.replicate_succ, Array.replicate_zero, List.push_toArray, List.append_toArray, List.nil_append, List.cons_append]
  gi_wp2
  gi_loopw [3] (fun p wr => ∃ (i : Nat) (pre : List (Nat × Nat)), p = .int .i64 i ∧ i ≤ s.size ∧ lns (ls s) = pre ++ lnsF ((ls s).drop i) i i ∧ J pre wr ∧ wr.cell? ⟨B, 0, none⟩ = some (.string s))
    (fun p _ => s.size + 1 - (intOf p).toNat)
  case atStart => exact ⟨0, [], rfl, by omega, by simp [lns], h0, hB⟩
  case round =>
    obtain ⟨i, pre, rfl, hi, hpre, hJ, hc⟩ := hrel
    have Hpre := Lib.hid hpre
    clear hpre
    have hix : ls (s.extract i s.size) = (ls s).drop i := ls_ext s i
    have hge := Lib.indexByte_ge ((ls s).drop i) 10
    by_cases hneg : Lib.indexByte ((ls s).drop i) 10 < 0
    · have hlast := line_last (ls s) i (by rw [ls_len]; exact hi) hneg
      have hm1 : Lib.indexByte (ls (s.extract i s.size)) 10 = -1 := by rw [hix]; omega
      have hall : lns (ls s) = pre ++ [(i, s.size)] := by rw [Hpre.out, hlast, ls_len]
      obtain ⟨fn, tmps, assign, body, hy, hR⟩ := hY pre (i, s.size) wr hJ (by rw [hall]; simp)
      have Hall := Lib.hid hall
      clear hall hlast hneg hge hix
      dsimp only [encP] at hy
      gi_wp2_with (refine ⟨trivial, (fun _ => by omega), ?_⟩; gi_at_call 61; refine (callsIn_wide.2 (index_ten _ _)).mono ?_; rintro e w' ⟨rfl, rfl⟩)
      refine ⟨fun _ => by omega, hR.mono ?_⟩
      rintro e W3 (⟨rfl, hJ3, hk3⟩ | ⟨rfl, hJx3⟩)
      · gi_wp2
        refine bodyPost_ret (results_none rfl _ _ _) rfl ?_
        exact ⟨⟨_, rfl⟩, .inl ⟨_, Hall.out.symm, hJ3⟩⟩
      · gi_wp2
        refine bodyPost_ret (results_none rfl _ _ _) rfl ?_
        exact ⟨⟨_, rfl⟩, .inr ⟨_, by rw [Hall.out]; exact List.prefix_refl _, hJx3⟩⟩
    · obtain ⟨m, hm⟩ : ∃ m : Nat, Lib.indexByte ((ls s).drop i) 10 = m := ⟨(Lib.indexByte ((ls s).drop i) 10).toNat, by omega⟩
      obtain ⟨h1, h2⟩ := line_next (ls s) i (by rw [ls_len]; exact hi) m hm
      rw [ls_len] at h1
      have hm1 : Lib.indexByte (ls (s.extract i s.size)) 10 = m := by rw [hix]; exact hm
      obtain ⟨fn, tmps, assign, body, hy, hR⟩ := hY pre (i, i + m) wr hJ (by rw [Hpre.out, h2]; simp)
      have H2 := Lib.hid h2
      clear h2 hm hneg hge hix
      dsimp only [encP] at hy
      simp only [Int.natCast_add] at hy
      gi_wp2_with (refine ⟨trivial, (fun _ => by omega), ?_⟩; gi_at_call 61; refine (callsIn_wide.2 (index_ten _ _)).mono ?_; rintro e w' ⟨rfl, rfl⟩)
      refine ⟨fun _ => by omega, hR.mono ?_⟩
      rintro e W3 (⟨rfl, hJ3, hk3⟩ | ⟨rfl, hJx3⟩)
      · have hc3 := hk3 _ hc
        gi_wp2
        go_roundw
        case rel => exact ⟨i + m + 1, pre ++ [(i, i + m)], by go_num, by omega, by rw [Hpre.out, H2.out]; simp, hJ3, hc3⟩
        case measure => simp [intOf]; omega
      · gi_wp2
        refine bodyPost_ret (results_none rfl _ _ _) rfl ?_
        exact ⟨⟨_, rfl⟩, .inr ⟨_, ⟨lnsF ((ls s).drop (i + m + 1)) (i + m + 1) (i + m + 1), by rw [Hpre.out, H2.out]; simp⟩, hJx3⟩⟩

/-- 'all' hands back a value that tells the lines one by one. -/
theorem all_stops (n : Nat) (hn : 2 ≤ n) (B : Nat) (s : ByteArray) (hs : s.size ≤ 1152921504606846976) (w : World) (hB : w.cell? ⟨B, 0, none⟩ = some (.string s)) :
    SeqStopsK Fence.wide n Try.prog 69 #[.pointer (some ⟨B, 0, none⟩)] encP (KeepC B) (fun ys => ys = lns (ls s)) (fun pre => pre <+: lns (ls s)) (lns (ls s)).length w := fun l J Jx W hW _ _ hY h0 =>
  all1_c n hn l B s hs J Jx hY W (KeepC.of_ext hW _ hB) h0

set_option maxHeartbeats 4000000 in
set_option maxRecDepth 100000 in
theorem all_c (s : ByteArray) (w : World) : Calls Try.prog 64 #[.string s] w fun e w' => e = .returned (.func (.func 69) #[] #[.pointer (some ⟨w.heap.size, 0, none⟩)]) ∧ w' = w.alloc (.cells #[.string s] 9) := by
  go_enter Try.func64, Try.ntmps64
  go_wp2
  go_ret
  exact ⟨rfl, rfl⟩

end Go.Proofs.Ytgapekdcoedmgaa
