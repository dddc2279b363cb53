/- The contracts of the package line: all, find. -/
import Derived.Test.YthjlhbblflmajaaU1
import Derived.Test.YthjlhbblflmajaaML
import Derived.Test.YthjlhbblflmajaaShelf
import Derived.RangeFuncFrom
import Derived.RangeFuncLeaves
import Derived.RangeFuncBound
import Derived.RangeFuncCalls
import Derived.RangeFuncWrites
import Derived.Shelf.Abstract
import Derived.Shelf.RegionOpen
import Derived.OwnWalkIn
import Derived.TacticsInMore
import Derived.LoopNIn
import Derived.LoopIn
namespace Go.Proofs.Ythjlhbblflmajaa
open Go.RowKit
set_option linter.unusedVariables false
set_option linter.unusedSimpArgs false
open Go.Shelf
attribute [local go_sem] Oper.semAt_some

theorem Ext.keep {w w' : World} (h : Ext w w') {a : Addr} {v : Value} (hc : w.cell? a = some v) : w'.cell? a = some v := by rw [Below.cell h (World.block_lt_of_cell? w _ hc)]; exact hc
theorem Ext.unfr {w w' : World} (h : Ext w w') {a : Addr} {v : Value} (hc : w.cell? a = some v) (hf : w.frozen? a = false) : w'.frozen? a = false := by rw [Below.frozen h (World.block_lt_of_cell? w _ hc)]; exact hf
theorem cell_new (W : World) (v : Value) (t : TypeId) : (W.alloc (.cells #[v] t)).cell? ⟨W.heap.size, 0, none⟩ = some v := by
  have := cell_of_row (W.alloc (.cells #[v] t)) W.heap.size 0 #[v] t (0, 0) (heap_alloc_new W _); rw [this]; rfl
theorem unfr_new (W : World) (v : Value) (t : TypeId) : (W.alloc (.cells #[v] t)).frozen? ⟨W.heap.size, 0, none⟩ = false :=
  frozen_of_row _ _ 0 #[v] t (heap_alloc_new W _)
theorem cell_set_ne {W : World} {b b' o o' : Nat} {u v : Value} (h : b ≠ b') (hc : W.cell? ⟨b', o', none⟩ = some v) : (W.setCell ⟨b, o, none⟩ u).cell? ⟨b', o', none⟩ = some v := by
  have := World.cell?_of_block (w := W) (w' := W.setCell ⟨b, o, none⟩ u) (a := ⟨b', o', none⟩) (Below.heap_setCell _ _ _ _ (fun e => h e.symm))
  rw [this]; exact hc
theorem cell_set_eq {W : World} {b o : Nat} {u v : Value} (hc : W.cell? ⟨b, o, none⟩ = some v) : (W.setCell ⟨b, o, none⟩ u).cell? ⟨b, o, none⟩ = some u :=
  World.cell?_setCell_same' _ _ _ (by rw [hc]; rfl)
theorem unfr_set {W : World} {a b : Addr} {u : Value} (h : W.frozen? b = false) : (W.setCell a u).frozen? b = false := by rw [World.frozen?_setCell]; exact h
/-- What a round must keep: the cell in which the iterator has its text. -/
def KeepC (B : Nat) (W W' : World) : Prop := ∀ v, W.cell? ⟨B, 0, none⟩ = some v → W'.cell? ⟨B, 0, none⟩ = some v
theorem KeepC.refl (B : Nat) (W : World) : KeepC B W W := fun _ h => h
theorem KeepC.t {B : Nat} {A C D : World} (h : KeepC B A C) (k : KeepC B C D) : KeepC B A D := fun v e => k v (h v e)
theorem KeepC.b {B : Nat} {w : World} (W : World) (l : Nat) (o o' : Obj) (_ : w.heap.size ≤ l) (h : W.heap[l]? = some o) (ho : o.isCells = false) (_ : o.isWalk = false) : KeepC B W (W.putObj l o') := by
  intro v hv
  by_cases e : l = B
  · subst e
    unfold World.cell? at hv
    rw [h] at hv
    cases o <;> simp [Obj.isCells] at ho hv
  · have hne : B ≠ l := fun x => e x.symm
    rw [World.cell?_of_block (w := W) (a := ⟨B, 0, none⟩) ((World.putObj_heap_other hne))]
    exact hv
theorem KeepC.of_ext {B : Nat} {W W' : World} (h : Ext W W') : KeepC B W W' := fun v e => by rw [Below.cell h (World.block_lt_of_cell? W _ e)]; exact e
theorem KeepC.setCell {B : Nat} {W : World} {p : Addr} (h : p.block ≠ B) (u : Value) : KeepC B W (W.setCell p u) := fun v e => by
  rw [World.cell?_of_block (w := W) (a := ⟨B, 0, none⟩) (Below.heap_setCell _ _ _ _ (fun x => h x.symm))]; exact e
def encP (x : Nat × Nat) : Array Value := #[.int .i64 x.1, .int .i64 x.2]

theorem index_ten (s : ByteArray) (w : World) : Calls Try.prog 70 #[.string s, .string ⟨#[10]⟩] w fun e w' => e = .returned (.int .i64 (Lib.indexByte (ls s) 10)) ∧ w = w' :=
  (Try.strings_Index_one s 10 w).mono fun _ _ h => ⟨h.1, h.2.symm⟩

end Go.Proofs.Ythjlhbblflmajaa
