/- Slices of whole numbers: what is read, and what a call has made itself. -/
import Derived.Test.YthjlhbblflmajaaBase
import Derived.Lib.SmallJoins
namespace Go.Proofs.Ythjlhbblflmajaa
open Go.RowKit
set_option linter.unusedVariables false
set_option linter.unusedSimpArgs false
/-- What a slice of whole numbers holds. -/
def RdI (w : World) (a : Option Addr) (xs : List Int) : Prop := ∀ j, j < xs.length → ∃ g o, a = some ⟨g, o, none⟩ ∧ w.cell? ⟨g, o + j, none⟩ = some (.int .i64 (xs.getD j 0))
theorem RdI.ext {w w' : World} {a : Option Addr} {xs : List Int} (h : RdI w a xs) (hx : Ext w w') : RdI w' a xs := by
  intro j hj
  obtain ⟨g, o, ha, hc⟩ := h j hj
  exact ⟨g, o, ha, by rw [Below.cell hx (World.block_lt_of_cell? w _ hc)]; exact hc⟩
theorem RdI.take {w : World} {a : Option Addr} {xs : List Int} (h : RdI w a xs) (n : Nat) : RdI w a (xs.take n) := by
  intro j hj
  have hl : j < xs.length := by rw [List.length_take] at hj; omega
  obtain ⟨g, o, ha, hc⟩ := h j hl
  refine ⟨g, o, ha, ?_⟩
  rw [hc]
  have : j < n := by rw [List.length_take] at hj; omega
  simp [List.getD_eq_getElem?_getD, List.getElem?_take, this]
/-- A slice of whole numbers that was made from block 'base' on. -/
def OwnI (base : Nat) (w : World) (a : Option Addr) (cap : Nat) (xs : List Int) : Prop := w.ownsRow base 3 1 (.slice a xs.length cap) xs.length (xs.map (Value.int .i64))
theorem OwnI.nil (base : Nat) (w : World) : OwnI base w none 0 [] := World.ownsRow_nil _ _ _ _
theorem OwnI.kept {base : Nat} {w w' : World} {row : Option Nat} {a : Option Addr} {cap : Nat} {xs : List Int} (h : OwnI base w a cap xs) (hg : w.grownBy w' row) (hne : ∀ g, row = some g → ∀ p, a = some p → p.block ≠ g) : OwnI base w' a cap xs := by
  refine World.ownsRow.kept h hg ?_
  cases a with
  | none => exact .inl rfl
  | some p => right; intro e; exact hne _ e.symm p rfl rfl
theorem OwnI.ext {base : Nat} {w w' : World} {a : Option Addr} {cap : Nat} {xs : List Int} (h : OwnI base w a cap xs) (hx : Ext w w') : OwnI base w' a cap xs :=
  World.ownsRow.kept h ⟨hx.os, hx.tape, hx.output, hx.size, fun k hk _ => Below.block hx k hk⟩ (row := none) (by cases a <;> simp [Value.ownBlock])
theorem OwnI.le {base base' : Nat} {w : World} {a : Option Addr} {cap : Nat} {xs : List Int} (h : OwnI base w a cap xs) (hb : base' ≤ base) : OwnI base' w a cap xs := Go.Joins.ownsRow_le h hb
theorem OwnI.rd {base : Nat} {w : World} {a : Option Addr} {cap : Nat} {xs : List Int} (h : OwnI base w a cap xs) : RdI w a xs := by
  intro j hj
  have hs := Go.Joins.ownsRow_form h (by omega)
  obtain ⟨g, c, hv⟩ := hs
  simp only [Value.slice.injEq] at hv
  obtain ⟨rfl, -, rfl⟩ := hv
  refine ⟨g, 0, rfl, ?_⟩
  rw [Nat.zero_add, World.ownsRow.cellAt h j (by omega)]
  simp [List.getD_eq_getElem?_getD, List.getElem?_map, List.getElem?_eq_getElem hj]
theorem OwnI.lt {base : Nat} {w : World} {a : Option Addr} {cap : Nat} {xs : List Int} (h : OwnI base w a cap xs) : ∀ p, a = some p → base ≤ p.block ∧ p.block < w.heap.size := by
  rintro p rfl
  exact World.ownsRow.lt h p.block rfl
theorem OwnI.lit {base : Nat} (W : World) (hb : base ≤ W.heap.size) (xs : List Int) (cs : Array Value) (hc : cs = (xs.map (Value.int .i64)).toArray) (hm : xs.length ≤ 1000) : OwnI base (W.alloc (.cells cs 3)) (some ⟨W.heap.size, 0, none⟩) xs.length xs := by
  subst hc
  have := World.ownsRow_lit (base := base) (e := 3) (size := 1) W (xs.map (Value.int .i64)).toArray xs.length hb (by unfold maxLen; omega) (by simp)
  simpa [OwnI] using this
theorem Try.infoInt : (Try.prog.info? 3).map (fun i => (i.zero, i.size, i.bytes)) = some (some (.int .i64 0), 1, 8) := by kernel_rfl
/-- 'append(l, y)' onto a slice of the call's own. -/
theorem app_i {ops : Array Oper} {rest : List Oper} {o : Oper} {act : Act} {Q : Exit → Act → World → Prop} (w0 W : World) (hgd : o.guard = none) (s x : Operand)
    (ho : o.op = .call { callee := .builtin .append, args := #[s, x], argTypes := #[47, 47] }) (a : Option Addr) (cap : Nat) (xs : List Int) (y : Int)
    (hs : act.eval s = .slice a xs.length cap) (hown : OwnI w0.heap.size W a cap xs) (he : Ext w0 W) (hx : act.eval x = .slice (some ⟨W.heap.size, 0, none⟩) 1 1) (hb : xs.length ≤ 1099511627776)
    (h : ∀ a' cap' w', OwnI w0.heap.size w' a' cap' (xs ++ [y]) → Ext w0 w' → wpList Try.prog ops Q rest (act.put o.dst (.slice a' (xs.length + 1) cap')) w') :
    wpList Try.prog ops Q (o :: rest) act (W.alloc (.cells #[.int .i64 y] 3)) := by
  obtain ⟨i0, hi, hz0, hz1, hz2⟩ := info_parts Try.infoInt
  refine wpList_append_own _ hgd s x 47 ho w0.heap.size 3 i0 (.int .i64 0) 1 8 Try.underlying47 hi hz0 hz1 hz2 rfl (by decide) _ xs.length (xs.map (Value.int .i64)) hs (hown.alloc _) ⟨W.heap.size, 0, none⟩ 1 1 [.int .i64 y] hx rfl ?_ (by simp [Value.oneCell']) (by unfold maxLen; omega) (by omega) (by have := he.size; simp; omega) ?_
  · intro j u hj
    match j, hj with
    | 0, hj =>
      simp at hj; subst hj
      have := cell_of_row (W.alloc (.cells #[.int .i64 y] 3)) W.heap.size 0 #[.int .i64 y] 3 (0, 0) (heap_alloc_new W _)
      simp [Addr.add]
  · intro v' w' hown' hg hnil
    obtain ⟨g, c, rfl⟩ := Go.Joins.ownsRow_form hown' (by omega)
    have e1 : Ext w0 w' := by
      refine Below.trans (Below.alloc he he.size (.cells #[.int .i64 y] 3)) ⟨hg.os, hg.tape, hg.output, hg.size, fun k hk => hg.block k (by have := he.size; simp; omega) ?_⟩
      intro e
      cases a with
      | none => simp [Value.ownBlock] at e
      | some p => have := hown.lt p rfl; simp [Value.ownBlock] at e; omega
    refine h (some ⟨g, 0, none⟩) c w' ?_ e1
    simpa [OwnI] using hown'

end Go.Proofs.Ythjlhbblflmajaa
