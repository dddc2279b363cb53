/- Slices of things of several cells: what is read, and what a call has made itself. -/
import Derived.Test.YtgapekdcoedmgaaSl
namespace Go.Proofs.Ytgapekdcoedmgaa
open Go.RowKit
set_option linter.unusedVariables false
set_option linter.unusedSimpArgs false
/-- A thing's cells: 'enc'; k of them each. -/
structure Enc (α : Type) where
  k : Nat
  enc : α → List Value
  len : ∀ x, (enc x).length = k
  one : ∀ x, ∀ u ∈ enc x, u.oneCell' = true
  pos : 0 < k
def RdS {α : Type} (E : Enc α) (w : World) (a : Option Addr) (xs : List α) : Prop := ∀ j (h : j < xs.length), ∃ g o, a = some ⟨g, o, none⟩ ∧ ∀ i u, (E.enc xs[j])[i]? = some u → w.cell? ⟨g, o + (j * E.k + i), none⟩ = some u
theorem RdS.ext {α : Type} {E : Enc α} {w w' : World} {a : Option Addr} {xs : List α} (h : RdS E w a xs) (hx : Ext w w') : RdS E w' a xs := by
  intro j hj
  obtain ⟨g, o, ha, hc⟩ := h j hj
  exact ⟨g, o, ha, fun i u hu => by rw [Below.cell hx (World.block_lt_of_cell? w _ (hc i u hu))]; exact hc i u hu⟩
theorem flat_len {α : Type} (E : Enc α) : ∀ xs : List α, (xs.flatMap E.enc).length = xs.length * E.k
  | [] => by simp
  | x :: xs => by rw [List.flatMap_cons, List.length_append, E.len, flat_len E xs, List.length_cons, Nat.add_mul]; omega
theorem flat_at {α : Type} (E : Enc α) : ∀ (xs : List α) (j : Nat) (h : j < xs.length) (i : Nat), i < E.k → (xs.flatMap E.enc)[j * E.k + i]? = (E.enc xs[j])[i]?
  | x :: xs, 0, _, i, hi => by
    rw [List.flatMap_cons, Nat.zero_mul, Nat.zero_add, List.getElem?_append_left (by rw [E.len]; exact hi)]; rfl
  | x :: xs, j + 1, h, i, hi => by
    have := flat_at E xs j (by simpa using h) i hi
    rw [List.flatMap_cons, List.getElem?_append_right (by rw [E.len, Nat.add_mul]; omega), E.len]
    rw [show (j + 1) * E.k + i - E.k = j * E.k + i by rw [Nat.add_mul]; omega, this]; rfl
/-- A slice that was made from block 'base' on. -/
def OwnS {α : Type} (E : Enc α) (e : TypeId) (base : Nat) (w : World) (a : Option Addr) (cap : Nat) (xs : List α) : Prop := w.ownsRow base e E.k (.slice a xs.length cap) xs.length (xs.flatMap E.enc)
section
variable {α : Type} {E : Enc α} {e : TypeId}
theorem OwnS.nil (base : Nat) (w : World) : OwnS E e base w none 0 [] := World.ownsRow_nil _ _ _ _
theorem OwnS.ext {base : Nat} {w w' : World} {a : Option Addr} {cap : Nat} {xs : List α} (h : OwnS E e base w a cap xs) (hx : Ext w w') : OwnS E e base w' a cap xs :=
  World.ownsRow.kept h ⟨hx.os, hx.tape, hx.output, hx.size, fun k hk _ => Below.block hx k hk⟩ (row := none) (by cases a <;> simp [Value.ownBlock])
theorem OwnS.le {base base' : Nat} {w : World} {a : Option Addr} {cap : Nat} {xs : List α} (h : OwnS E e base w a cap xs) (hb : base' ≤ base) : OwnS E e base' w a cap xs := Go.Joins.ownsRow_le h hb
theorem OwnS.lt {base : Nat} {w : World} {a : Option Addr} {cap : Nat} {xs : List α} (h : OwnS E e base w a cap xs) : ∀ p, a = some p → base ≤ p.block ∧ p.block < w.heap.size := by
  rintro p rfl
  exact World.ownsRow.lt h p.block rfl
theorem OwnS.rd {base : Nat} {w : World} {a : Option Addr} {cap : Nat} {xs : List α} (h : OwnS E e base w a cap xs) : RdS E w a xs := by
  intro j hj
  obtain ⟨g, c, hv⟩ := Go.Joins.ownsRow_form h (by omega)
  simp only [Value.slice.injEq] at hv
  obtain ⟨rfl, -, rfl⟩ := hv
  refine ⟨g, 0, rfl, fun i u hu => ?_⟩
  have hi : i < E.k := by rw [← E.len xs[j]]; exact (List.getElem?_eq_some_iff.1 hu).1
  have hjk : j * E.k + i < xs.length * E.k := by
    have : (j + 1) * E.k ≤ xs.length * E.k := Nat.mul_le_mul_right _ hj
    rw [Nat.add_mul] at this; omega
  rw [Nat.zero_add, World.ownsRow.cellAt h _ hjk, flat_at E xs j hj i hi]
  exact hu
theorem OwnS.lit {base : Nat} (W : World) (hb : base ≤ W.heap.size) (xs : List α) (cs : Array Value) (hc : cs = (xs.flatMap E.enc).toArray) (hm : xs.length ≤ 1000) : OwnS E e base (W.alloc (.cells cs e)) (some ⟨W.heap.size, 0, none⟩) xs.length xs := by
  subst hc
  have := World.ownsRow_lit (base := base) (e := e) (size := E.k) W (xs.flatMap E.enc).toArray xs.length hb (by unfold maxLen; omega) (by simp only [List.size_toArray]; exact flat_len E xs)
  simpa [OwnS] using this
/-- 'append(l, y)' onto a slice of the call's own: y lies in a new block. -/
theorem app_s {P : Program} {ops : Array Oper} {rest : List Oper} {o : Oper} {act : Act} {Q : Exit → Act → World → Prop} (t : TypeId) (z : Value) (bytes : Nat) (hu : P.underlying t = some (.slice e)) (hinf : (P.info? e).map (fun i => (i.zero, i.size, i.bytes)) = some (some z, E.k, bytes)) (hz : z.cells.size = E.k)
    (w0 W : World) (hgd : o.guard = none) (s x : Operand)
    (ho : o.op = .call { callee := .builtin .append, args := #[s, x], argTypes := #[t, t] }) (a : Option Addr) (cap : Nat) (xs : List α) (y : α) (cs : Array Value) (hcs : cs = (E.enc y).toArray)
    (hs : act.eval s = .slice a xs.length cap) (hown : OwnS E e w0.heap.size W a cap xs) (he : Ext w0 W) (hx : act.eval x = .slice (some ⟨W.heap.size, 0, none⟩) 1 1) (hb : xs.length ≤ 1099511627776) (hby : bytes ≤ 100)
    (h : ∀ a' cap' w', OwnS E e w0.heap.size w' a' cap' (xs ++ [y]) → Ext w0 w' → wpList P ops Q rest (act.put o.dst (.slice a' (xs.length + 1) cap')) w') :
    wpList P ops Q (o :: rest) act (W.alloc (.cells cs e)) := by
  subst hcs
  obtain ⟨i0, hi, hz0, hz1, hz2⟩ := info_parts hinf
  refine wpList_append_own _ hgd s x t ho w0.heap.size e i0 z E.k bytes hu hi hz0 hz1 hz2 hz E.pos _ xs.length (xs.flatMap E.enc) hs (World.ownsRow.alloc hown _) ⟨W.heap.size, 0, none⟩ 1 1 (E.enc y) hx (by rw [E.len, Nat.one_mul]) ?_ (E.one y) (by unfold maxLen; omega) (Nat.le_trans (Nat.mul_le_mul_left _ hby) (by omega)) (by have := he.size; simp; omega) ?_
  · intro j u hj
    have := cell_of_row (W.alloc (.cells (E.enc y).toArray e)) W.heap.size j (E.enc y).toArray e (0, 0) (heap_alloc_new W _)
    have ea : (⟨W.heap.size, 0, none⟩ : Addr).add j = ⟨W.heap.size, j, none⟩ := by unfold Addr.add; split <;> simp_all
    rw [ea, this]; simpa using hj
  · intro v' w' hown' hg hnil
    obtain ⟨g, c, rfl⟩ := Go.Joins.ownsRow_form hown' (by omega)
    have e1 : Ext w0 w' := by
      refine Below.trans (Below.alloc he he.size (.cells (E.enc y).toArray e)) ⟨hg.os, hg.tape, hg.output, hg.size, fun k hk => hg.block k (by have := he.size; simp; omega) ?_⟩
      intro e
      cases a with
      | none => simp [Value.ownBlock] at e
      | some p => have := hown.lt p rfl; simp [Value.ownBlock] at e; omega
    refine h (some ⟨g, 0, none⟩) c w' ?_ e1
    simpa [OwnS] using hown'
end
/-- Two whole numbers. -/
def EncP : Enc (Nat × Nat) := { k := 2, enc := fun x => [.int .i64 (x.1 : Nat), .int .i64 (x.2 : Nat)], len := fun _ => rfl, one := fun x u hu => by simp at hu; rcases hu with rfl | rfl <;> rfl, pos := by decide }

theorem RdS.pair {w : World} {a : Option Addr} {xs : List (Nat × Nat)} (h : RdS EncP w a xs) (n : Nat) (hn : n < xs.length) : ∃ g o, a = some ⟨g, o, none⟩ ∧ w.cell? ⟨g, o + n * 2, none⟩ = some (.int .i64 (xs[n].1 : Nat)) ∧ w.cell? ⟨g, o + n * 2 + 1, none⟩ = some (.int .i64 (xs[n].2 : Nat)) := by
  obtain ⟨g, o, ha, hc⟩ := h n hn
  exact ⟨g, o, ha, hc 0 _ rfl, hc 1 _ rfl⟩

end Go.Proofs.Ytgapekdcoedmgaa
