/- Words that all walks of this seat use: what a call leaves of the memory that was there. -/
import Derived.Test.YthjlhbblflmajaaProg
import Derived.WalkKit
import Derived.KernelRfl
import Derived.Lib.Hide
import Derived.Deep.QuietTactic
import Derived.BigQuiet
import Derived.Handy
import Derived.WalkLawsBesides
import Derived.WalkSpells
import Derived.WalkSmall
import Derived.Lib.Strings
import Derived.Lib.IndexBytes
import Derived.Laws.BytesString
import Derived.Laws.Cells
namespace Go.Proofs.Ythjlhbblflmajaa
open Go.RowKit
set_option linter.unusedVariables false
set_option linter.unusedSimpArgs false

/-- What was there is as it was. -/
def Ext (w w' : World) : Prop := Below w.heap.size w w'
theorem Ext.refl (w : World) : Ext w w := Below.refl _ _
theorem Ext.of_eq {w w' : World} (h : w = w') : Ext w w' := h ▸ Below.refl _ _
theorem Ext.trans {a b c : World} (h : Ext a b) (k : Ext b c) : Ext a c := Below.trans h (Below.mono k h.size)
theorem Ext.alloc {a w : World} (h : Ext a w) (o : Obj) : Ext a (w.alloc o) := Below.alloc h h.size o
theorem Ext.drew {a w : World} (h : Ext a w) : Ext a w.drew := Below.drew h
theorem Ext.drewN {a w : World} (h : Ext a w) (n : Nat) : Ext a (w.drewN n) := below_drewN h n
theorem Ext.setCell {a w : World} (h : Ext a w) {p : Addr} (hp : a.heap.size ≤ p.block) (u : Value) : Ext a (w.setCell p u) := Below.setCell h hp u

/-- What was there reads as it did. -/
theorem Ext.rules {w w' : World} (h : Ext w w') : (∀ b o, b < w.heap.size → w'.cell? ⟨b, o, none⟩ = w.cell? ⟨b, o, none⟩) ∧ (∀ b o, b < w.heap.size → w'.frozen? ⟨b, o, none⟩ = w.frozen? ⟨b, o, none⟩) ∧ w.heap.size ≤ w'.heap.size :=
  ⟨fun b o hb => Below.cell h (p := ⟨b, o, none⟩) hb, fun b o hb => Below.frozen h (p := ⟨b, o, none⟩) hb, h.size⟩
theorem Ext.block {w w' : World} (h : Ext w w') {k : Nat} (hk : k < w.heap.size) : w'.heap[k]? = w.heap[k]? := Below.block h k hk
theorem emp_t (s : ByteArray) (h : s.size = 0) : s.toList.isEmpty = true := by
  rw [Lib.toList_data, List.isEmpty_iff, ← List.length_eq_zero_iff, ← Lib.size_eq]; exact h
theorem emp_f (s : ByteArray) (h : 0 < s.size) : s.toList.isEmpty = false := by
  rw [Lib.toList_data, List.isEmpty_eq_false_iff, ← List.length_pos_iff, ← Lib.size_eq]; exact h
theorem ret1 {a a' : Int} (h : a = a') : Ending.returned (.int .i64 a) = .returned (.int .i64 a') := by rw [h]
theorem retb {a a' : Bool} (h : a = a') : Ending.returned (.bool a) = .returned (.bool a') := by rw [h]
theorem rets {a a' : ByteArray} (h : a = a') : Ending.returned (.string a) = .returned (.string a') := by rw [h]
theorem ret2 {a b a' b' : Int} (h : a = a' ∧ b = b') : Ending.returned (.tuple #[.int .i64 a, .int .i64 b]) = .returned (.tuple #[.int .i64 a', .int .i64 b']) := by rw [h.1, h.2]
theorem ret2b {a a' : Int} {b b' : Bool} (h : a = a' ∧ b = b') : Ending.returned (.tuple #[.int .i64 a, .bool b]) = .returned (.tuple #[.int .i64 a', .bool b']) := by rw [h.1, h.2]
def sizeV : Value → Nat | .string t => t.size | _ => 0
/-- The byte at k, as a number. -/
def byL (l : List UInt8) (k : Nat) : Int := ((l.getD k 0).toNat : Int)
/-- A text's bytes. -/
abbrev ls (s : ByteArray) : List UInt8 := s.data.toList
theorem byL_eq (s : ByteArray) (k : Nat) (h : k < s.size) : ((s[k].toNat : Nat) : Int) = byL (ls s) k := by
  have h' : k < s.data.toList.length := by rw [← Lib.size_eq]; exact h
  unfold byL
  rw [List.getD_eq_getElem?_getD, List.getElem?_eq_getElem h']
  rfl
theorem byL_lo (l : List UInt8) (k : Nat) : 0 ≤ byL l k := by unfold byL; omega
theorem byL_hi (l : List UInt8) (k : Nat) : byL l k ≤ 255 := by
  unfold byL; have := (l.getD k 0).toNat_lt; omega
theorem byL_drop (l : List UInt8) (i k : Nat) : byL (l.drop i) k = byL l (i + k) := by
  unfold byL; simp [List.getD_eq_getElem?_getD, List.getElem?_drop]
theorem byL_take (l : List UInt8) {n k : Nat} (h : k < n) : byL (l.take n) k = byL l k := by
  unfold byL; rw [List.getD_eq_getElem?_getD, List.getElem?_take_of_lt h, ← List.getD_eq_getElem?_getD]
/-- The class of the rune that stands at a place. -/
theorem ls_len (s : ByteArray) : (ls s).length = s.size := (Lib.size_eq s).symm
theorem ls_ext (s : ByteArray) (i : Nat) : ls (s.extract i s.size) = (ls s).drop i := Lib.extract_to_end s i
theorem ls_ext2 (s : ByteArray) (i j : Nat) : ls (s.extract i j) = ((ls s).drop i).take (j - i) := Lib.extract_data s i j

/-- A number as a byte. -/
def b8 (n : Int) : UInt8 := UInt8.ofNat n.toNat
theorem push_all : ∀ (ns : List Int) (s : ByteArray), ns.foldl (fun r n => r.push (UInt8.ofNat n.toNat)) s = ⟨(s.data.toList ++ ns.map b8).toArray⟩
  | [], s => by simp
  | n :: ns, s => by
    rw [List.foldl_cons, push_all ns]
    congr 1
    simp [ByteArray.push, b8]
theorem conv_new {P : Program} (W : World) (src dst e : TypeId) (ns : List Int) (hs : P.underlying src = some (.slice e)) (he : P.underlying e = some (.int .u8)) (hd : P.underlying dst = some .string) (cs : Array Value) (n : Nat) (hc : cs = (ns.map (Value.int .u8)).toArray) (hn : n = ns.length) :
    (convert src dst (.slice (some ⟨W.heap.size, 0, none⟩) n n)).run P (W.alloc (.cells cs e)) = .ok (.string ⟨(ns.map b8).toArray⟩) (W.alloc (.cells cs e)) := by
  subst hc hn
  rw [run_convert_bytes_string _ _ _ _ _ _ _ hs he hd]
  have h := run_loadCells_list (P := P) (w := W.alloc (.cells (ns.map (Value.int .u8)).toArray e)) ⟨W.heap.size, 0, none⟩ (ns.map (Value.int .u8)) (by
    intro j v hj
    have := cell_of_row (W.alloc (.cells (ns.map (Value.int .u8)).toArray e)) W.heap.size j (ns.map (Value.int .u8)).toArray e (0, 0) (heap_alloc_new W _)
    have e : (⟨W.heap.size, 0, none⟩ : Addr).add j = ⟨W.heap.size, j, none⟩ := by unfold Addr.add; split <;> simp_all
    rw [e, this]; simpa using hj)
  rw [List.length_map] at h
  rw [run_bytesToString _ _ _ _ ns h, push_all]
  simp

end Go.Proofs.Ythjlhbblflmajaa
