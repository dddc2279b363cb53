/- Joined by merge.py out of this work's texts: Base, PE, MU, MU2, MU3, MU4, ML, ML2, ML4, U0, U, U1, Shelf, L0, XT, PCf, MC, MC2, ML3, MV, PCg, PCh, PVa, PVb, PPu, MS, U2, R3a, Sl, R3b, R3c. -/
import Derived.Test.YtckfdehendifoaaDoorProg
import Derived.WalkKit
import Derived.KernelRfl
import Derived.Lib.Hide
import Derived.Deep.QuietTactic
import Derived.BigQuiet
import Derived.Handy
import Derived.WalkLawsBesides
import Derived.WalkSpells
import Derived.WalkSmall
import Derived.Lib.Strings
import Derived.Lib.IndexBytes
import Derived.Laws.BytesString
import Derived.Laws.Cells
import Derived.Test.YtckfdehendifoaaDoorWWords
import Derived.Test.YtckfdehendifoaaDoorWMore
import Derived.Lib.LastIndexLaws
import Derived.Lib.LastIndexByte
import Derived.Shelf.Strings.Builder1
import Derived.Shelf.Strings.Builder2
import Derived.Shelf.Strings.OnBuilder
import Derived.Shelf.Strings.Trim
import Derived.Shelf.Small.Utf8
import Derived.Shelf.Small.Strs
import Derived.Shelf.Strings.BuilderF
import Derived.Shelf.Strings.BuilderK
import Derived.Shelf.Utf8.RuneCount
import Derived.Shelf.Strings.Builder2Cap
import Derived.Shelf.Strings.Search1
import Derived.Shelf.Strings.Search2
import Derived.Shelf.Strings.Search3
import Derived.Shelf.Strings.Count
import Derived.Shelf.LaysM
import Derived.Shelf.Strings.Shaped
import Derived.Shelf.Strings.LastIndex
import Derived.Shelf.Strings.LastIndexAll
import Derived.Shelf.Strings.Split
import Derived.Shelf.Unicode.Decode
import Derived.Shelf.Strings.Runes
import Derived.Shelf.Strings.RuneCount
import Derived.Shelf.Strings.AsciiSet
import Derived.Shelf.Unicode.DecodeSlow
import Derived.Shelf.Unicode.DecodeAny
import Derived.Shelf.Strings.BuilderCap
import Derived.Ground.PaProg
import Derived.Shelf.Path.Small
import Derived.RangeFuncFrom
import Derived.RangeFuncLeaves
import Derived.RangeFuncBound
import Derived.RangeFuncCalls
import Derived.RangeFuncWrites
import Derived.Shelf.Abstract
import Derived.Shelf.RegionOpen
import Derived.OwnWalkIn
import Derived.TacticsInMore
import Derived.LoopNIn
import Derived.LoopIn
import Derived.Shelf.Strings.SlTrimAscii
import Derived.Lib.SmallJoins
/- Words that all walks of this seat use: what a call leaves of the memory that was there. -/
namespace Go.Proofs.YtckfdehendifoaaDoor
open Go.RowKit
set_option linter.unusedVariables false
set_option linter.unusedSimpArgs false

def Ext (w w' : World) : Prop := Below w.heap.size w w'
theorem Ext.refl (w : World) : Ext w w := Below.refl _ _
theorem Ext.of_eq {w w' : World} (h : w = w') : Ext w w' := h ▸ Below.refl _ _
theorem Ext.trans {a b c : World} (h : Ext a b) (k : Ext b c) : Ext a c := Below.trans h (Below.mono k h.size)
theorem Ext.alloc {a w : World} (h : Ext a w) (o : Obj) : Ext a (w.alloc o) := Below.alloc h h.size o
theorem Ext.drew {a w : World} (h : Ext a w) : Ext a w.drew := Below.drew h
theorem Ext.drewN {a w : World} (h : Ext a w) (n : Nat) : Ext a (w.drewN n) := below_drewN h n
theorem Ext.setCell {a w : World} (h : Ext a w) {p : Addr} (hp : a.heap.size ≤ p.block) (u : Value) : Ext a (w.setCell p u) := Below.setCell h hp u

theorem Ext.rules {w w' : World} (h : Ext w w') : (∀ b o, b < w.heap.size → w'.cell? ⟨b, o, none⟩ = w.cell? ⟨b, o, none⟩) ∧ (∀ b o, b < w.heap.size → w'.frozen? ⟨b, o, none⟩ = w.frozen? ⟨b, o, none⟩) ∧ w.heap.size ≤ w'.heap.size :=
  ⟨fun b o hb => Below.cell h (p := ⟨b, o, none⟩) hb, fun b o hb => Below.frozen h (p := ⟨b, o, none⟩) hb, h.size⟩
theorem Ext.block {w w' : World} (h : Ext w w') {k : Nat} (hk : k < w.heap.size) : w'.heap[k]? = w.heap[k]? := Below.block h k hk
theorem emp_t (s : ByteArray) (h : s.size = 0) : s.toList.isEmpty = true := by
  rw [Lib.toList_data, List.isEmpty_iff, ← List.length_eq_zero_iff, ← Lib.size_eq]; exact h
theorem emp_f (s : ByteArray) (h : 0 < s.size) : s.toList.isEmpty = false := by
  rw [Lib.toList_data, List.isEmpty_eq_false_iff, ← List.length_pos_iff, ← Lib.size_eq]; exact h
theorem ret1 {a a' : Int} (h : a = a') : Ending.returned (.int .i64 a) = .returned (.int .i64 a') := by rw [h]
theorem retb {a a' : Bool} (h : a = a') : Ending.returned (.bool a) = .returned (.bool a') := by rw [h]
theorem rets {a a' : ByteArray} (h : a = a') : Ending.returned (.string a) = .returned (.string a') := by rw [h]
theorem ret2 {a b a' b' : Int} (h : a = a' ∧ b = b') : Ending.returned (.tuple #[.int .i64 a, .int .i64 b]) = .returned (.tuple #[.int .i64 a', .int .i64 b']) := by rw [h.1, h.2]
theorem ret2b {a a' : Int} {b b' : Bool} (h : a = a' ∧ b = b') : Ending.returned (.tuple #[.int .i64 a, .bool b]) = .returned (.tuple #[.int .i64 a', .bool b']) := by rw [h.1, h.2]
def sizeV : Value → Nat | .string t => t.size | _ => 0
def byL (l : List UInt8) (k : Nat) : Int := ((l.getD k 0).toNat : Int)
abbrev ls (s : ByteArray) : List UInt8 := s.data.toList
theorem byL_eq (s : ByteArray) (k : Nat) (h : k < s.size) : ((s[k].toNat : Nat) : Int) = byL (ls s) k := by
  have h' : k < s.data.toList.length := by rw [← Lib.size_eq]; exact h
  unfold byL
  rw [List.getD_eq_getElem?_getD, List.getElem?_eq_getElem h']
  rfl
theorem byL_lo (l : List UInt8) (k : Nat) : 0 ≤ byL l k := by unfold byL; omega
theorem byL_hi (l : List UInt8) (k : Nat) : byL l k ≤ 255 := by
  unfold byL; have := (l.getD k 0).toNat_lt; omega
theorem byL_drop (l : List UInt8) (i k : Nat) : byL (l.drop i) k = byL l (i + k) := by
  unfold byL; simp [List.getD_eq_getElem?_getD, List.getElem?_drop]
theorem byL_take (l : List UInt8) {n k : Nat} (h : k < n) : byL (l.take n) k = byL l k := by
  unfold byL; rw [List.getD_eq_getElem?_getD, List.getElem?_take_of_lt h, ← List.getD_eq_getElem?_getD]
theorem ls_len (s : ByteArray) : (ls s).length = s.size := (Lib.size_eq s).symm
theorem ls_ext (s : ByteArray) (i : Nat) : ls (s.extract i s.size) = (ls s).drop i := Lib.extract_to_end s i
theorem ls_ext2 (s : ByteArray) (i j : Nat) : ls (s.extract i j) = ((ls s).drop i).take (j - i) := Lib.extract_data s i j

def b8 (n : Int) : UInt8 := UInt8.ofNat n.toNat
theorem push_all : ∀ (ns : List Int) (s : ByteArray), ns.foldl (fun r n => r.push (UInt8.ofNat n.toNat)) s = ⟨(s.data.toList ++ ns.map b8).toArray⟩
  | [], s => by simp
  | n :: ns, s => by
    rw [List.foldl_cons, push_all ns]
    congr 1
    simp [ByteArray.push, b8]
theorem conv_new {P : Program} (W : World) (src dst e : TypeId) (ns : List Int) (hs : P.underlying src = some (.slice e)) (he : P.underlying e = some (.int .u8)) (hd : P.underlying dst = some .string) (cs : Array Value) (n : Nat) (hc : cs = (ns.map (Value.int .u8)).toArray) (hn : n = ns.length) :
    (convert src dst (.slice (some ⟨W.heap.size, 0, none⟩) n n)).run P (W.alloc (.cells cs e)) = .ok (.string ⟨(ns.map b8).toArray⟩) (W.alloc (.cells cs e)) := by
  subst hc hn
  rw [run_convert_bytes_string _ _ _ _ _ _ _ hs he hd]
  have h := run_loadCells_list (P := P) (w := W.alloc (.cells (ns.map (Value.int .u8)).toArray e)) ⟨W.heap.size, 0, none⟩ (ns.map (Value.int .u8)) (by
    intro j v hj
    have := cell_of_row (W.alloc (.cells (ns.map (Value.int .u8)).toArray e)) W.heap.size j (ns.map (Value.int .u8)).toArray e (0, 0) (heap_alloc_new W _)
    have e : (⟨W.heap.size, 0, none⟩ : Addr).add j = ⟨W.heap.size, j, none⟩ := by unfold Addr.add; split <;> simp_all
    rw [e, this]; simpa using hj)
  rw [List.length_map] at h
  rw [run_bytesToString _ _ _ _ ns h, push_all]
  simp

end Go.Proofs.YtckfdehendifoaaDoor
/- Words for the plain proofs: functions with rounds, ranges of whole numbers. -/
namespace Go.Proofs.YtckfdehendifoaaDoor
open Go.RowKit
set_option linter.unusedVariables false
set_option linter.unusedSimpArgs false
open Go.RowKit Go.Proofs.YtckfdehendifoaaDoorW.PrintWords Go.Proofs.YtckfdehendifoaaDoorW.PrintMore

theorem Ev.pos {α : Type} {c : Prop} [Decidable c] {a b : Nat → Option α} {r : α} (h : c) (k : Ev a r) : Ev (fun n => if c then a n else b n) r := by
  obtain ⟨K, hk⟩ := k
  exact ⟨K, fun n hn => by show (if c then a n else b n) = _; rw [if_pos h]; exact hk n hn⟩
theorem Ev.neg {α : Type} {c : Prop} [Decidable c] {a b : Nat → Option α} {r : α} (h : ¬ c) (k : Ev b r) : Ev (fun n => if c then a n else b n) r := by
  obtain ⟨K, hk⟩ := k
  exact ⟨K, fun n hn => by show (if c then a n else b n) = _; rw [if_neg h]; exact hk n hn⟩
theorem Ev.ite {α : Type} {c : Prop} [Decidable c] {a b : Nat → Option α} {r : α} (h1 : c → Ev a r) (h2 : ¬ c → Ev b r) : Ev (fun n => if c then a n else b n) r := by
  by_cases h : c
  · exact Ev.pos h (h1 h)
  · exact Ev.neg h (h2 h)
theorem Ev.eq {α : Type} {g : Nat → Option α} {r r' : α} (h : Ev g r) (e : r = r') : Ev g r' := e ▸ h
theorem Ev.ret {α : Type} {r r' : α} (e : r = r') : Ev (fun _ => some r) r' := ⟨0, fun _ _ => by rw [e]⟩
theorem Ev.val {α : Type} {g : Option α} {r : α} (e : g = some r) : Ev (fun _ => g) r := ⟨0, fun _ _ => e⟩
theorem Ev.call {α β : Type} {g : Option α} {f : Nat → α → Option β} {a : α} {r : β} (h : g = some a) (k : Ev (fun n => f n a) r) : Ev (fun n => g.bind (f n)) r := Ev.bind (Ev.val h) k
theorem Ev.at {α : Type} {g : Nat → Option α} {r : α} (h : Ev g r) : ∃ k, g k = some r := h.rounds
theorem kdR_int {base : Nat} {w : World} {v : Value} {xs : List Int} (h : w.ownsRow base 3 1 v xs.length (xs.map (Value.int .i64))) : Kd.R (Kd.int .i64) 3 w base (fun _ => True) v xs := by
  refine ⟨fun _ _ => trivial, _, h, by simp [Kd.int, Kd.scalar], fun j p hj => ?_⟩
  obtain ⟨hl, rfl⟩ := List.getElem?_eq_some_iff.1 hj
  show ((xs.map (Value.int .i64)).drop (j * 1)).take 1 = [Value.int .i64 xs[j]]
  rw [Nat.mul_one, List.drop_eq_getElem_cons (by simpa using hl)]
  simp
theorem w64 {n : Int} (h0 : -9223372036854775808 ≤ n) (h1 : n ≤ 9223372036854775807) : wrap64 n = n := IntWalk.wrap64_in n ⟨h0, h1⟩
theorem mx_eq (a b : Int) : mx a b = max a b := by unfold mx; omega
theorem mn_eq (a b : Int) : mn a b = min a b := by unfold mn; omega
theorem bt_nat (s : ByteArray) (k : Nat) (h : k < s.size) : bt s k = byL (ls s) k := by
  unfold bt
  rw [dif_pos (by simpa using h), ← byL_eq s k h]
  rfl
theorem bt_byL (s : ByteArray) (i : Int) (h0 : 0 ≤ i) (h : i < s.size) : bt s i = byL (ls s) i.toNat := by
  obtain ⟨k, rfl⟩ : ∃ k : Nat, i = k := ⟨i.toNat, by omega⟩
  rw [bt_nat s k (by omega)]; rfl
theorem rd_nat (xs : List Int) (k : Nat) (h : k < xs.length) : rd xs k = xs[k] := by
  unfold rd; simp [List.getD_eq_getElem?_getD, List.getElem?_eq_getElem h]
theorem rd_getD (xs : List Int) (k : Nat) : rd xs k = xs.getD k 0 := rfl
theorem empty_iff (s : ByteArray) : s.toList = [] ↔ s.size = 0 := by
  rw [Lib.toList_data, ← List.length_eq_zero_iff, ← Lib.size_eq]
theorem toList_ls (s : ByteArray) : s.toList = ls s := Lib.toList_data s
theorem size_ls (s : ByteArray) : s.size = (ls s).length := (ls_len s).symm
theorem ba_ext {s t : ByteArray} (h : ls s = ls t) : s = t := by
  apply ByteArray.ext; exact Array.toList_inj.1 h
end Go.Proofs.YtckfdehendifoaaDoor
/- Texts as runes: plain facts on lists of bytes, no program in sight. -/
namespace Go.Proofs.YtckfdehendifoaaDoor
open Go.RowKit
set_option linter.unusedVariables false
set_option linter.unusedSimpArgs false

def fSize (b : Int) : Int := if b < 128 then 1 else if b < 194 then 0 else if b < 224 then 2 else if b < 240 then 3 else if b ≤ 244 then 4 else 0
def fLow (b : Int) : Int := if b < 194 then 0 else if b < 224 then 128 else if b = 224 then 160 else if b < 240 then 128 else if b = 240 then 144 else if b ≤ 244 then 128 else 0
def fTop (b : Int) : Int := if b < 194 then 0 else if b = 237 then 159 else if b < 244 then 191 else if b = 244 then 143 else 0
theorem fSize_lo (b : Int) : 0 ≤ fSize b := by unfold fSize; repeat' (first | omega | split)
theorem fSize_hi (b : Int) : fSize b ≤ 4 := by unfold fSize; repeat' (first | omega | split)
def okb (b0 : Int) (j : Nat) (c : Int) : Bool := if j = 1 then decide (fLow b0 ≤ c) && decide (c ≤ fTop b0) else decide (128 ≤ c) && decide (c ≤ 191)
def begOk (l : List UInt8) (k : Nat) : Bool := (List.range k).all fun j => j == 0 || okb (byL l 0) j (byL l j)
theorem begOk_succ (l : List UInt8) (k : Nat) : begOk l (k + 1) = (begOk l k && (k == 0 || okb (byL l 0) k (byL l k))) := by
  unfold begOk; rw [List.range_succ, List.all_append]; simp
theorem begOk_mono (l : List UInt8) : ∀ (d k : Nat), begOk l (k + d) = true → begOk l k = true
  | 0, _, h => h
  | d + 1, k, h => begOk_mono l d k (by rw [← Nat.add_assoc, begOk_succ, Bool.and_eq_true] at h; exact h.1)
theorem begOk_le (l : List UInt8) {k m : Nat} (h : begOk l m = true) (hk : k ≤ m) : begOk l k = true :=
  begOk_mono l (m - k) k (by rw [Nat.add_sub_cancel' hk]; exact h)
theorem begOk_at (l : List UInt8) {k j : Nat} (h : begOk l k = true) (h1 : 1 ≤ j) (hj : j < k) : okb (byL l 0) j (byL l j) = true := by
  have := begOk_le l (k := j + 1) h (by omega)
  rw [begOk_succ, Bool.and_eq_true] at this
  have h2 := this.2
  have : (j == 0) = false := by simp; omega
  simpa [this] using h2
def begA (l : List UInt8) : Int := if l.length = 0 then 0 else if begOk l (min l.length (fSize (byL l 0)).toNat) then min (l.length : Int) (fSize (byL l 0)) else 0
def begB (l : List UInt8) : Int := if l.length = 0 then 0 else if begOk l (min l.length (fSize (byL l 0)).toNat) then fSize (byL l 0) else 0
def szL (l : List UInt8) : Nat := if begA l < begB l then 0 else (begB l).toNat
theorem begB_lo (l : List UInt8) : 0 ≤ begB l := by
  unfold begB; have := fSize_lo (byL l 0); repeat' (first | omega | split)
theorem szL_le (l : List UInt8) : szL l ≤ l.length := by
  have := fSize_lo (byL l 0)
  unfold szL begA begB
  repeat' (first | omega | split)
theorem szL_hi (l : List UInt8) : szL l ≤ 4 := by
  have := fSize_hi (byL l 0)
  unfold szL begB
  repeat' (first | omega | split)
theorem szL_nil : szL [] = 0 := by have := szL_le []; simpa using this
theorem szL_eq (l : List UInt8) : (if begA l < begB l then 0 else begB l) = (szL l : Int) := by
  have := begB_lo l
  unfold szL; split <;> omega
def validN : Nat → List UInt8 → Bool
  | 0, l => l.length == 0
  | n + 1, l => if l.length = 0 then true else if szL l = 0 then false else validN n (l.drop (szL l))
def validL (l : List UInt8) : Bool := validN l.length l
theorem validN_eq : ∀ (n : Nat) (l : List UInt8), l.length ≤ n → validN n l = validN l.length l
  | 0, l, h => by have : l.length = 0 := by omega
                  rw [this]
  | n + 1, l, h => by
    by_cases h0 : l.length = 0
    · rw [h0]; simp [validN, h0]
    · obtain ⟨m, hm⟩ : ∃ m, l.length = m + 1 := ⟨l.length - 1, by omega⟩
      by_cases hz : szL l = 0
      · rw [hm]; simp [validN, h0, hz]
      · have h1 := validN_eq n (l.drop (szL l)) (by rw [List.length_drop]; omega)
        have h2 := validN_eq m (l.drop (szL l)) (by rw [List.length_drop]; omega)
        rw [hm]; simp only [validN, if_neg h0, if_neg hz]; rw [h1, h2]
termination_by n => n
theorem validL_unfold (l : List UInt8) : validL l = if l.length = 0 then true else if szL l = 0 then false else validL (l.drop (szL l)) := by
  unfold validL
  by_cases h0 : l.length = 0
  · rw [h0]; simp [validN, h0]
  · obtain ⟨m, hm⟩ : ∃ m, l.length = m + 1 := ⟨l.length - 1, by omega⟩
    by_cases hz : szL l = 0
    · rw [hm]; simp [validN, h0, hz]
    · rw [if_neg h0, if_neg hz, ← validN_eq m (l.drop (szL l)) (by rw [List.length_drop]; omega), hm]
      simp only [validN, if_neg h0, if_neg hz]
theorem validL_nil : validL [] = true := rfl
theorem validL_bad {l : List UInt8} (h : l.length ≠ 0) (hz : szL l = 0) : validL l = false := by rw [validL_unfold, if_neg h, if_pos hz]
theorem validL_step {l : List UInt8} (h : l.length ≠ 0) (hz : szL l ≠ 0) : validL l = validL (l.drop (szL l)) := by
  conv => lhs; rw [validL_unfold, if_neg h, if_neg hz]
def inn (b : Int) : Bool := decide (128 ≤ b) && decide (b < 192)
theorem inn_t {b : Int} (h : inn b = true) : 128 ≤ b ∧ b < 192 := by simpa [inn] using h
theorem inn_f {b : Int} (h : inn b = false) : b < 128 ∨ 192 ≤ b := by simp [inn] at h; omega
theorem inn_t' {b : Int} (h : 128 ≤ b ∧ b < 192) : inn b = true := by simp [inn]; omega
theorem inn_f' {b : Int} (h : b < 128 ∨ 192 ≤ b) : inn b = false := by simp [inn]; omega
def placeB (l : List UInt8) (p : Int) : Bool := decide (0 ≤ p) && decide (p ≤ l.length) && (decide (p = l.length) || !inn (byL l p.toNat)) && validL l
def nextI (l : List UInt8) (p : Int) : Int := if placeB l p = true ∧ p ≠ l.length then p + szL (l.drop p.toNat) else -1
def prevFrom (l : List UInt8) : Nat → Nat
  | 0 => 0
  | k + 1 => if inn (byL l (k + 1)) then prevFrom l k else k + 1
def prevI (l : List UInt8) (p : Int) : Int := if placeB l p = true ∧ p ≠ 0 then prevFrom l (p.toNat - 1) else -1
def cntL (l : List UInt8) : Nat := (l.filter fun b => !inn b.toNat).length
def countI (l : List UInt8) : Int := if validL l then cntL l else 0
def offF : List UInt8 → Nat → Int → Int
  | [], i, k => if 0 < k then -1 else i
  | b :: t, i, k => if inn b.toNat then offF t (i + 1) k else if k = 0 then i else offF t (i + 1) (k - 1)
def offI (l : List UInt8) (k : Int) : Int := if k < 0 ∨ validL l = false then -1 else offF l 0 k

theorem szL_pos {l : List UInt8} (h : szL l ≠ 0) : l.length ≠ 0 ∧ (szL l : Int) = fSize (byL l 0) ∧ szL l ≤ l.length ∧ begOk l (szL l) = true := by
  have hle := szL_le l
  have h0 : l.length ≠ 0 := by omega
  refine ⟨h0, ?_⟩
  have hlo := fSize_lo (byL l 0)
  unfold szL at h hle ⊢
  unfold begA begB at h hle ⊢
  simp only [if_neg h0] at h hle ⊢
  by_cases hb : begOk l (min l.length (fSize (byL l 0)).toNat) = true
  · simp only [if_pos hb] at h hle ⊢
    by_cases hc : min (l.length : Int) (fSize (byL l 0)) < fSize (byL l 0)
    · simp only [if_pos hc] at h; omega
    · simp only [if_neg hc] at h hle ⊢
      refine ⟨by omega, hle, ?_⟩
      rw [Nat.min_eq_right (by omega)] at hb
      exact hb
  · simp only [if_neg hb] at h; simp at h
theorem szL_of {l : List UInt8} {n : Nat} (h0 : l.length ≠ 0) (hn : (n : Int) = fSize (byL l 0)) (hle : n ≤ l.length) (hb : begOk l n = true) : szL l = n := by
  have hm : min l.length (fSize (byL l 0)).toNat = n := by omega
  have hb' : begOk l (min l.length (fSize (byL l 0)).toNat) = true := by rw [hm]; exact hb
  unfold szL begA begB
  simp only [if_neg h0, if_pos hb']
  rw [if_neg (by omega)]; omega
theorem inn_first {l : List UInt8} (h : szL l ≠ 0) : inn (byL l 0) = false := by
  obtain ⟨_, h1, _, _⟩ := szL_pos h
  apply inn_f'
  have hz : fSize (byL l 0) ≠ 0 := by omega
  unfold fSize at hz
  repeat' (first | omega | split at hz)
theorem inn_rest {l : List UInt8} (h : szL l ≠ 0) {j : Nat} (h1 : 1 ≤ j) (hj : j < szL l) : inn (byL l j) = true := by
  obtain ⟨_, hf, _, hb⟩ := szL_pos h
  have := begOk_at l hb h1 hj
  unfold okb at this
  apply inn_t'
  split at this
  · simp only [Bool.and_eq_true, decide_eq_true_eq] at this
    have h2 := fSize_hi (byL l 0)
    unfold fLow fTop at this
    unfold fSize at hf
    repeat' (first | omega | split at this | split at hf)
  · simp only [Bool.and_eq_true, decide_eq_true_eq] at this; omega
theorem valid_sz {l : List UInt8} (h : validL l = true) (h0 : l.length ≠ 0) : szL l ≠ 0 := by
  intro hz; rw [validL_bad h0 hz] at h; exact absurd h (by simp)
theorem valid_first {l : List UInt8} (h : validL l = true) (h0 : l.length ≠ 0) : inn (byL l 0) = false := inn_first (valid_sz h h0)

theorem place_cases (s : ByteArray) (p : Int) : placeB (ls s) p = false ∨ ∃ k : Nat, p = k ∧ k ≤ s.size ∧ placeB (ls s) k = true ∧ validL (ls s) = true := by
  rcases Bool.eq_false_or_eq_true (placeB (ls s) p) with h | h
  · refine .inr ⟨p.toNat, ?_⟩
    have h' := h
    unfold placeB at h'
    simp only [Bool.and_eq_true, decide_eq_true_eq, ls_len] at h'
    refine ⟨by omega, by omega, ?_, h'.2⟩
    rw [Int.toNat_of_nonneg h'.1.1.1]; exact h
  · exact .inl h
theorem cnt_succ (l : List UInt8) (j : Nat) (h : j < l.length) : cntL (l.take (j + 1)) = cntL (l.take j) + if inn (byL l j) = true then 0 else 1 := by
  unfold cntL byL
  rw [List.take_succ_eq_append_getElem h, List.filter_append, List.length_append, List.getD_eq_getElem?_getD, List.getElem?_eq_getElem h]
  rcases Bool.eq_false_or_eq_true (inn ↑l[j].toNat) with e | e <;> simp [List.filter_cons, e]
theorem cnt_le (l : List UInt8) (j : Nat) : cntL (l.take j) ≤ j := by
  unfold cntL
  exact Nat.le_trans (List.length_filter_le _ _) (List.length_take_le _ _)
theorem drop_cons (l : List UInt8) (j : Nat) (h : j < l.length) : l.drop j = l[j] :: l.drop (j + 1) := (List.drop_eq_getElem_cons h)
theorem off_step (l : List UInt8) (j : Nat) (k : Int) (h : j < l.length) : offF (l.drop j) j k = if inn (byL l j) = true then offF (l.drop (j + 1)) (j + 1) k else if k = 0 then (j : Int) else offF (l.drop (j + 1)) (j + 1) (k - 1) := by
  rw [drop_cons l j h]
  unfold byL
  rw [List.getD_eq_getElem?_getD, List.getElem?_eq_getElem h]
  simp [offF]

end Go.Proofs.YtckfdehendifoaaDoor
/- A rune by its number: plain facts. -/
namespace Go.Proofs.YtckfdehendifoaaDoor
open Go.RowKit
set_option linter.unusedVariables false
set_option linter.unusedSimpArgs false
def bytesL (n : Int) : List UInt8 :=
  if n < 0 ∨ 1114111 < n ∨ 55296 ≤ n ∧ n < 57344 then []
  else if n < 128 then [b8 n]
  else if n < 2048 then [b8 (192 + n / 64), b8 (128 + n % 64)]
  else if n < 65536 then [b8 (224 + n / 4096), b8 (128 + n / 64 % 64), b8 (128 + n % 64)]
  else [b8 (240 + n / 262144), b8 (128 + n / 4096 % 64), b8 (128 + n / 64 % 64), b8 (128 + n % 64)]
def num2 (a b : Int) : Int := if a - 192 < 0 then -1 else if b - 128 < 0 ∨ 63 < b - 128 then -1 else 64 * (a - 192) + (b - 128)
def num3 (a b c : Int) : Int := if a - 224 < 0 then -1 else if b - 128 < 0 ∨ 63 < b - 128 then -1 else if c - 128 < 0 ∨ 63 < c - 128 then -1 else 64 * (64 * (a - 224) + (b - 128)) + (c - 128)
def num4 (a b c d : Int) : Int := if a - 240 < 0 then -1 else if b - 128 < 0 ∨ 63 < b - 128 then -1 else if c - 128 < 0 ∨ 63 < c - 128 then -1 else if d - 128 < 0 ∨ 63 < d - 128 then -1 else 64 * (64 * (64 * (a - 240) + (b - 128)) + (c - 128)) + (d - 128)
def numI (l : List UInt8) : Int :=
  if l.length = 1 then byL l 0 else if l.length = 2 then num2 (byL l 0) (byL l 1) else if l.length = 3 then num3 (byL l 0) (byL l 1) (byL l 2) else num4 (byL l 0) (byL l 1) (byL l 2) (byL l 3)
theorem numI_1 {l : List UInt8} (h : l.length = 1) : numI l = byL l 0 := by simp [numI, h]
theorem numI_2 {l : List UInt8} (h : l.length = 2) : numI l = num2 (byL l 0) (byL l 1) := by simp [numI, h]
theorem numI_3 {l : List UInt8} (h : l.length = 3) : numI l = num3 (byL l 0) (byL l 1) (byL l 2) := by simp [numI, h]
theorem numI_4 {l : List UInt8} (h : l.length = 4) : numI l = num4 (byL l 0) (byL l 1) (byL l 2) (byL l 3) := by simp [numI, h]
def isL (l : List UInt8) : Bool := decide (l.length ≠ 0) && decide (szL l = l.length)
theorem is_long (l : List UInt8) (h : 5 ≤ l.length) : isL l = false := by
  have := szL_hi l
  unfold isL; simp; omega
theorem is_none (l : List UInt8) (h : l.length = 0) : isL l = false := by unfold isL; simp [h]
theorem b8_eq {n : Int} {a : UInt8} (h0 : 0 ≤ n) (h1 : n < 256) : b8 n = a ↔ n = a.toNat := by
  unfold b8
  constructor
  · intro h; subst h
    rw [UInt8.toNat_ofNat']; omega
  · intro h
    apply UInt8.toNat_inj.1
    rw [UInt8.toNat_ofNat']; omega
theorem sz_iff (l : List UInt8) (n : Nat) (hn : n = l.length) (h0 : n ≠ 0) : szL l = n ↔ (n : Int) = fSize (byL l 0) ∧ begOk l n = true := by
  subst hn
  constructor
  · intro h
    obtain ⟨_, h2, _, h4⟩ := szL_pos (l := l) (by omega)
    rw [h] at h2 h4; exact ⟨h2, h4⟩
  · rintro ⟨h2, h4⟩
    exact szL_of (by omega) h2 (Nat.le_refl _) h4
theorem beg2 (a b : UInt8) (r : List UInt8) : begOk (a :: b :: r) 2 = okb a.toNat 1 b.toNat := by
  rw [begOk_succ, begOk_succ]; simp [begOk, byL]
theorem beg3 (a b c : UInt8) (r : List UInt8) : begOk (a :: b :: c :: r) 3 = (okb a.toNat 1 b.toNat && okb a.toNat 2 c.toNat) := by
  rw [begOk_succ, beg2]; simp [byL]
theorem beg4 (a b c d : UInt8) (r : List UInt8) : begOk (a :: b :: c :: d :: r) 4 = (okb a.toNat 1 b.toNat && okb a.toNat 2 c.toNat && okb a.toNat 3 d.toNat) := by
  rw [begOk_succ, beg3]; simp [byL]
theorem sz1 (a : UInt8) : szL [a] = 1 ↔ a.toNat < 128 := by
  rw [sz_iff [a] 1 rfl (by omega)]
  have : begOk [a] 1 = true := by rw [begOk_succ]; simp [begOk]
  simp only [this, and_true, byL, List.getD_cons_zero]
  unfold fSize
  constructor
  · intro h; repeat' (first | omega | split at h)
  · intro h; rw [if_pos (by omega)]; rfl
theorem sz2 (a b : UInt8) : szL [a, b] = 2 ↔ 194 ≤ a.toNat ∧ a.toNat < 224 ∧ 128 ≤ b.toNat ∧ b.toNat < 192 := by
  rw [sz_iff [a, b] 2 rfl (by omega), beg2]
  simp only [byL, List.getD_cons_zero]
  unfold okb fSize fLow fTop
  constructor
  · rintro ⟨h, h2⟩; simp only [if_true, Bool.and_eq_true, decide_eq_true_eq] at h2
    repeat' (first | omega | split at h | split at h2)
  · intro h; simp only [if_true, Bool.and_eq_true, decide_eq_true_eq]
    repeat' (first | omega | split)
theorem sz3 (a b c : UInt8) : szL [a, b, c] = 3 ↔ 224 ≤ a.toNat ∧ a.toNat < 240 ∧ 128 ≤ b.toNat ∧ b.toNat < 192 ∧ 128 ≤ c.toNat ∧ c.toNat < 192 ∧ (a.toNat = 224 → 160 ≤ b.toNat) ∧ (a.toNat = 237 → b.toNat < 160) := by
  rw [sz_iff [a, b, c] 3 rfl (by omega), beg3]
  simp only [byL, List.getD_cons_zero]
  unfold okb fSize fLow fTop
  constructor
  · rintro ⟨h, h2⟩; simp only [if_true, Bool.and_eq_true, decide_eq_true_eq, Nat.reduceEqDiff, if_false] at h2
    obtain ⟨⟨h2, h3⟩, h4, h5⟩ := h2
    repeat' (first | omega | split at h | split at h2 | split at h3)
  · intro h; simp only [if_true, Bool.and_eq_true, decide_eq_true_eq, Nat.reduceEqDiff, if_false]
    repeat' (first | omega | split)
theorem sz4 (a b c d : UInt8) : szL [a, b, c, d] = 4 ↔ 240 ≤ a.toNat ∧ a.toNat ≤ 244 ∧ 128 ≤ b.toNat ∧ b.toNat < 192 ∧ 128 ≤ c.toNat ∧ c.toNat < 192 ∧ 128 ≤ d.toNat ∧ d.toNat < 192 ∧ (a.toNat = 240 → 144 ≤ b.toNat) ∧ (a.toNat = 244 → b.toNat < 144) := by
  rw [sz_iff [a, b, c, d] 4 rfl (by omega), beg4]
  simp only [byL, List.getD_cons_zero]
  unfold okb fSize fLow fTop
  constructor
  · rintro ⟨h, h2⟩; simp only [if_true, Bool.and_eq_true, decide_eq_true_eq, Nat.reduceEqDiff, if_false] at h2
    obtain ⟨⟨⟨h2, h3⟩, h4, h5⟩, h6, h7⟩ := h2
    repeat' (first | omega | split at h | split at h2 | split at h3)
  · intro h; simp only [if_true, Bool.and_eq_true, decide_eq_true_eq, Nat.reduceEqDiff, if_false]
    repeat' (first | omega | split)
theorem bytes_bad : bytesL (-1) = [] := by rfl
theorem is_eq1 (a : UInt8) : bytesL (a.toNat : Int) = [a] ↔ szL [a] = 1 := by
  have ha := a.toNat_lt
  rw [sz1]
  unfold bytesL
  repeat' split
  all_goals simp only [List.cons.injEq, and_true, reduceCtorEq, and_false, false_iff, false_and]
  all_goals first | omega | (rw [b8_eq (by omega) (by omega)]; omega)
theorem is_eq2 (a b : UInt8) : bytesL (num2 a.toNat b.toNat) = [a, b] ↔ szL [a, b] = 2 := by
  have ha := a.toNat_lt
  have hb := b.toNat_lt
  rw [sz2]
  by_cases hw : 192 ≤ a.toNat ∧ 128 ≤ b.toNat ∧ b.toNat < 192
  · obtain ⟨n, hn⟩ : ∃ n : Int, n = 64 * ((a.toNat : Int) - 192) + ((b.toNat : Int) - 128) := ⟨_, rfl⟩
    have : num2 a.toNat b.toNat = n := by unfold num2; rw [if_neg (by omega), if_neg (by omega), hn]
    rw [this]
    unfold bytesL
    repeat' split
    all_goals simp only [List.cons.injEq, and_true, reduceCtorEq, and_false, false_iff, false_and]
    all_goals first | omega | (rw [b8_eq (by omega) (by omega), b8_eq (by omega) (by omega)]; omega)
  · have : num2 a.toNat b.toNat = -1 := by unfold num2; repeat' (first | omega | split)
    rw [this, bytes_bad]; simp; omega
theorem is_eq3 (a b c : UInt8) : bytesL (num3 a.toNat b.toNat c.toNat) = [a, b, c] ↔ szL [a, b, c] = 3 := by
  have ha := a.toNat_lt
  have hb := b.toNat_lt
  have hc := c.toNat_lt
  rw [sz3]
  by_cases hw : 224 ≤ a.toNat ∧ 128 ≤ b.toNat ∧ b.toNat < 192 ∧ 128 ≤ c.toNat ∧ c.toNat < 192
  · obtain ⟨n, hn⟩ : ∃ n : Int, n = 64 * (64 * ((a.toNat : Int) - 224) + ((b.toNat : Int) - 128)) + ((c.toNat : Int) - 128) := ⟨_, rfl⟩
    have : num3 a.toNat b.toNat c.toNat = n := by unfold num3; rw [if_neg (by omega), if_neg (by omega), if_neg (by omega), hn]
    rw [this]
    unfold bytesL
    repeat' split
    all_goals simp only [List.cons.injEq, and_true, reduceCtorEq, and_false, false_iff, false_and]
    all_goals first | omega | (rw [b8_eq (by omega) (by omega), b8_eq (by omega) (by omega), b8_eq (by omega) (by omega)]; omega)
  · have : num3 a.toNat b.toNat c.toNat = -1 := by unfold num3; repeat' (first | omega | split)
    rw [this, bytes_bad]; simp; omega
theorem is_eq4 (a b c d : UInt8) : bytesL (num4 a.toNat b.toNat c.toNat d.toNat) = [a, b, c, d] ↔ szL [a, b, c, d] = 4 := by
  have ha := a.toNat_lt
  have hb := b.toNat_lt
  have hc := c.toNat_lt
  have hd := d.toNat_lt
  rw [sz4]
  by_cases hw : 240 ≤ a.toNat ∧ 128 ≤ b.toNat ∧ b.toNat < 192 ∧ 128 ≤ c.toNat ∧ c.toNat < 192 ∧ 128 ≤ d.toNat ∧ d.toNat < 192
  · obtain ⟨n, hn⟩ : ∃ n : Int, n = 64 * (64 * (64 * ((a.toNat : Int) - 240) + ((b.toNat : Int) - 128)) + ((c.toNat : Int) - 128)) + ((d.toNat : Int) - 128) := ⟨_, rfl⟩
    have : num4 a.toNat b.toNat c.toNat d.toNat = n := by unfold num4; rw [if_neg (by omega), if_neg (by omega), if_neg (by omega), if_neg (by omega), hn]
    rw [this]
    unfold bytesL
    repeat' split
    all_goals simp only [List.cons.injEq, and_true, reduceCtorEq, and_false, false_iff, false_and]
    all_goals first | omega | (rw [b8_eq (by omega) (by omega), b8_eq (by omega) (by omega), b8_eq (by omega) (by omega), b8_eq (by omega) (by omega)]; omega)
  · have : num4 a.toNat b.toNat c.toNat d.toNat = -1 := by unfold num4; repeat' (first | omega | split)
    rw [this, bytes_bad]; simp; omega
theorem is_eq (l : List UInt8) (h1 : 1 ≤ l.length) (h4 : l.length ≤ 4) : (bytesL (numI l) == l) = isL l := by
  rw [Bool.eq_iff_iff, beq_iff_eq]
  unfold isL
  simp only [Bool.and_eq_true, decide_eq_true_eq]
  match l, h1, h4 with
  | [a], _, _ => rw [numI_1 rfl]; simpa [byL] using is_eq1 a
  | [a, b], _, _ => rw [numI_2 rfl]; simpa [byL] using is_eq2 a b
  | [a, b, c], _, _ => rw [numI_3 rfl]; simpa [byL] using is_eq3 a b c
  | [a, b, c, d], _, _ => rw [numI_4 rfl]; simpa [byL] using is_eq4 a b c d
  | a :: b :: c :: d :: e :: r, _, h => simp at h

end Go.Proofs.YtckfdehendifoaaDoor
/- The places of a text's runes: plain facts. -/
namespace Go.Proofs.YtckfdehendifoaaDoor
open Go.RowKit
set_option linter.unusedVariables false
set_option linter.unusedSimpArgs false
def plcTo (l : List UInt8) (k : Nat) : List Nat := (List.range k).filter fun p => !inn (byL l p)
def plcs (l : List UInt8) : List Nat := plcTo l l.length ++ [l.length]
def splitI (l : List UInt8) : List Int := if validL l then (plcs l).map Int.ofNat else []
theorem plcTo_succ (l : List UInt8) (k : Nat) : plcTo l (k + 1) = plcTo l k ++ if inn (byL l k) then [] else [k] := by
  unfold plcTo; rw [List.range_succ, List.filter_append]
  rcases Bool.eq_false_or_eq_true (inn (byL l k)) with h | h <;> simp [h]
theorem plcTo_len (l : List UInt8) (k : Nat) : (plcTo l k).length ≤ k := by
  unfold plcTo; exact Nat.le_trans (List.length_filter_le _ _) (by simp)
theorem sz_take (l : List UInt8) (n : Nat) (hn : 1 ≤ n) (hl : n ≤ l.length) : szL (l.take n) = n ↔ szL l = n := by
  have hby : ∀ k, k < n → byL (l.take n) k = byL l k := by
    intro k hk; unfold byL; simp [List.getD_eq_getElem?_getD, List.getElem?_take, hk]
  have hbeg : begOk (l.take n) n = begOk l n := by
    have : ∀ m, m ≤ n → begOk (l.take n) m = begOk l m := by
      intro m
      induction m with
      | zero => intro _; simp [begOk]
      | succ m ih => intro hm; rw [begOk_succ, begOk_succ, ih (by omega), hby 0 (by omega), hby m (by omega)]
    exact this n (Nat.le_refl _)
  have hlen : (l.take n).length = n := by rw [List.length_take]; omega
  constructor
  · intro h
    obtain ⟨_, h2, _, h4⟩ := szL_pos (l := l.take n) (by rw [h]; omega)
    rw [h, hby 0 (by omega)] at h2
    rw [h, hbeg] at h4
    exact szL_of (by omega) h2 hl h4
  · intro h
    obtain ⟨_, h2, _, h4⟩ := szL_pos (l := l) (by rw [h]; omega)
    rw [h] at h2 h4
    exact szL_of (by omega) (by rw [hby 0 (by omega)]; exact h2) (by omega) (by rw [hbeg]; exact h4)
theorem is_take (l : List UInt8) (n : Nat) (hn : 1 ≤ n) (hl : n ≤ l.length) : isL (l.take n) = decide (szL l = n) := by
  have hlen : (l.take n).length = n := by rw [List.length_take]; omega
  have := sz_take l n hn hl
  unfold isL
  rw [hlen]
  have h0 : decide (n ≠ 0) = true := by simp; omega
  rw [h0, Bool.true_and]
  exact decide_eq_decide.2 this
theorem plcTo_add (l : List UInt8) (i n : Nat) (hn : szL (l.drop i) = n) (h0 : n ≠ 0) : plcTo l (i + n) = plcTo l i ++ [i] := by
  have h1 := inn_first (l := l.drop i) (by omega)
  have h2 : ∀ m, 1 ≤ m → m ≤ n → plcTo l (i + m) = plcTo l i ++ [i] := by
    intro m
    induction m with
    | zero => intro h; omega
    | succ m ih =>
      intro _ hm
      rw [← Nat.add_assoc, plcTo_succ]
      rcases Nat.eq_zero_or_pos m with h | h
      · subst h
        rw [byL_drop] at h1
        simp only [Nat.add_zero] at h1 ⊢
        rw [h1]; simp
      · have h3 := inn_rest (l := l.drop i) (by omega) (j := m) (by omega) (by omega)
        rw [byL_drop] at h3
        rw [h3, ih (by omega) (by omega)]; simp
  exact h2 n (by omega) (Nat.le_refl _)
theorem splitI_bad {l : List UInt8} (h : validL l = false) : splitI l = [] := by unfold splitI; simp [h]
theorem splitI_ok {l : List UInt8} (h : validL l = true) : splitI l = (plcTo l l.length).map Int.ofNat ++ [(l.length : Int)] := by unfold splitI plcs; simp [h]
theorem splitI_len (l : List UInt8) : (splitI l).length ≤ l.length + 1 := by
  unfold splitI plcs; have := plcTo_len l l.length
  split <;> simp; omega
def findF : List Int → Int → Nat → Int
  | [], _, _ => -1
  | y :: r, x, i => if y = x then i else findF r x (i + 1)
theorem findF_step (xs : List Int) (x : Int) (j : Nat) (h : j < xs.length) : findF (xs.drop j) x j = if xs[j] = x then (j : Int) else findF (xs.drop (j + 1)) x (j + 1) := by
  rw [List.drop_eq_getElem_cons h, findF]
theorem findF_end (xs : List Int) (x : Int) (j : Nat) (h : xs.length ≤ j) : findF (xs.drop j) x j = -1 := by
  rw [List.drop_eq_nil_of_le h]; rfl
theorem findF_none : ∀ (xs : List Int) (x : Int) (i : Nat), x ∉ xs → findF xs x i = -1
  | [], _, _, _ => rfl
  | y :: r, x, i, h => by
    have h1 : y ≠ x := fun e => h (by simp [e])
    have h2 : x ∉ r := fun e => h (by simp [e])
    rw [findF, if_neg h1, findF_none r x (i + 1) h2]
theorem findF_some : ∀ (xs ys : List Int) (x : Int) (i : Nat), x ∉ xs → findF (xs ++ x :: ys) x i = (i + xs.length : Nat)
  | [], ys, x, i, _ => by simp [findF]
  | y :: r, ys, x, i, h => by
    have h1 : y ≠ x := fun e => h (by simp [e])
    have h2 : x ∉ r := fun e => h (by simp [e])
    rw [List.cons_append, findF, if_neg h1, findF_some r ys x (i + 1) h2]
    simp; omega
theorem mem_plcTo (l : List UInt8) (k p : Nat) : p ∈ plcTo l k ↔ p < k ∧ inn (byL l p) = false := by
  unfold plcTo; simp
theorem place_mem (l : List UInt8) (p : Int) : placeB l p = true ↔ p ∈ splitI l := by
  unfold placeB
  rcases Bool.eq_false_or_eq_true (validL l) with h | h
  · rw [splitI_ok h]
    simp only [h, Bool.and_true, Bool.and_eq_true, decide_eq_true_eq, Bool.or_eq_true, Bool.not_eq_true', List.mem_append, List.mem_map, List.mem_singleton]
    constructor
    · rintro ⟨⟨h0, h1⟩, h2⟩
      by_cases he : p = l.length
      · exact .inr he
      · left
        refine ⟨p.toNat, (mem_plcTo _ _ _).2 ⟨by omega, ?_⟩, by simp; omega⟩
        rcases h2 with h2 | h2
        · exact absurd h2 he
        · exact h2
    · rintro (⟨a, ha, rfl⟩ | rfl)
      · obtain ⟨h1, h2⟩ := (mem_plcTo _ _ _).1 ha
        refine ⟨⟨by simp, by simp; omega⟩, .inr (by simpa using h2)⟩
      · simp
  · rw [splitI_bad h]; simp [h]
theorem findF_nonneg (xs : List Int) (x : Int) : decide (0 ≤ findF xs x 0) = decide (x ∈ xs) := by
  by_cases h : x ∈ xs
  · obtain ⟨a, b, rfl, hn⟩ := List.eq_append_cons_of_mem h
    rw [findF_some a b x 0 hn]; simp
  · rw [findF_none xs x 0 h]; simp [h]
theorem place_find (l : List UInt8) (p : Int) : decide (0 ≤ findF (splitI l) p 0) = placeB l p := by
  rw [findF_nonneg, Bool.eq_iff_iff, decide_eq_true_eq]; exact (place_mem l p).symm

end Go.Proofs.YtckfdehendifoaaDoor
/- The places of a text's runes, one by one: plain facts. -/
namespace Go.Proofs.YtckfdehendifoaaDoor
open Go.RowKit
set_option linter.unusedVariables false
set_option linter.unusedSimpArgs false
theorem valid_drop : ∀ (m : Nat) (l : List UInt8) (k : Nat), l.length ≤ m → validL l = true → k ≤ l.length → (k = l.length ∨ inn (byL l k) = false) → validL (l.drop k) = true
  | m, l, k, hm, hv, hk, hb => by
    rcases Nat.eq_zero_or_pos k with h0 | h0
    · subst h0; simpa using hv
    · have hl : l.length ≠ 0 := by omega
      have hz := valid_sz hv hl
      have hle := szL_le l
      by_cases hkn : k < szL l
      · have := inn_rest hz h0 hkn
        rcases hb with hb | hb
        · omega
        · rw [hb] at this; exact absurd this (by simp)
      · match m, hm with
        | 0, hm => omega
        | m + 1, hm =>
          have := valid_drop m (l.drop (szL l)) (k - szL l) (by rw [List.length_drop]; omega) (by rw [← validL_step hl hz]; exact hv) (by rw [List.length_drop]; omega) (by
            rw [List.length_drop, byL_drop, Nat.add_sub_cancel' (by omega)]
            rcases hb with hb | hb
            · exact .inl (by omega)
            · exact .inr hb)
          rw [List.drop_drop, Nat.add_sub_cancel' (by omega)] at this
          exact this
theorem valid_at {l : List UInt8} {k : Nat} (h : placeB l k = true) : validL (l.drop k) = true ∧ k ≤ l.length ∧ validL l = true := by
  unfold placeB at h
  simp only [Bool.and_eq_true, decide_eq_true_eq, Bool.or_eq_true, Bool.not_eq_true', Int.toNat_natCast] at h
  refine ⟨valid_drop l.length l k (Nat.le_refl _) h.2 (by omega) ?_, by omega, h.2⟩
  rcases h.1.2 with h | h
  · exact .inl (by omega)
  · exact .inr h
theorem sz_at {l : List UInt8} {k : Nat} (h : placeB l k = true) (hk : k < l.length) : szL (l.drop k) ≠ 0 ∧ k + szL (l.drop k) ≤ l.length := by
  have h1 := valid_at h
  have h2 := szL_le (l.drop k)
  rw [List.length_drop] at h2
  exact ⟨valid_sz h1.1 (by rw [List.length_drop]; omega), by omega⟩
theorem place_mk {l : List UInt8} {k : Nat} (hv : validL l = true) (hk : k ≤ l.length) (hb : k = l.length ∨ inn (byL l k) = false) : placeB l k = true := by
  unfold placeB
  simp only [Bool.and_eq_true, decide_eq_true_eq, Bool.or_eq_true, Bool.not_eq_true', Int.toNat_natCast]
  refine ⟨⟨⟨by omega, by omega⟩, ?_⟩, hv⟩
  rcases hb with h | h
  · exact .inl (by omega)
  · exact .inr h
theorem place_next {l : List UInt8} {k : Nat} (h : placeB l k = true) (hk : k < l.length) : placeB l ((k + szL (l.drop k) : Nat) : Int) = true := by
  obtain ⟨h1, _, h3⟩ := valid_at h
  obtain ⟨hz, hle⟩ := sz_at h hk
  refine place_mk h3 hle ?_
  by_cases he : k + szL (l.drop k) = l.length
  · exact .inl he
  · right
    rw [validL_step (by rw [List.length_drop]; omega) hz, List.drop_drop] at h1
    have := valid_first h1 (by rw [List.length_drop]; omega)
    rw [byL_drop] at this; simpa using this
def frm (l : List UInt8) (k : Nat) : List Int := ((List.range' k (l.length - k)).filter fun p => !inn (byL l p)).map Int.ofNat ++ [(l.length : Int)]
theorem split_at {l : List UInt8} (hv : validL l = true) (k : Nat) (hk : k ≤ l.length) : splitI l = (plcTo l k).map Int.ofNat ++ frm l k := by
  rw [splitI_ok hv]
  unfold frm plcTo
  have : List.range l.length = List.range k ++ List.range' k (l.length - k) := by
    have := @List.range'_append_1 0 k (l.length - k)
    rw [Nat.add_sub_cancel' hk, Nat.zero_add] at this
    rw [List.range_eq_range', List.range_eq_range', this]
  rw [this, List.filter_append, List.map_append, List.append_assoc]
theorem frm_end (l : List UInt8) : frm l l.length = [(l.length : Int)] := by simp [frm]
theorem frm_step {l : List UInt8} {k : Nat} (h : placeB l k = true) (hk : k < l.length) : frm l k = (k : Int) :: frm l (k + szL (l.drop k)) := by
  obtain ⟨_, _, hv⟩ := valid_at h
  obtain ⟨hz, hle⟩ := sz_at h hk
  have h1 := split_at hv k (by omega)
  have h2 := split_at hv (k + szL (l.drop k)) hle
  rw [plcTo_add l k _ rfl hz, List.map_append, List.append_assoc] at h2
  rw [h1] at h2
  simpa using List.append_cancel_left h2
theorem frm_head {l : List UInt8} {k : Nat} (h : placeB l k = true) : ∃ r, frm l k = (k : Int) :: r := by
  by_cases hk : k < l.length
  · exact ⟨_, frm_step h hk⟩
  · have := (valid_at h).2.1
    have hk' : k = l.length := by omega
    subst hk'; exact ⟨[], frm_end l⟩
theorem find_at {l : List UInt8} {k : Nat} (h : placeB l k = true) : findF (splitI l) k 0 = ((plcTo l k).length : Int) := by
  obtain ⟨_, hk, hv⟩ := valid_at h
  obtain ⟨r, hr⟩ := frm_head h
  rw [split_at hv k hk, hr, findF_some _ _ _ _ (by
    intro hm
    simp only [List.mem_map] at hm
    obtain ⟨a, ha, hb⟩ := hm
    have := (mem_plcTo _ _ _).1 ha
    simp at hb; omega)]
  simp
theorem find_bad {l : List UInt8} {p : Int} (h : placeB l p = false) : findF (splitI l) p 0 = -1 := by
  refine findF_none _ _ _ fun hm => ?_
  rw [(place_mem l p).2 hm] at h; exact absurd h (by simp)
theorem find_range (xs : List Int) (x : Int) : -1 ≤ findF xs x 0 ∧ findF xs x 0 < xs.length := by
  by_cases h : x ∈ xs
  · obtain ⟨a, b, rfl, hn⟩ := List.eq_append_cons_of_mem h
    rw [findF_some a b x 0 hn]; simp; omega
  · rw [findF_none xs x 0 h]; omega
theorem next_end {l : List UInt8} {k : Nat} (h : placeB l k = true) (hk : k = l.length) : (splitI l).length = (plcTo l k).length + 1 ∧ nextI l k = -1 := by
  obtain ⟨_, _, hv⟩ := valid_at h
  subst hk
  rw [split_at hv _ (Nat.le_refl _), frm_end]
  refine ⟨by simp, ?_⟩
  unfold nextI; rw [if_neg (by simp)]
theorem next_at {l : List UInt8} {k : Nat} (h : placeB l k = true) (hk : k < l.length) : (plcTo l k).length + 1 < (splitI l).length ∧ (splitI l).getD ((plcTo l k).length + 1) 0 = nextI l k := by
  obtain ⟨_, _, hv⟩ := valid_at h
  obtain ⟨r, hr⟩ := frm_head (place_next h hk)
  rw [split_at hv k (by omega), frm_step h hk, hr]
  refine ⟨by simp, ?_⟩
  unfold nextI
  rw [if_pos ⟨h, by omega⟩, Int.toNat_natCast]
  rw [List.getD_eq_getElem?_getD, List.getElem?_append_right (by simp)]
  simp
theorem prev_list (l : List UInt8) (h0 : inn (byL l 0) = false) : ∀ j, ∃ xs, plcTo l (j + 1) = xs ++ [prevFrom l j]
  | 0 => ⟨[], by rw [plcTo_succ, h0]; simp [plcTo, prevFrom]⟩
  | j + 1 => by
    rw [plcTo_succ]
    rcases Bool.eq_false_or_eq_true (inn (byL l (j + 1))) with h | h
    · obtain ⟨xs, hx⟩ := prev_list l h0 j
      exact ⟨xs, by rw [h, hx]; simp [prevFrom, h]⟩
    · exact ⟨plcTo l (j + 1), by rw [h]; simp [prevFrom, h]⟩
theorem prev_at {l : List UInt8} {k : Nat} (h : placeB l k = true) (hk : 0 < k) : 1 ≤ (plcTo l k).length ∧ (splitI l).getD ((plcTo l k).length - 1) 0 = prevI l k ∧ (plcTo l k).length - 1 < (splitI l).length := by
  obtain ⟨_, hle, hv⟩ := valid_at h
  obtain ⟨j, rfl⟩ : ∃ j, k = j + 1 := ⟨k - 1, by omega⟩
  obtain ⟨xs, hx⟩ := prev_list l (valid_first hv (by omega)) j
  rw [split_at hv _ hle, hx]
  unfold prevI
  rw [if_pos ⟨h, by omega⟩]
  have : ((j + 1 : Nat) : Int).toNat - 1 = j := by omega
  rw [this]
  refine ⟨by simp, ?_, by simp⟩
  simp [List.getD_eq_getElem?_getD]
theorem prev_zero {l : List UInt8} (k : Int) (hk : k = 0) : prevI l k = -1 ∧ (plcTo l k.toNat).length = 0 := by
  subst hk
  exact ⟨by unfold prevI; rw [if_neg (by simp)], by simp [plcTo]⟩
theorem plc_cnt (l : List UInt8) : ∀ k, k ≤ l.length → (plcTo l k).length = cntL (l.take k)
  | 0, _ => by simp [plcTo, cntL]
  | k + 1, h => by
    rw [plcTo_succ, cnt_succ l k (by omega), List.length_append, plc_cnt l k (by omega)]
    split <;> simp
theorem split_count (l : List UInt8) : (if (splitI l).length = 0 then (0 : Int) else (splitI l).length - 1) = countI l := by
  unfold countI
  rcases Bool.eq_false_or_eq_true (validL l) with h | h
  · rw [splitI_ok h, h]
    have := plc_cnt l l.length (Nat.le_refl _)
    rw [List.take_length] at this
    simp [this]
  · rw [splitI_bad h, h]; simp
def runeL (l : List UInt8) (p : Int) : List UInt8 := if placeB l p = true ∧ p ≠ l.length then (l.drop p.toNat).take (szL (l.drop p.toNat)) else []
theorem rune_bad {l : List UInt8} {p : Int} (h : nextI l p < 0) : runeL l p = [] := by
  unfold nextI at h; unfold runeL
  by_cases hc : placeB l p = true ∧ p ≠ l.length
  · rw [if_pos hc] at h
    have := hc.1; unfold placeB at this
    simp only [Bool.and_eq_true, decide_eq_true_eq] at this
    omega
  · rw [if_neg hc]
theorem rune_ok (s : ByteArray) (p : Int) (h : 0 ≤ nextI (ls s) p) : ∃ k n : Nat, p = k ∧ nextI (ls s) p = ((k + n : Nat) : Int) ∧ k + n ≤ s.size ∧ 1 ≤ n ∧ (⟨(runeL (ls s) p).toArray⟩ : ByteArray) = s.extract k (k + n) := by
  by_cases hc : placeB (ls s) p = true ∧ p ≠ (ls s).length
  · rcases place_cases s p with hp | ⟨k, rfl, hk, hp, hv⟩
    · rw [hp] at hc; exact absurd hc.1 (by simp)
    · have hlt : k < (ls s).length := by have := hc.2; rw [ls_len] at this ⊢; omega
      obtain ⟨hz, hle⟩ := sz_at hp hlt
      refine ⟨k, szL ((ls s).drop k), rfl, ?_, by rw [ls_len] at hle; exact hle, by omega, ?_⟩
      · unfold nextI; rw [if_pos hc, Int.toNat_natCast]; simp
      · unfold runeL
        rw [if_pos hc, Int.toNat_natCast, Lib.extract_eq]
        simp
  · unfold nextI at h; rw [if_neg hc] at h; omega

end Go.Proofs.YtckfdehendifoaaDoor
/- Texts line by line: plain facts. -/
namespace Go.Proofs.YtckfdehendifoaaDoor
open Go.RowKit
set_option linter.unusedVariables false
set_option linter.unusedSimpArgs false
def lnsF : List UInt8 → Nat → Nat → List (Nat × Nat)
  | [], st, i => [(st, i)]
  | b :: r, st, i => if b = 10 then (st, i) :: lnsF r (i + 1) (i + 1) else lnsF r st (i + 1)
def lns (l : List UInt8) : List (Nat × Nat) := lnsF l 0 0
def lst (l : List UInt8) : Nat → Nat
  | 0 => 0
  | i + 1 => if byL l i = 10 then i + 1 else lst l i
def tens (l : List UInt8) : Nat := l.count 10
def fds (l : List UInt8) (i : Nat) : Nat := tens (l.take i)
theorem tens_le (l : List UInt8) : tens l ≤ l.length := List.count_le_length
theorem byL_ten {l : List UInt8} {j : Nat} (h : j < l.length) : (byL l j = 10) = (l[j] = 10) := by
  unfold byL; rw [List.getD_eq_getElem?_getD, List.getElem?_eq_getElem h]
  simp only [Option.getD_some, eq_iff_iff]
  constructor
  · intro e; apply UInt8.toNat_inj.1; simpa using (by omega : l[j].toNat = 10)
  · intro e; rw [e]; rfl
theorem lnsF_step (l : List UInt8) (st j : Nat) (h : j < l.length) : lnsF (l.drop j) st j = if byL l j = 10 then (st, j) :: lnsF (l.drop (j + 1)) (j + 1) (j + 1) else lnsF (l.drop (j + 1)) st (j + 1) := by
  rw [List.drop_eq_getElem_cons h, lnsF]; simp only [byL_ten h]
theorem lnsF_end (l : List UInt8) (st j : Nat) (h : l.length ≤ j) : lnsF (l.drop j) st j = [(st, j)] := by
  rw [List.drop_eq_nil_of_le h]; rfl
theorem lnsF_len : ∀ (r : List UInt8) (st i : Nat), (lnsF r st i).length = r.count 10 + 1
  | [], _, _ => rfl
  | b :: r, st, i => by
    by_cases h : b = 10
    · subst h; simp [lnsF, lnsF_len r]
    · rw [lnsF, if_neg h, lnsF_len r, List.count_cons_of_ne h]
theorem lns_len (l : List UInt8) : (lns l).length = tens l + 1 := lnsF_len l 0 0
theorem fds_le (l : List UInt8) (i : Nat) : fds l i ≤ i := Nat.le_trans List.count_le_length (by simp; omega)
theorem fds_mono (l : List UInt8) (i : Nat) : fds l i ≤ tens l := List.Sublist.count_le _ (List.take_sublist _ _)
theorem fds_succ (l : List UInt8) (i : Nat) (h : i < l.length) : fds l (i + 1) = fds l i + if byL l i = 10 then 1 else 0 := by
  unfold fds tens; rw [List.take_succ_eq_append_getElem h, List.count_append]; simp only [byL_ten h]
  by_cases e : l[i] = 10 <;> simp [e, List.count_singleton]
theorem fds_all (l : List UInt8) : fds l l.length = tens l := by unfold fds; rw [List.take_length]
theorem lst_le (l : List UInt8) : ∀ i, lst l i ≤ i
  | 0 => Nat.le_refl _
  | i + 1 => by rw [lst]; have := lst_le l i; split <;> omega
theorem lns_split (l : List UInt8) : ∀ i, i ≤ l.length → ∃ a, lns l = a ++ lnsF (l.drop i) (lst l i) i ∧ a.length = fds l i
  | 0, _ => ⟨[], by simp [lns, lst], by simp [fds, tens]⟩
  | i + 1, h => by
    obtain ⟨a, ha, hl⟩ := lns_split l i (by omega)
    rw [lnsF_step l _ i (by omega)] at ha
    rw [lst, fds_succ l i (by omega)]
    by_cases e : byL l i = 10
    · simp only [if_pos e] at ha ⊢
      exact ⟨a ++ [(lst l i, i)], by rw [ha]; simp, by simp [hl]⟩
    · simp only [if_neg e] at ha ⊢
      exact ⟨a, ha, by omega⟩
theorem lnsF_head : ∀ (r : List UInt8) (st i : Nat), ∃ e q, lnsF r st i = (st, e) :: q ∧ i ≤ e ∧ e ≤ i + r.length
  | [], st, i => ⟨i, [], rfl, by omega, by simp⟩
  | b :: r, st, i => by
    by_cases h : b = 10
    · exact ⟨i, _, by rw [lnsF, if_pos h], by omega, by omega⟩
    · obtain ⟨e, q, h1, h2, h3⟩ := lnsF_head r st (i + 1)
      exact ⟨e, q, by rw [lnsF, if_neg h]; exact h1, by omega, by simp; omega⟩
theorem line_of (l : List UInt8) (p : Nat) (h : p ≤ l.length) : ∃ e, (lns l)[fds l p]? = some (lst l p, e) ∧ p ≤ e ∧ e ≤ l.length := by
  obtain ⟨a, ha, hl⟩ := lns_split l p h
  obtain ⟨e, q, h1, h2, h3⟩ := lnsF_head (l.drop p) (lst l p) p
  rw [List.length_drop] at h3
  refine ⟨e, ?_, h2, by omega⟩
  rw [ha, h1, ← hl]; simp
theorem indexByte_none : ∀ (r : List UInt8) (st i : Nat), Lib.indexByte r 10 < 0 → lnsF r st i = [(st, i + r.length)]
  | [], _, _, _ => by simp [lnsF]
  | b :: r, st, i, h => by
    have hg := Lib.indexByte_ge r 10
    unfold Lib.indexByte at h
    by_cases hb : b = 10
    · simp [hb] at h
    · have hb' : (b == 10) = false := by simpa using hb
      rw [hb'] at h
      rw [lnsF, if_neg hb, indexByte_none r st (i + 1) ?_]
      · simp; omega
      · by_cases e : Lib.indexByte r 10 == -1
        · have : Lib.indexByte r 10 = -1 := by simpa using e
          omega
        · simp [e] at h
          have : ¬ Lib.indexByte r 10 = -1 := by simpa using e
          omega
theorem indexByte_some : ∀ (r : List UInt8) (st i : Nat) (n : Nat), Lib.indexByte r 10 = n → n < r.length ∧ lnsF r st i = (st, i + n) :: lnsF (r.drop (n + 1)) (i + n + 1) (i + n + 1)
  | [], _, _, n, h => by (simp [Lib.indexByte] at h) <;> omega
  | b :: r, st, i, n, h => by
    have hg := Lib.indexByte_ge r 10
    unfold Lib.indexByte at h
    by_cases hb : b = 10
    · have : n = 0 := by simp [hb] at h; omega
      subst this
      simp [lnsF, hb]
    · have hb' : (b == 10) = false := by simpa using hb
      rw [hb'] at h
      by_cases e : Lib.indexByte r 10 == -1
      · (simp [e] at h) <;> omega
      · simp [e] at h
        have e' : ¬ Lib.indexByte r 10 = -1 := by simpa using e
        obtain ⟨m, rfl⟩ : ∃ m, n = m + 1 := ⟨n - 1, by omega⟩
        obtain ⟨h1, h2⟩ := indexByte_some r st (i + 1) m (by omega)
        refine ⟨by simp; omega, ?_⟩
        rw [lnsF, if_neg hb, h2]
        simp [Nat.add_assoc, Nat.add_comm, Nat.add_left_comm]
theorem line_next (l : List UInt8) (i : Nat) (h : i ≤ l.length) (n : Nat) (hn : Lib.indexByte (l.drop i) 10 = n) : i + n < l.length ∧ lnsF (l.drop i) i i = (i, i + n) :: lnsF (l.drop (i + n + 1)) (i + n + 1) (i + n + 1) := by
  obtain ⟨h1, h2⟩ := indexByte_some (l.drop i) i i n hn
  rw [List.length_drop] at h1
  rw [List.drop_drop] at h2
  exact ⟨by omega, by rw [h2, Nat.add_assoc]⟩
theorem line_last (l : List UInt8) (i : Nat) (h : i ≤ l.length) (hn : Lib.indexByte (l.drop i) 10 < 0) : lnsF (l.drop i) i i = [(i, l.length)] := by
  rw [indexByte_none _ _ _ hn, List.length_drop, Nat.add_sub_cancel' h]

def lcountI (l : List UInt8) : Int := if validL l then (tens l : Int) + 1 else 0
def lineI (l : List UInt8) (k : Int) : Option (Nat × Nat) := if validL l = true ∧ 0 ≤ k then (lns l)[k.toNat]? else none
def startI (l : List UInt8) (k : Int) : Int := match lineI l k with | some x => x.1 | none => -1
def endI (l : List UInt8) (k : Int) : Int := match lineI l k with | some x => x.2 | none => -1
def ofI (l : List UInt8) (p : Int) : Int := if p < 0 ∨ (l.length : Int) < p ∨ validL l = false then -1 else fds l p.toNat
theorem lines_le (l : List UInt8) : ∀ x ∈ lns l, x.1 ≤ x.2 ∧ x.2 ≤ l.length := by
  have : ∀ (r : List UInt8) (st i : Nat), st ≤ i → ∀ x ∈ lnsF r st i, x.1 ≤ x.2 ∧ x.2 ≤ i + r.length := by
    intro r
    induction r with
    | nil => intro st i h x hx; simp [lnsF] at hx; subst hx; exact ⟨h, by simp⟩
    | cons b r ih =>
      intro st i h x hx
      rw [lnsF] at hx
      split at hx
      · rcases List.mem_cons.1 hx with rfl | hx
        · exact ⟨h, by simp⟩
        · have := ih (i + 1) (i + 1) (Nat.le_refl _) x hx; simp; omega
      · have := ih st (i + 1) (by omega) x hx; simp; omega
  intro x hx
  have := this l 0 0 (Nat.le_refl _) x hx
  omega
theorem lineI_le {l : List UInt8} {k : Int} {x : Nat × Nat} (h : lineI l k = some x) : x.1 ≤ x.2 ∧ x.2 ≤ l.length ∧ validL l = true ∧ 0 ≤ k ∧ (lns l)[k.toNat]? = some x := by
  unfold lineI at h
  split at h
  · rename_i hc
    have := lines_le l x (List.mem_of_getElem? h)
    exact ⟨this.1, this.2, hc.1, hc.2, h⟩
  · cases h
theorem start_of {l : List UInt8} {p : Nat} (h : p ≤ l.length) (hv : validL l = true) : ofI l p = fds l p ∧ startI l (ofI l p) = lst l p ∧ ∃ e : Nat, endI l (ofI l p) = e ∧ p ≤ e ∧ e ≤ l.length := by
  have ho : ofI l p = fds l p := by unfold ofI; rw [if_neg (by simp [hv]; omega), Int.toNat_natCast]
  obtain ⟨e, h1, h2, h3⟩ := line_of l p h
  have hl : lineI l (fds l p) = some (lst l p, e) := by unfold lineI; rw [if_pos ⟨hv, by omega⟩, Int.toNat_natCast]; exact h1
  rw [ho]
  exact ⟨rfl, by unfold startI; rw [hl], e, by unfold endI; rw [hl], h2, h3⟩

end Go.Proofs.YtckfdehendifoaaDoor
/- Columns, and places in lines: plain facts. -/
namespace Go.Proofs.YtckfdehendifoaaDoor
open Go.RowKit
set_option linter.unusedVariables false
set_option linter.unusedSimpArgs false
def upL (l : List UInt8) (p : Nat) : List UInt8 := (l.drop (lst l p)).take (p - lst l p)
def colI (l : List UInt8) (p : Int) : Int := if placeB l p = true then countI (upL l p.toNat) else -1
def rowL (l : List UInt8) (x : Nat × Nat) : List UInt8 := (l.drop x.1).take (x.2 - x.1)
def atI (l : List UInt8) (k col : Int) : Int := match lineI l k with
  | none => -1
  | some x => if offI (rowL l x) (max col 0) < 0 then x.2 else x.1 + offI (rowL l x) (max col 0)
def endsB (l : List UInt8) (p : Nat) : Bool := decide (p = l.length) || decide (byL l p = 10)
def downTo (l : List UInt8) : Nat → Nat
  | 0 => 0
  | k + 1 => if placeB l ((k + 1 : Nat) : Int) = true then k + 1 else downTo l k
def cutI (l : List UInt8) (p : Int) : Nat := (min (max p 0) l.length).toNat
def clampI (l : List UInt8) (p : Int) : Int :=
  if validL l = true then
    let q := downTo l (cutI l p)
    if endsB l q = true ∧ lst l q < q then prevI l q else q
  else 0
def normalB (l : List UInt8) (p : Int) : Bool := placeB l p && (!endsB l p.toNat || decide (lst l p.toNat = p.toNat))
theorem downTo_le (l : List UInt8) : ∀ k, downTo l k ≤ k
  | 0 => Nat.le_refl _
  | k + 1 => by rw [downTo]; have := downTo_le l k; split <;> omega
theorem place_zero {l : List UInt8} (hv : validL l = true) : placeB l ((0 : Nat) : Int) = true := by
  refine place_mk hv (by omega) ?_
  rcases Nat.eq_zero_or_pos l.length with h | h
  · exact .inl h.symm
  · exact .inr (valid_first hv (by omega))
theorem downTo_place {l : List UInt8} (hv : validL l = true) : ∀ k, placeB l (downTo l k : Nat) = true
  | 0 => place_zero hv
  | k + 1 => by
    rw [downTo]
    split
    · assumption
    · exact downTo_place hv k
theorem downTo_hit {l : List UInt8} {k : Nat} (h : placeB l k = true) : downTo l k = k := by
  cases k with
  | zero => rfl
  | succ k => rw [downTo, if_pos h]
theorem downTo_miss {l : List UInt8} {k : Nat} (h : placeB l ((k + 1 : Nat) : Int) = false) : downTo l (k + 1) = downTo l k := by
  rw [downTo, if_neg (by rw [h]; simp)]
theorem offF_lo : ∀ (r : List UInt8) (i : Nat) (k : Int), -1 ≤ offF r i k ∧ offF r i k ≤ i + r.length
  | [], i, k => by unfold offF; split <;> simp <;> omega
  | b :: r, i, k => by
    have h1 := offF_lo r (i + 1) k
    have h2 := offF_lo r (i + 1) (k - 1)
    rw [offF]
    simp only [List.length_cons]
    split
    · omega
    · split <;> omega
theorem offI_lo (r : List UInt8) (k : Int) : -1 ≤ offI r k ∧ offI r k ≤ r.length := by
  unfold offI; have := offF_lo r 0 k; split <;> omega
theorem rowL_len {l : List UInt8} {x : Nat × Nat} (h1 : x.1 ≤ x.2) (h2 : x.2 ≤ l.length) : (rowL l x).length = x.2 - x.1 := by
  unfold rowL; rw [List.length_take, List.length_drop]; omega
theorem lst_last (s : ByteArray) (p : Nat) (hp : p ≤ s.size) : Lib.lastIndexByte (s.extract 0 p) 10 + 1 = lst (ls s) p := by
  have key : ∀ (k : Nat), k ≤ p → Lib.lastIdx (s.extract 0 p) 10 k + 1 = lst (ls s) k := by
    intro k
    induction k with
    | zero => intro _; simp [Lib.lastIdx, lst]
    | succ k ih =>
      intro hk
      have hb : (((s.extract 0 p).data[k]!).toNat : Int) = byL (ls s) k := by
        unfold byL
        have h1 : k < (s.extract 0 p).data.size := by
          have : (s.extract 0 p).size = p := by simp; omega
          exact (by rw [← this] at hk; exact hk)
        rw [getElem!_pos (s.extract 0 p).data k h1]
        have h2 : k < (ls s).length := by rw [ls_len]; omega
        rw [List.getD_eq_getElem?_getD, List.getElem?_eq_getElem h2, Option.getD_some]
        have h3 : (s.extract 0 p).data.toList = ((ls s).drop 0).take (p - 0) := Lib.extract_data s 0 p
        have h4 : (s.extract 0 p).data[k] = (s.extract 0 p).data.toList[k]'(by simpa using h1) := by simp
        rw [h4]
        congr 2
        simp only [h3]
        simp
      unfold Lib.lastIdx
      rw [lst, hb]
      by_cases h : byL (ls s) k = 10
      · simp [h]
      · simp [h]; exact ih (by omega)
  have hsz : (s.extract 0 p).size = p := by simp; omega
  unfold Lib.lastIndexByte
  rw [hsz]
  exact key p (Nat.le_refl _)

end Go.Proofs.YtckfdehendifoaaDoor
/- The place of a column, stepwise: plain facts. -/
namespace Go.Proofs.YtckfdehendifoaaDoor
open Go.RowKit
set_option linter.unusedVariables false
set_option linter.unusedSimpArgs false
theorem byL_tk (l : List UInt8) {n k : Nat} (h : k < n) : byL (l.take n) k = byL l k := by
  unfold byL; rw [List.getD_eq_getElem?_getD, List.getElem?_take_of_lt h, ← List.getD_eq_getElem?_getD]
theorem begOk_tk (l : List UInt8) {k : Nat} : ∀ n, n ≤ k → begOk (l.take k) n = begOk l n
  | 0, _ => by simp [begOk]
  | n + 1, h => by rw [begOk_succ (l.take k) n, begOk_succ l n, begOk_tk l n (by omega), byL_tk l (n := k) (k := 0) (by omega), byL_tk l (n := k) (k := n) (by omega)]
theorem sz_tk {l : List UInt8} {k : Nat} (hz : szL l ≠ 0) (hk : szL l ≤ k) : szL (l.take k) = szL l := by
  obtain ⟨h0, h1, h2, h3⟩ := szL_pos hz
  exact szL_of (by rw [List.length_take]; omega) (by rw [byL_tk _ (by omega)]; exact h1) (by rw [List.length_take]; omega) (by rw [begOk_tk l _ hk]; exact h3)
theorem valid_tk : ∀ (m : Nat) (l : List UInt8) (k : Nat), l.length ≤ m → validL l = true → k ≤ l.length → (k = l.length ∨ inn (byL l k) = false) → validL (l.take k) = true
  | 0, l, k, hm, hv, hk, hb => by
    have : k = 0 := by omega
    subst this; rw [List.take_zero]; rfl
  | m + 1, l, k, hm, hv, hk, hb => by
    by_cases h0 : k = 0
    · subst h0; rw [List.take_zero]; rfl
    · have hl : l.length ≠ 0 := by omega
      have hz := valid_sz hv hl
      have hle := szL_le l
      have hsk : szL l ≤ k := by
        rcases Nat.lt_or_ge k (szL l) with h | h
        · have := inn_rest hz (j := k) (by omega) h
          rcases hb with h2 | h2
          · omega
          · rw [h2] at this; exact absurd this (by simp)
        · exact h
      rw [validL_step (by rw [List.length_take]; omega) (by rw [sz_tk hz hsk]; exact hz), sz_tk hz hsk, List.drop_take]
      rw [validL_step hl hz] at hv
      refine valid_tk m (l.drop (szL l)) (k - szL l) (by rw [List.length_drop]; omega) hv (by rw [List.length_drop]; omega) ?_
      rcases hb with h | h
      · left; rw [List.length_drop]; omega
      · right; rw [byL_drop, Nat.add_sub_cancel' hsk]; exact h
theorem place_inn {l : List UInt8} {k : Nat} (h : placeB l k = true) : k = l.length ∨ inn (byL l k) = false := by
  unfold placeB at h
  simp only [Bool.and_eq_true, Bool.or_eq_true, decide_eq_true_eq, Bool.not_eq_true', Int.toNat_natCast] at h
  rcases h.1.2 with h | h
  · left; omega
  · right; exact h
theorem row_valid {l : List UInt8} {a b : Nat} (hab : a ≤ b) (ha : placeB l a = true) (hb : placeB l b = true) : validL (rowL l (a, b)) = true := by
  obtain ⟨h1, h2, h3⟩ := valid_at ha
  obtain ⟨_, h4, _⟩ := valid_at hb
  unfold rowL
  refine valid_tk _ _ _ (Nat.le_refl _) h1 (by rw [List.length_drop]; omega) ?_
  rcases place_inn hb with h | h
  · left; rw [List.length_drop]; simp only; omega
  · right; rw [byL_drop]; simp only; rw [Nat.add_sub_cancel' hab]; exact h
theorem row_cons {l : List UInt8} {j b : Nat} (hj : j < b) (hb : b ≤ l.length) : rowL l (j, b) = (l[j]'(by omega)) :: rowL l (j + 1, b) := by
  unfold rowL
  simp only
  rw [List.drop_eq_getElem_cons (by omega : j < l.length), show b - j = (b - (j + 1)) + 1 by omega, List.take_succ_cons]
theorem row_nil (l : List UInt8) (b : Nat) : rowL l (b, b) = [] := by unfold rowL; simp
theorem inn_get {l : List UInt8} {j : Nat} (h : j < l.length) : ((l[j].toNat : Nat) : Int) = byL l j := by
  unfold byL; rw [List.getD_eq_getElem?_getD, List.getElem?_eq_getElem h]; rfl
theorem offF_shift : ∀ (r : List UInt8) (i d : Nat) (k : Int), offF r (i + d) k = if offF r i k < 0 then -1 else offF r i k + d
  | [], i, d, k => by
    unfold offF
    split <;> simp
    omega
  | b :: r, i, d, k => by
    rw [offF, offF]
    have h1 := offF_shift r (i + 1) d k
    have h2 := offF_shift r (i + 1) d (k - 1)
    rw [show i + d + 1 = i + 1 + d by omega]
    split
    · exact h1
    · split
      · rw [if_neg (by omega)]; omega
      · exact h2
def vAt (l : List UInt8) (b p : Nat) (c : Int) : Int := if offF (rowL l (p, b)) p (max c 0) < 0 then b else offF (rowL l (p, b)) p (max c 0)
theorem vAt_eq {l : List UInt8} {k col : Int} {a b : Nat} (hl : lineI l k = some (a, b)) (hv : validL (rowL l (a, b)) = true) : atI l k col = vAt l b a col := by
  have hoff : offI (rowL l (a, b)) (max col 0) = offF (rowL l (a, b)) 0 (max col 0) := by
    unfold offI; rw [if_neg]
    rintro (h | h)
    · omega
    · rw [hv] at h; exact absurd h (by simp)
  unfold atI; rw [hl]
  simp only
  rw [hoff]
  unfold vAt
  have h := offF_shift (rowL l (a, b)) 0 a (max col 0)
  rw [Nat.zero_add] at h
  rw [h]
  split
  · rename_i h2; simp
  · rename_i h2
    rw [if_neg (by omega)]; omega
theorem vAt_end (l : List UInt8) (b : Nat) (c : Int) : vAt l b b c = b := by
  unfold vAt; rw [row_nil]; unfold offF; repeat' (first | omega | split)
theorem vAt_stop {l : List UInt8} {b p : Nat} {c : Int} (hc : c ≤ 0) (hp : p < b) (hb : b ≤ l.length) (hi : inn (byL l p) = false) : vAt l b p c = p := by
  unfold vAt
  rw [row_cons hp hb, offF, inn_get, hi, show max c 0 = 0 by omega]
  simp
  intro h; omega
theorem off_skip {l : List UInt8} {b : Nat} {k : Int} (hb : b ≤ l.length) : ∀ (d j : Nat), j + d ≤ b → (∀ i, j ≤ i → i < j + d → inn (byL l i) = true) → offF (rowL l (j, b)) j k = offF (rowL l (j + d, b)) (j + d) k
  | 0, j, _, _ => rfl
  | d + 1, j, h, hi => by
    rw [row_cons (by omega) hb, offF, inn_get, if_pos (hi j (by omega) (by omega)), off_skip hb d (j + 1) (by omega) (fun i a c => hi i (by omega) (by omega))]
    rw [show j + 1 + d = j + (d + 1) by omega]
theorem vAt_step {l : List UInt8} {b p : Nat} {c : Int} (hc : 0 < c) (hp : p < b) (hpp : placeB l p = true) (hpb : placeB l b = true) : ∃ n : Nat, nextI l p = n ∧ p < n ∧ n ≤ b ∧ placeB l n = true ∧ vAt l b p c = vAt l b n (c - 1) := by
  obtain ⟨_, hb, hv⟩ := valid_at hpb
  obtain ⟨hz, hle⟩ := sz_at hpp (by omega)
  have h1 : nextI l p = ((p + szL (l.drop p) : Nat) : Int) := by unfold nextI; rw [if_pos ⟨hpp, by omega⟩, Int.toNat_natCast]; simp
  have hin : ∀ i, p + 1 ≤ i → i < p + szL (l.drop p) → inn (byL l i) = true := by
    intro i a c
    have := inn_rest hz (j := i - p) (by omega) (by omega)
    rw [byL_drop, Nat.add_sub_cancel' (by omega)] at this; exact this
  have hnb : p + szL (l.drop p) ≤ b := by
    rcases Nat.lt_or_ge b (p + szL (l.drop p)) with h | h
    · have h3 := hin b (by omega) h
      rcases place_inn hpb with h4 | h4
      · omega
      · rw [h4] at h3; exact absurd h3 (by simp)
    · exact h
  refine ⟨_, h1, by omega, hnb, place_next hpp (by omega), ?_⟩
  have hi : inn (byL l p) = false := by
    rcases place_inn hpp with h4 | h4
    · omega
    · exact h4
  have key : offF (rowL l (p, b)) p (max c 0) = offF (rowL l (p + szL (l.drop p), b)) (p + szL (l.drop p)) (max (c - 1) 0) := by
    rw [row_cons hp hb, offF, inn_get, hi, if_neg (by simp), if_neg (by omega), show max c 0 - 1 = max (c - 1) 0 by omega]
    have := off_skip (k := max (c - 1) 0) hb (szL (l.drop p) - 1) (p + 1) (by omega) (fun i a c => hin i a (by omega))
    rw [this, show p + 1 + (szL (l.drop p) - 1) = p + szL (l.drop p) by omega]
  unfold vAt
  rw [key]

end Go.Proofs.YtckfdehendifoaaDoor
/- What utf.first hands back. -/
namespace Go.Proofs.YtckfdehendifoaaDoor
open Go.RowKit
set_option linter.unusedVariables false
set_option linter.unusedSimpArgs false
theorem ret_agg3 {a b c a' b' c' : Int} (h1 : a = a') (h2 : b = b') (h3 : c = c') : Ending.returned (.agg #[.int .i64 a, .int .u8 b, .int .u8 c]) = .returned (.agg #[.int .i64 a', .int .u8 b', .int .u8 c']) := by subst h1 h2 h3; rfl

set_option maxHeartbeats 4000000 in
set_option maxRecDepth 100000 in
theorem first_c (b : Int) (w : World) : Calls Tryd.prog 84 #[.int .u8 b] w fun e w' => e = .returned (.agg #[.int .i64 (fSize b), .int .u8 (fLow b), .int .u8 (fTop b)]) ∧ Ext w w' := by
  go_enter Tryd.func84, Tryd.ntmps84
  go_wp2
  all_goals (go_returns; refine ⟨ret_agg3 ?_ ?_ ?_, ?_⟩)
  all_goals (try simp only [beq_iff_eq, beq_eq_false_iff_ne] at *)
  all_goals (try (first | unfold fSize | unfold fLow | unfold fTop))
  all_goals (try (repeat' (first | omega | split)))
  all_goals (repeat (first | exact Ext.refl _ | exact ‹Ext _ _› | refine Ext.alloc ?_ _ | refine Ext.drew ?_ | refine Ext.drewN ?_ _ | (refine Ext.setCell ?_ (by first | omega | (simp; done) | (simp; omega)) _) | refine Ext.trans ?_ ‹Ext _ _›))

end Go.Proofs.YtckfdehendifoaaDoor
/- The contracts of the package utf: what each of its functions hands back. -/
namespace Go.Proofs.YtckfdehendifoaaDoor
open Go.RowKit
set_option linter.unusedVariables false
set_option linter.unusedSimpArgs false
theorem beg_step (s : ByteArray) (k : Nat) (hk : k < s.size) (h0 : 0 < s.size) (h : begOk (ls s) k = true) (hb : okb ↑s[0].toNat k ↑s[k].toNat = true) : begOk (ls s) (k + 1) = true := by
  rw [byL_eq s 0 h0, byL_eq s k hk] at hb
  rw [begOk_succ, h, hb]; simp
theorem beg_bad (s : ByteArray) (k : Nat) (h1 : 1 ≤ k) (hk : k < s.size) (h0 : 0 < s.size) (hn : ↑k < fSize ↑s[0].toNat) (hb : okb ↑s[0].toNat k ↑s[k].toNat = false) : 0 = begA (ls s) ∧ 0 = begB (ls s) := by
  rw [byL_eq s 0 h0] at hn
  rw [byL_eq s 0 h0, byL_eq s k hk] at hb
  have : begOk (ls s) (min (ls s).length (fSize (byL (ls s) 0)).toNat) = false := by
    rcases Bool.eq_false_or_eq_true (begOk (ls s) (min (ls s).length (fSize (byL (ls s) 0)).toNat)) with hc | hc
    · have hc := begOk_le (ls s) (k := k + 1) hc (by rw [ls_len]; omega)
      rw [begOk_succ, hb] at hc
      simp at hc; omega
    · exact hc
  rw [ls_len] at this
  unfold begA begB
  rw [ls_len]
  simp [this]
theorem beg_done (s : ByteArray) (k : Nat) (h0 : 0 < s.size) (h : begOk (ls s) k = true) (hk : fSize ↑s[0].toNat ≤ k ∨ s.size ≤ k) : min (s.size : Int) (fSize ↑s[0].toNat) = begA (ls s) ∧ fSize ↑s[0].toNat = begB (ls s) := by
  rw [byL_eq s 0 h0] at hk ⊢
  have := begOk_le (ls s) (k := min (ls s).length (fSize (byL (ls s) 0)).toNat) h (by rw [ls_len]; omega)
  unfold begA begB
  have h0' : ¬ s.size = 0 := by omega
  rw [ls_len] at this ⊢
  simp only [if_neg h0', if_pos this, and_self]
set_option maxHeartbeats 4000000 in
set_option maxRecDepth 100000 in
theorem begins_c (s : ByteArray) (w : World) (hs : s.size ≤ 1152921504606846976) : Calls Tryd.prog 73 #[.string s] w fun e w' => e = .returned (.tuple #[.int .i64 (begA (ls s)), .int .i64 (begB (ls s))]) ∧ Ext w w' := by
  by_cases h0 : s.size = 0
  · have he := emp_t s h0
    have Hz : Hid (0 = begA (ls s) ∧ 0 = begB (ls s)) := Lib.hid (by unfold begA begB; simp [ls_len, h0])
    clear h0
    go_enter Tryd.func73, Tryd.ntmps73
    go_wp2_with (first | (go_at_call 84; refine (first_c _ _).mono ?_; rintro e w1 ⟨rfl, hx1⟩))
    go_ret2
    exact ⟨ret2 Hz.out, Ext.refl _⟩
  · have h1 : 0 < s.size := by omega
    have he := emp_f s h1
    have b0 := fSize_lo ↑s[0].toNat
    have b1 := fSize_hi ↑s[0].toNat
    clear h0
    go_enter Tryd.func73, Tryd.ntmps73
    go_wp2_with (first | (go_at_call 84; refine (first_c _ _).mono ?_; rintro e w1 ⟨rfl, hx1⟩))
    go_loopw [5] (fun i wr => ∃ k : Nat, 1 ≤ k ∧ k ≤ s.size ∧ i = .int .i64 k ∧ begOk (ls s) k = true ∧ wr.cell? ⟨w1.heap.size, 0, none⟩ = some (.int .i64 (fSize ↑s[0].toNat)) ∧ wr.cell? ⟨w1.heap.size, 1, none⟩ = some (.int .u8 (fLow ↑s[0].toNat)) ∧ wr.cell? ⟨w1.heap.size, 2, none⟩ = some (.int .u8 (fTop ↑s[0].toNat)) ∧ Ext w wr) (fun i _ => s.size - (intOf i).toNat)
    case atStart => exact ⟨1, Nat.le_refl _, h1, rfl, rfl, by simp, by simp, by simp, (by (repeat (first | exact Ext.refl _ | exact ‹Ext _ _› | refine Ext.alloc ?_ _ | refine Ext.drew ?_ | refine Ext.drewN ?_ _ | (refine Ext.setCell ?_ (by first | omega | (simp; done) | (simp; omega)) _) | refine Ext.trans ?_ ‹Ext _ _›)))⟩
    case round =>
      obtain ⟨k, hk1, hk2, rfl, hok, c0, c1, c2, hx⟩ := hrel
      have Hok := Lib.hid hok
      clear hok he
      go_wp2
      all_goals (try (go_quiet (fail)))
      all_goals go_wp2
      all_goals (try simp only [beq_iff_eq, beq_eq_false_iff_ne] at *)
      all_goals first
        | (go_ret2; refine ⟨ret2 (beg_bad s k hk1 (by omega) h1 (by omega) (by unfold okb; split <;> simp <;> omega)), (by (repeat (first | exact Ext.refl _ | exact ‹Ext _ _› | refine Ext.alloc ?_ _ | refine Ext.drew ?_ | refine Ext.drewN ?_ _ | (refine Ext.setCell ?_ (by first | omega | (simp; done) | (simp; omega)) _) | refine Ext.trans ?_ ‹Ext _ _›)))⟩)
        | (go_ret2; refine ⟨ret2 ?_, (by (repeat (first | exact Ext.refl _ | exact ‹Ext _ _› | refine Ext.alloc ?_ _ | refine Ext.drew ?_ | refine Ext.drewN ?_ _ | (refine Ext.setCell ?_ (by first | omega | (simp; done) | (simp; omega)) _) | refine Ext.trans ?_ ‹Ext _ _›)))⟩; have hd := beg_done s k h1 Hok.out (by omega); exact ⟨by omega, by omega⟩)
        | (go_roundw; (case rel => exact ⟨k + 1, by omega, by omega, by go_num, beg_step s k (by omega) h1 Hok.out (by unfold okb; split <;> simp <;> omega), c0, c1, c2, (by (repeat (first | exact Ext.refl _ | exact ‹Ext _ _› | refine Ext.alloc ?_ _ | refine Ext.drew ?_ | refine Ext.drewN ?_ _ | (refine Ext.setCell ?_ (by first | omega | (simp; done) | (simp; omega)) _) | refine Ext.trans ?_ ‹Ext _ _›)))⟩); (case measure => simp [intOf]; omega))

set_option maxHeartbeats 4000000 in
set_option maxRecDepth 100000 in
theorem size_c (s : ByteArray) (w : World) (hs : s.size ≤ 1152921504606846976) : Calls Tryd.prog 54 #[.string s] w fun e w' => e = .returned (.int .i64 (szL (ls s))) ∧ Ext w w' := by
  have H := Lib.hid (szL_eq (ls s))
  go_enter Tryd.func54, Tryd.ntmps54
  go_wp2_with (first | (go_at_call 73; refine (begins_c _ _ hs).mono ?_; rintro e w1 ⟨rfl, hx1⟩))
  all_goals (go_ret; refine ⟨ret1 ?_, (by (repeat (first | exact Ext.refl _ | exact ‹Ext _ _› | refine Ext.alloc ?_ _ | refine Ext.drew ?_ | refine Ext.drewN ?_ _ | (refine Ext.setCell ?_ (by first | omega | (simp; done) | (simp; omega)) _) | refine Ext.trans ?_ ‹Ext _ _›)))⟩; rw [← H.out])
  · rw [if_pos (by assumption)]
  · rw [if_neg (by omega)]

theorem valid_more (s : ByteArray) (i : Nat) (hi : i < s.size) (hn : szL (ls (s.extract i s.size)) ≠ 0) : validL ((ls s).drop i) = validL ((ls s).drop (i + szL (ls (s.extract i s.size)))) := by
  rw [ls_ext] at hn ⊢
  rw [validL_step (by rw [List.length_drop, ls_len]; omega) hn, List.drop_drop]
theorem valid_end (s : ByteArray) (i : Nat) (hi : i ≤ s.size) (hn : (s.extract i s.size).toList.isEmpty = true) : validL ((ls s).drop i) = true := by
  rw [Lib.toList_data, List.isEmpty_iff] at hn
  rw [← ls_ext]; unfold ls; rw [hn]; exact validL_nil
theorem valid_not (s : ByteArray) (i : Nat) (hi : i < s.size) (hn : szL (ls (s.extract i s.size)) = 0) : validL ((ls s).drop i) = false := by
  rw [ls_ext] at hn
  exact validL_bad (by rw [List.length_drop, ls_len]; omega) hn
theorem ext_ext (s : ByteArray) (i n : Nat) (hn : i + n ≤ s.size) : (s.extract i s.size).extract n (s.extract i s.size).size = s.extract (i + n) s.size := by
  apply ByteArray.ext
  apply Array.toList_inj.1
  have h1 := ls_ext (s.extract i s.size) n
  have h2 := ls_ext s (i + n)
  have h3 := ls_ext s i
  unfold ls at *
  rw [h1, h2, h3, List.drop_drop]

set_option maxHeartbeats 4000000 in
set_option maxRecDepth 100000 in
theorem valid_c (s : ByteArray) (w : World) (hs : s.size ≤ 1152921504606846976) : Calls Tryd.prog 20 #[.string s] w fun e w' => e = .returned (.bool (validL (ls s))) ∧ Ext w w' := by
  go_enter Tryd.func20, Tryd.ntmps20
  go_wp2
  go_loopw [0] (fun v wr => ∃ i : Nat, i ≤ s.size ∧ v = .string (s.extract i s.size) ∧ validL ((ls s).drop i) = validL (ls s) ∧ Ext w wr) (fun v _ => sizeV v)
  case atStart => exact ⟨0, by omega, by simp, by simp, (by (repeat (first | exact Ext.refl _ | exact ‹Ext _ _› | refine Ext.alloc ?_ _ | refine Ext.drew ?_ | refine Ext.drewN ?_ _ | (refine Ext.setCell ?_ (by first | omega | (simp; done) | (simp; omega)) _) | refine Ext.trans ?_ ‹Ext _ _›)))⟩
  case round =>
    obtain ⟨i, hi, rfl, hok, hx⟩ := hrel
    have Hok := Lib.hid hok
    clear hok
    have hle : szL (ls (s.extract i s.size)) ≤ s.size - i := by have := szL_le (ls (s.extract i s.size)); rw [ls_ext, List.length_drop, ls_len] at this; rw [ls_ext]; exact this
    go_wp2_with (first | (go_at_call 54; refine (size_c _ _ (by simp; omega)).mono ?_; rintro e w1 ⟨rfl, hx1⟩))
    all_goals (try simp only [beq_iff_eq, beq_eq_false_iff_ne, Bool.not_eq_true', Bool.not_eq_false'] at *)
    · go_ret
      have hi' : i < s.size := by
        rcases Nat.lt_or_ge i s.size with h | h
        · exact h
        · have := emp_t (s.extract i s.size) (by simp; omega); simp_all
      exact ⟨retb (by rw [← Hok.out, valid_not s i hi' (by omega)]), (by (repeat (first | exact Ext.refl _ | exact ‹Ext _ _› | refine Ext.alloc ?_ _ | refine Ext.drew ?_ | refine Ext.drewN ?_ _ | (refine Ext.setCell ?_ (by first | omega | (simp; done) | (simp; omega)) _) | refine Ext.trans ?_ ‹Ext _ _›)))⟩
    · go_roundw
      case rel =>
        have hi' : i < s.size := by omega
        refine ⟨i + szL (ls (s.extract i s.size)), by omega, ?_, ?_, (by (repeat (first | exact Ext.refl _ | exact ‹Ext _ _› | refine Ext.alloc ?_ _ | refine Ext.drew ?_ | refine Ext.drewN ?_ _ | (refine Ext.setCell ?_ (by first | omega | (simp; done) | (simp; omega)) _) | refine Ext.trans ?_ ‹Ext _ _›)))⟩
        · have := ext_ext s i (szL (ls (s.extract i s.size))) (by omega)
          simp at this
          rw [this]
        · rw [← valid_more s i hi' (by omega)]; exact Hok.out
      case measure => simp [sizeV]; omega
    · go_ret
      exact ⟨retb (by rw [← Hok.out, valid_end s i hi (by assumption)]), (by (repeat (first | exact Ext.refl _ | exact ‹Ext _ _› | refine Ext.alloc ?_ _ | refine Ext.drew ?_ | refine Ext.drewN ?_ _ | (refine Ext.setCell ?_ (by first | omega | (simp; done) | (simp; omega)) _) | refine Ext.trans ?_ ‹Ext _ _›)))⟩

end Go.Proofs.YtckfdehendifoaaDoor
/- The contracts of the package utf: what each of its functions hands back. -/
namespace Go.Proofs.YtckfdehendifoaaDoor
open Go.RowKit
set_option linter.unusedVariables false
set_option linter.unusedSimpArgs false
theorem inn_bits : ∀ n : Fin 256, (bits BinOp.and IntKind.u8 (n.val : Int) 192 == 128) = inn n.val := by decide +kernel
theorem inn_eq (b : Int) (h0 : 0 ≤ b) (h1 : b ≤ 255) : (bits BinOp.and IntKind.u8 b 192 == 128) = inn b := by
  have := inn_bits ⟨b.toNat, by omega⟩
  simpa [Int.toNat_of_nonneg h0] using this
set_option maxHeartbeats 4000000 in
set_option maxRecDepth 100000 in
theorem inner_c (b : Int) (h0 : 0 ≤ b) (h1 : b ≤ 255) (w : World) : Calls Tryd.prog 52 #[.int .u8 b] w fun e w' => e = .returned (.bool (inn b)) ∧ Ext w w' := by
  go_enter Tryd.func52, Tryd.ntmps52
  go_wp2
  go_ret
  exact ⟨retb (inn_eq b h0 h1), (by (repeat (first | exact Ext.refl _ | exact ‹Ext _ _› | refine Ext.alloc ?_ _ | refine Ext.drew ?_ | refine Ext.drewN ?_ _ | (refine Ext.setCell ?_ (by first | omega | (simp; done) | (simp; omega)) _) | refine Ext.trans ?_ ‹Ext _ _›)))⟩

theorem inner_u (b : UInt8) (w : World) : Calls Tryd.prog 52 #[.int .u8 b.toNat] w fun e w' => e = .returned (.bool (inn b.toNat)) ∧ Ext w w' :=
  inner_c _ (by omega) (by have := b.toNat_lt; omega) w

theorem place_at (s : ByteArray) (p : Int) (h0 : 0 ≤ p) (h1 : p < s.size) : placeB (ls s) p = (!inn ↑s[p.toNat].toNat && validL (ls s)) := by
  unfold placeB
  rw [byL_eq s p.toNat (by omega), ls_len]
  have a : decide (0 ≤ p) = true := decide_eq_true h0
  have b : decide (p ≤ s.size) = true := decide_eq_true (by omega)
  have c : decide (p = s.size) = false := decide_eq_false (by omega)
  simp [a, b, c]
theorem place_out (s : ByteArray) (p : Int) (h : p < 0 ∨ s.size < p) : placeB (ls s) p = false := by
  unfold placeB; rw [ls_len]
  rcases h with h | h
  · have a : decide (0 ≤ p) = false := decide_eq_false (by omega)
    simp [a]
  · have a : decide (p ≤ s.size) = false := decide_eq_false (by omega)
    simp [a]
theorem place_end (s : ByteArray) (p : Int) (h : p = s.size) : placeB (ls s) p = validL (ls s) := by
  unfold placeB; rw [ls_len]; subst h; simp
set_option maxHeartbeats 4000000 in
set_option maxRecDepth 100000 in
theorem place_c (s : ByteArray) (p : Int) (w : World) (hs : s.size ≤ 1152921504606846976) : Calls Tryd.prog 19 #[.string s, .int .i64 p] w fun e w' => e = .returned (.bool (placeB (ls s) p)) ∧ Ext w w' := by
  go_enter Tryd.func19, Tryd.ntmps19
  go_wp2_with (first | (go_at_call 52; refine (inner_u _ _).mono ?_; rintro e w1 ⟨rfl, hx1⟩) | (go_at_call 20; refine (valid_c _ _ hs).mono ?_; rintro e w1 ⟨rfl, hx1⟩))
  all_goals (try simp only [Bool.not_eq_true', Bool.not_eq_false'] at *)
  all_goals (go_ret; refine ⟨retb ?_, (by (repeat (first | exact Ext.refl _ | exact ‹Ext _ _› | refine Ext.alloc ?_ _ | refine Ext.drew ?_ | refine Ext.drewN ?_ _ | (refine Ext.setCell ?_ (by first | omega | (simp; done) | (simp; omega)) _) | refine Ext.trans ?_ ‹Ext _ _›)))⟩)
  all_goals first
    | (rw [place_end s p (by assumption)]; done)
    | (rw [place_at s p (by omega) (by omega)]; simp [*]; done)
    | (rw [place_out s p (by omega)]; done)

set_option maxHeartbeats 4000000 in
set_option maxRecDepth 100000 in
theorem next_c (s : ByteArray) (p : Int) (w : World) (hs : s.size ≤ 1152921504606846976) : Calls Tryd.prog 25 #[.string s, .int .i64 p] w fun e w' => e = .returned (.int .i64 (nextI (ls s) p)) ∧ Ext w w' := by
  rcases place_cases s p with hp | ⟨k, rfl, hk, hp, hv⟩
  · go_enter Tryd.func25, Tryd.ntmps25
    go_wp2_with (first | (go_at_call 19; refine (place_c _ _ _ hs).mono ?_; rintro e w1 ⟨rfl, hx1⟩) | (go_at_call 54; refine (size_c _ _ (by simp; omega)).mono ?_; rintro e w1 ⟨rfl, hx1⟩))
    go_ret
    exact ⟨ret1 (by unfold nextI; simp [hp]), (by (repeat (first | exact Ext.refl _ | exact ‹Ext _ _› | refine Ext.alloc ?_ _ | refine Ext.drew ?_ | refine Ext.drewN ?_ _ | (refine Ext.setCell ?_ (by first | omega | (simp; done) | (simp; omega)) _) | refine Ext.trans ?_ ‹Ext _ _›)))⟩
  · have hz := szL_le ((ls s).drop k)
    rw [List.length_drop, ls_len] at hz
    have hy : szL (ls (s.extract k s.size)) ≤ s.size - k := by rw [ls_ext]; exact hz
    go_enter Tryd.func25, Tryd.ntmps25
    go_wp2_with (first | (go_at_call 19; refine (place_c _ _ _ hs).mono ?_; rintro e w1 ⟨rfl, hx1⟩) | (go_at_call 54; refine (size_c _ _ (by simp; omega)).mono ?_; rintro e w1 ⟨rfl, hx1⟩))
    all_goals (try simp only [beq_iff_eq, beq_eq_false_iff_ne] at *)
    all_goals (go_ret; refine ⟨ret1 ?_, (by (repeat (first | exact Ext.refl _ | exact ‹Ext _ _› | refine Ext.alloc ?_ _ | refine Ext.drew ?_ | refine Ext.drewN ?_ _ | (refine Ext.setCell ?_ (by first | omega | (simp; done) | (simp; omega)) _) | refine Ext.trans ?_ ‹Ext _ _›)))⟩; unfold nextI)
    · rw [if_neg (by rw [ls_len]; omega)]
    · rw [if_pos ⟨hp, by rw [ls_len]; omega⟩, ls_ext]; rfl

set_option maxHeartbeats 4000000 in
set_option maxRecDepth 100000 in
theorem prev_c (s : ByteArray) (p : Int) (w : World) (hs : s.size ≤ 1152921504606846976) : Calls Tryd.prog 29 #[.string s, .int .i64 p] w fun e w' => e = .returned (.int .i64 (prevI (ls s) p)) ∧ Ext w w' := by
  rcases place_cases s p with hp | ⟨k, rfl, hk, hp, hv⟩
  · go_enter Tryd.func29, Tryd.ntmps29
    go_wp2_with (first | (go_at_call 19; refine (place_c _ _ _ hs).mono ?_; rintro e w1 ⟨rfl, hx1⟩))
    go_ret
    exact ⟨ret1 (by unfold prevI; simp [hp]), (by (repeat (first | exact Ext.refl _ | exact ‹Ext _ _› | refine Ext.alloc ?_ _ | refine Ext.drew ?_ | refine Ext.drewN ?_ _ | (refine Ext.setCell ?_ (by first | omega | (simp; done) | (simp; omega)) _) | refine Ext.trans ?_ ‹Ext _ _›)))⟩
  · rcases Nat.eq_zero_or_pos k with h0 | h0
    · subst h0
      go_enter Tryd.func29, Tryd.ntmps29
      go_wp2_with (first | (go_at_call 19; refine (place_c _ _ _ hs).mono ?_; rintro e w1 ⟨rfl, hx1⟩))
      go_ret
      exact ⟨ret1 (by unfold prevI; simp), (by (repeat (first | exact Ext.refl _ | exact ‹Ext _ _› | refine Ext.alloc ?_ _ | refine Ext.drew ?_ | refine Ext.drewN ?_ _ | (refine Ext.setCell ?_ (by first | omega | (simp; done) | (simp; omega)) _) | refine Ext.trans ?_ ‹Ext _ _›)))⟩
    · have h00 : ((k : Int) == 0) = false := by simp; omega
      go_enter Tryd.func29, Tryd.ntmps29
      go_wp2_with (first | (go_at_call 19; refine (place_c _ _ _ hs).mono ?_; rintro e w1 ⟨rfl, hx1⟩))
      go_loopw [1] (fun v wr => ∃ j : Nat, j < s.size ∧ v = .int .i64 j ∧ prevFrom (ls s) j = prevFrom (ls s) (k - 1) ∧ Ext w wr) (fun v _ => (intOf v).toNat)
      case atStart => exact ⟨k - 1, by omega, by go_num, rfl, (by (repeat (first | exact Ext.refl _ | exact ‹Ext _ _› | refine Ext.alloc ?_ _ | refine Ext.drew ?_ | refine Ext.drewN ?_ _ | (refine Ext.setCell ?_ (by first | omega | (simp; done) | (simp; omega)) _) | refine Ext.trans ?_ ‹Ext _ _›)))⟩
      case round =>
        obtain ⟨j, hj, rfl, hok, hx⟩ := hrel
        have Hok := Lib.hid hok
        have Hby := Lib.hid (byL_eq s j hj)
        have hv0 : ¬ (inn ↑s[j].toNat = true ∧ j = 0) := by
          rintro ⟨h1, h2⟩
          have := valid_first hv (by rw [ls_len]; omega)
          subst h2
          rw [byL_eq s 0 hj] at h1
          rw [this] at h1; exact absurd h1 (by simp)
        clear hok
        rcases Bool.eq_false_or_eq_true (inn ↑s[j].toNat) with hi | hi
        · have hj0 : 1 ≤ j := by
            rcases Nat.eq_zero_or_pos j with h | h
            · exact absurd ⟨hi, h⟩ hv0
            · exact h
          clear hv0
          go_wp2_with (first | (go_at_call 52; refine (inner_u _ _).mono ?_; rintro e w1 ⟨rfl, hx1⟩))
          go_roundw
          case rel =>
            refine ⟨j - 1, by omega, by go_num, ?_, (by (repeat (first | exact Ext.refl _ | exact ‹Ext _ _› | refine Ext.alloc ?_ _ | refine Ext.drew ?_ | refine Ext.drewN ?_ _ | (refine Ext.setCell ?_ (by first | omega | (simp; done) | (simp; omega)) _) | refine Ext.trans ?_ ‹Ext _ _›)))⟩
            rw [← Hok.out]
            obtain ⟨i, rfl⟩ : ∃ i, j = i + 1 := ⟨j - 1, by omega⟩
            rw [Hby.out] at hi
            simp [prevFrom, hi]
          case measure => simp [intOf]; omega
        · clear hv0
          go_wp2_with (first | (go_at_call 52; refine (inner_u _ _).mono ?_; rintro e w1 ⟨rfl, hx1⟩))
          go_ret
          refine ⟨ret1 ?_, (by (repeat (first | exact Ext.refl _ | exact ‹Ext _ _› | refine Ext.alloc ?_ _ | refine Ext.drew ?_ | refine Ext.drewN ?_ _ | (refine Ext.setCell ?_ (by first | omega | (simp; done) | (simp; omega)) _) | refine Ext.trans ?_ ‹Ext _ _›)))⟩
          unfold prevI
          rw [if_pos ⟨hp, by omega⟩]
          have : ((k : Int).toNat - 1) = k - 1 := by omega
          rw [this, ← Hok.out]
          rw [Hby.out] at hi
          cases j with
          | zero => rfl
          | succ i => simp [prevFrom, hi]

set_option maxHeartbeats 4000000 in
set_option maxRecDepth 100000 in
theorem count_c (s : ByteArray) (w : World) (hs : s.size ≤ 1152921504606846976) : Calls Tryd.prog 16 #[.string s] w fun e w' => e = .returned (.int .i64 (countI (ls s))) ∧ Ext w w' := by
  rcases Bool.eq_false_or_eq_true (validL (ls s)) with hv | hv
  · have Hv := Lib.hid hv
    go_enter Tryd.func16, Tryd.ntmps16
    go_wp2_with (first | (go_at_call 20; refine (valid_c _ _ hs).mono ?_; rintro e w1 ⟨rfl, hx1⟩))
    go_loopw [3, 10] (fun n i wr => ∃ j : Nat, j ≤ s.size ∧ i = .int .i64 j ∧ n = .int .i64 (cntL ((ls s).take j)) ∧ Ext w wr) (fun _ i _ => s.size - (intOf i).toNat)
    case atStart => exact ⟨0, by omega, rfl, rfl, (by (repeat (first | exact Ext.refl _ | exact ‹Ext _ _› | refine Ext.alloc ?_ _ | refine Ext.drew ?_ | refine Ext.drewN ?_ _ | (refine Ext.setCell ?_ (by first | omega | (simp; done) | (simp; omega)) _) | refine Ext.trans ?_ ‹Ext _ _›)))⟩
    case round =>
      obtain ⟨j, hj, rfl, rfl, hx⟩ := hrel
      have hc := cnt_le (ls s) j
      by_cases hlt : j < s.size
      · have Hs := Lib.hid (cnt_succ (ls s) j (by rw [ls_len]; exact hlt))
        have Hby := Lib.hid (byL_eq s j hlt)
        rcases Bool.eq_false_or_eq_true (inn ↑s[j].toNat) with hi | hi
        all_goals
          go_wp2_with (first | (go_at_call 52; refine (inner_u _ _).mono ?_; rintro e w1 ⟨rfl, hx1⟩))
          go_roundw
          case rel =>
            refine ⟨j + 1, by omega, by go_num, ?_, (by (repeat (first | exact Ext.refl _ | exact ‹Ext _ _› | refine Ext.alloc ?_ _ | refine Ext.drew ?_ | refine Ext.drewN ?_ _ | (refine Ext.setCell ?_ (by first | omega | (simp; done) | (simp; omega)) _) | refine Ext.trans ?_ ‹Ext _ _›)))⟩
            rw [Hs.out, ← Hby.out, hi]
            first | rfl | simp
          case measure => simp [intOf]; omega
      · have hj' : j = s.size := by omega
        subst hj'
        have Hc : Hid (cntL ((ls s).take s.size) = cntL (ls s)) := Lib.hid (by rw [← ls_len s, List.take_length])
        go_wp2_with (first | (go_at_call 52; refine (inner_u _ _).mono ?_; rintro e w1 ⟨rfl, hx1⟩))
        go_ret
        exact ⟨ret1 (by unfold countI; rw [Hc.out, Hv.out]; rfl), (by (repeat (first | exact Ext.refl _ | exact ‹Ext _ _› | refine Ext.alloc ?_ _ | refine Ext.drew ?_ | refine Ext.drewN ?_ _ | (refine Ext.setCell ?_ (by first | omega | (simp; done) | (simp; omega)) _) | refine Ext.trans ?_ ‹Ext _ _›)))⟩
  · go_enter Tryd.func16, Tryd.ntmps16
    go_wp2_with (first | (go_at_call 20; refine (valid_c _ _ hs).mono ?_; rintro e w1 ⟨rfl, hx1⟩))
    go_ret
    exact ⟨ret1 (by unfold countI; simp [hv]), (by (repeat (first | exact Ext.refl _ | exact ‹Ext _ _› | refine Ext.alloc ?_ _ | refine Ext.drew ?_ | refine Ext.drewN ?_ _ | (refine Ext.setCell ?_ (by first | omega | (simp; done) | (simp; omega)) _) | refine Ext.trans ?_ ‹Ext _ _›)))⟩

end Go.Proofs.YtckfdehendifoaaDoor
/-
  DERIVED: THE SHELF's CONTRACTS AT THIS DUMP, IN PLAIN WORDS (tools/lay-plain.mjs out of 'TrydShelf.lean', which tools/lay-shelf.mjs wrote): THE SAME DECLARATIONS UNDER THE SAME NAMES: 'import', 'namespace', 'open', 'def', 'theorem' AND NOTHING ELSE: no command of the shelf's: FOR A HAND-IN. Each laying: the table of numbers ('.._ren') and one theorem, a field a fact of the dump's own or the kernel's comparison; each contract: ONE APPLICATION.
-/
namespace Go.Proofs
open Go.Shelf
def Tryd.lays169_ren : Go.Shelf.Ren := ⟨fun | 169 => 92 | n => n, fun | 70 => 89 | 9 => 9 | 0 => 0 | 72 => 91 | 37 => 74 | 127 => 107 | 3 => 3 | 5 => 5 | n => n, fun | n => n⟩
theorem Tryd.lays169 : Go.Proofs.Lays.n169 Tryd.prog Tryd.lays169_ren := {
  mixed := by kernel_rfl
  f169 := Tryd.func92.trans (congrArg some (by kernel_rfl))
  t0 := Tryd.underlying0
  a0 := Tryd.isAgg0
  z0 := Tryd.sizeOf0
  v0 := Tryd.zeroValue0
  t3 := Tryd.underlying3
  a3 := Tryd.isAgg3
  z3 := Tryd.sizeOf3
  v3 := Tryd.zeroValue3
  t9 := Tryd.underlying9
  a9 := Tryd.isAgg9
  z9 := Tryd.sizeOf9
  v9 := Tryd.zeroValue9
  t37 := Tryd.underlying74
  a37 := Tryd.isAgg74
  z37 := Tryd.sizeOf74
  v37 := Tryd.zeroValue74
  t70 := Tryd.underlying89
  a70 := Tryd.isAgg89
  z70 := Tryd.sizeOf89
  v70 := Tryd.zeroValue89
  t72 := Tryd.underlying91
  a72 := Tryd.isAgg91
  z72 := Tryd.sizeOf91
  v72 := Tryd.zeroValue91
  t127 := Tryd.underlying107
  a127 := Tryd.isAgg107
  z127 := Tryd.sizeOf107
  v127 := Tryd.zeroValue107 }
theorem Tryd.Builder_Extra_169 : Builder.Extra Tryd.prog Tryd.lays169_ren := {
  sizeBuilder := by kernel_rfl
  liesBuilder := by kernel_rfl
  t5 := Tryd.underlying5
  a5 := Tryd.isAgg5
  z5 := Tryd.sizeOf5
  v5 := Tryd.zeroValue5
  infoByte := by kernel_rfl
  cellsByte := by kernel_rfl
  sizeByte := by kernel_rfl
  neB5 := by decide }
open Go.RowKit in
theorem Tryd.Builder_String (B b : Nat) (l : List UInt8) (w : World) (h : Lib.IsBuilder 91 5 B b (Lib.byteCells l) w) (h0 : l ≠ []) :
    Calls Tryd.prog 92 #[.pointer (some ⟨b, 0, none⟩)] w fun e w' => e = .returned (.string ⟨l.toArray⟩) ∧ Below B w w' := Any.Builder_String Tryd.lays169 Tryd.Builder_Extra_169 B b l w h h0
open Go.RowKit in
theorem Tryd.Builder_String_empty (B b : Nat) (w : World) (h : Lib.IsBuilder 91 5 B b [] w) (hBw : B ≤ w.heap.size) :
    Calls Tryd.prog 92 #[.pointer (some ⟨b, 0, none⟩)] w fun e w' => e = .returned (.string ⟨#[]⟩) ∧ Below B w w' := Any.Builder_String_empty Tryd.lays169 Tryd.Builder_Extra_169 B b w h hBw
open Go.RowKit in
theorem Tryd.Builder_String_any (B b : Nat) (l : List UInt8) (w : World) (h : Lib.IsBuilder 91 5 B b (Lib.byteCells l) w) (hBw : B ≤ w.heap.size) :
    Calls Tryd.prog 92 #[.pointer (some ⟨b, 0, none⟩)] w fun e w' => e = .returned (.string ⟨l.toArray⟩) ∧ Below B w w' := Any.Builder_String_any Tryd.lays169 Tryd.Builder_Extra_169 B b l w h hBw
def Tryd.lays241_ren : Go.Shelf.Ren := ⟨fun | 241 => 103 | 277 => 109 | n => n, fun | 70 => 89 | 3 => 3 | 0 => 0 | 72 => 91 | 37 => 74 | 5 => 5 | n => n, fun | n => n⟩
theorem Tryd.lays241 : Go.Proofs.Lays.n241 Tryd.prog Tryd.lays241_ren := {
  mixed := by kernel_rfl
  f241 := Tryd.func103.trans (congrArg some (by kernel_rfl))
  f277 := Tryd.func109.trans (congrArg some (by kernel_rfl))
  t0 := Tryd.underlying0
  a0 := Tryd.isAgg0
  z0 := Tryd.sizeOf0
  v0 := Tryd.zeroValue0
  t3 := Tryd.underlying3
  a3 := Tryd.isAgg3
  z3 := Tryd.sizeOf3
  v3 := Tryd.zeroValue3
  t37 := Tryd.underlying74
  a37 := Tryd.isAgg74
  z37 := Tryd.sizeOf74
  v37 := Tryd.zeroValue74
  t70 := Tryd.underlying89
  a70 := Tryd.isAgg89
  z70 := Tryd.sizeOf89
  v70 := Tryd.zeroValue89
  t72 := Tryd.underlying91
  a72 := Tryd.isAgg91
  z72 := Tryd.sizeOf91
  v72 := Tryd.zeroValue91 }
theorem Tryd.Builder_Extra_241 : Builder.Extra Tryd.prog Tryd.lays241_ren := {
  sizeBuilder := by kernel_rfl
  liesBuilder := by kernel_rfl
  t5 := Tryd.underlying5
  a5 := Tryd.isAgg5
  z5 := Tryd.sizeOf5
  v5 := Tryd.zeroValue5
  infoByte := by kernel_rfl
  cellsByte := by kernel_rfl
  sizeByte := by kernel_rfl
  neB5 := by decide }
open Go.RowKit in
theorem Tryd.Builder_grow_fresh (B b n : Nat) (w : World) (hB : B ≤ b) (hbk : w.heap[b]? = some (.cells #[.pointer (some ⟨b, 0, none⟩), .slice none 0 0] 91 (0, 0))) (hBw : B ≤ w.heap.size) (hn : n ≤ 281474976710656) :
    Calls Tryd.prog 103 #[.pointer (some ⟨b, 0, none⟩), .int .i64 n] w fun e w' => e = .returned (.tuple #[]) ∧ (Lib.BuilderAt 91 5 B b (.pointer (some ⟨b, 0, none⟩)) [] w' ∧ Below B w w') := Any.Builder_grow_fresh Tryd.lays241 Tryd.Builder_Extra_241 B b n w hB hbk hBw hn
def Tryd.lays165_ren : Go.Shelf.Ren := ⟨fun | 165 => 90 | 240 => 102 | 241 => 103 | 276 => 108 | 277 => 109 | n => n, fun | 70 => 89 | 3 => 3 | 0 => 0 | 4 => 4 | 9 => 9 | 20 => 20 | 72 => 91 | 37 => 74 | 164 => 109 | 5 => 5 | n => n, fun | n => n⟩
theorem Tryd.lays165 : Go.Proofs.Lays.n165 Tryd.prog Tryd.lays165_ren := {
  mixed := by kernel_rfl
  f165 := Tryd.func90.trans (congrArg some (by kernel_rfl))
  f240 := Tryd.func102.trans (congrArg some (by kernel_rfl))
  f241 := Tryd.func103.trans (congrArg some (by kernel_rfl))
  f276 := Tryd.func108.trans (congrArg some (by kernel_rfl))
  f277 := Tryd.func109.trans (congrArg some (by kernel_rfl))
  t0 := Tryd.underlying0
  a0 := Tryd.isAgg0
  z0 := Tryd.sizeOf0
  v0 := Tryd.zeroValue0
  t3 := Tryd.underlying3
  a3 := Tryd.isAgg3
  z3 := Tryd.sizeOf3
  v3 := Tryd.zeroValue3
  t4 := Tryd.underlying4
  a4 := Tryd.isAgg4
  z4 := Tryd.sizeOf4
  v4 := Tryd.zeroValue4
  t9 := Tryd.underlying9
  a9 := Tryd.isAgg9
  z9 := Tryd.sizeOf9
  v9 := Tryd.zeroValue9
  t20 := Tryd.underlying20
  a20 := Tryd.isAgg20
  z20 := Tryd.sizeOf20
  v20 := Tryd.zeroValue20
  t37 := Tryd.underlying74
  a37 := Tryd.isAgg74
  z37 := Tryd.sizeOf74
  v37 := Tryd.zeroValue74
  t70 := Tryd.underlying89
  a70 := Tryd.isAgg89
  z70 := Tryd.sizeOf89
  v70 := Tryd.zeroValue89
  t72 := Tryd.underlying91
  a72 := Tryd.isAgg91
  z72 := Tryd.sizeOf91
  v72 := Tryd.zeroValue91
  t164 := Tryd.underlying109
  a164 := Tryd.isAgg109
  z164 := Tryd.sizeOf109
  v164 := Tryd.zeroValue109 }
theorem Tryd.Builder_Extra_165 : Builder.Extra Tryd.prog Tryd.lays165_ren := {
  sizeBuilder := by kernel_rfl
  liesBuilder := by kernel_rfl
  t5 := Tryd.underlying5
  a5 := Tryd.isAgg5
  z5 := Tryd.sizeOf5
  v5 := Tryd.zeroValue5
  infoByte := by kernel_rfl
  cellsByte := by kernel_rfl
  sizeByte := by kernel_rfl
  neB5 := by decide }
open Go.RowKit in
theorem Tryd.Builder_Grow_fresh (B b n : Nat) (w : World) (hB : B ≤ b) (hbk : w.heap[b]? = some (.cells #[.pointer none, .slice none 0 0] 91 (0, 0))) (hBw : B ≤ w.heap.size) (hn : n ≤ 281474976710656) :
    Calls Tryd.prog 90 #[.pointer (some ⟨b, 0, none⟩), .int .i64 n] w fun e w' => e = .returned (.tuple #[]) ∧ (Lib.BuilderAt 91 5 B b (.pointer (some ⟨b, 0, none⟩)) [] w' ∧ Below B w w') := Any.Builder_Grow_fresh Tryd.lays165 Tryd.Builder_Extra_165 B b n w hB hbk hBw hn
def Tryd.lays156_ren : Go.Shelf.Ren := ⟨fun | 156 => 76 | 165 => 90 | 166 => 91 | 169 => 92 | 240 => 102 | 241 => 103 | 276 => 108 | 277 => 109 | n => n, fun | 31 => 58 | 9 => 9 | 3 => 3 | 4 => 4 | 0 => 0 | 20 => 20 | 72 => 91 | 76 => 95 | 70 => 89 | 37 => 74 | 75 => 94 | 127 => 107 | 164 => 109 | 5 => 5 | 80 => 97 | n => n, fun | n => n⟩
theorem Tryd.lays156 : Go.Proofs.Lays.n156 Tryd.prog Tryd.lays156_ren := {
  mixed := by kernel_rfl
  f156 := Tryd.func76.trans (congrArg some (by kernel_rfl))
  f165 := Tryd.func90.trans (congrArg some (by kernel_rfl))
  f166 := Tryd.func91.trans (congrArg some (by kernel_rfl))
  f169 := Tryd.func92.trans (congrArg some (by kernel_rfl))
  f240 := Tryd.func102.trans (congrArg some (by kernel_rfl))
  f241 := Tryd.func103.trans (congrArg some (by kernel_rfl))
  f276 := Tryd.func108.trans (congrArg some (by kernel_rfl))
  f277 := Tryd.func109.trans (congrArg some (by kernel_rfl))
  t0 := Tryd.underlying0
  a0 := Tryd.isAgg0
  z0 := Tryd.sizeOf0
  v0 := Tryd.zeroValue0
  t3 := Tryd.underlying3
  a3 := Tryd.isAgg3
  z3 := Tryd.sizeOf3
  v3 := Tryd.zeroValue3
  t4 := Tryd.underlying4
  a4 := Tryd.isAgg4
  z4 := Tryd.sizeOf4
  v4 := Tryd.zeroValue4
  t9 := Tryd.underlying9
  a9 := Tryd.isAgg9
  z9 := Tryd.sizeOf9
  v9 := Tryd.zeroValue9
  t20 := Tryd.underlying20
  a20 := Tryd.isAgg20
  z20 := Tryd.sizeOf20
  v20 := Tryd.zeroValue20
  t31 := Tryd.underlying58
  a31 := Tryd.isAgg58
  z31 := Tryd.sizeOf58
  v31 := Tryd.zeroValue58
  t37 := Tryd.underlying74
  a37 := Tryd.isAgg74
  z37 := Tryd.sizeOf74
  v37 := Tryd.zeroValue74
  t70 := Tryd.underlying89
  a70 := Tryd.isAgg89
  z70 := Tryd.sizeOf89
  v70 := Tryd.zeroValue89
  t72 := Tryd.underlying91
  a72 := Tryd.isAgg91
  z72 := Tryd.sizeOf91
  v72 := Tryd.zeroValue91
  t75 := Tryd.underlying94
  a75 := Tryd.isAgg94
  z75 := Tryd.sizeOf94
  v75 := Tryd.zeroValue94
  t76 := Tryd.underlying95
  a76 := Tryd.isAgg95
  z76 := Tryd.sizeOf95
  v76 := Tryd.zeroValue95
  t127 := Tryd.underlying107
  a127 := Tryd.isAgg107
  z127 := Tryd.sizeOf107
  v127 := Tryd.zeroValue107
  t164 := Tryd.underlying109
  a164 := Tryd.isAgg109
  z164 := Tryd.sizeOf109
  v164 := Tryd.zeroValue109 }
theorem Tryd.Builder_Extra_156 : Builder.Extra Tryd.prog Tryd.lays156_ren := {
  sizeBuilder := by kernel_rfl
  liesBuilder := by kernel_rfl
  t5 := Tryd.underlying5
  a5 := Tryd.isAgg5
  z5 := Tryd.sizeOf5
  v5 := Tryd.zeroValue5
  infoByte := by kernel_rfl
  cellsByte := by kernel_rfl
  sizeByte := by kernel_rfl
  neB5 := by decide }
open Go.RowKit in
theorem Tryd.strings_Join_none (a : Option Addr) (c : Nat) (sep : ByteArray) (w : World) :
    Calls Tryd.prog 76 #[.slice a 0 c, .string sep] w fun e w' => e = .returned (.string ⟨#[]⟩) ∧ w' = w := Any.strings_Join_none Tryd.lays156 Tryd.Builder_Extra_156 a c sep w
open Go.RowKit in
theorem Tryd.strings_Join (bk o c : Nat) (xs : List ByteArray) (sep : ByteArray) (w : World) (hcells : ∀ (j : Nat) x, xs[j]? = some x → w.cell? ⟨bk, o + j, none⟩ = some (.string x)) (hbk : bk < w.heap.size) (hN : xs.length ≤ 140737488355328) (hcap : xs.length ≤ c) (hlen : (Lib.join (xs.map (·.data.toList)) sep.data.toList).length ≤ 140737488355328) :
    Calls Tryd.prog 76 #[.slice (some ⟨bk, o, none⟩) xs.length c, .string sep] w fun e w' => e = .returned (.string ⟨(Lib.join (xs.map (·.data.toList)) sep.data.toList).toArray⟩) ∧ Below w.heap.size w w' := Any.strings_Join Tryd.lays156 Tryd.Builder_Extra_156 bk o c xs sep w hcells hbk hN hcap hlen
def Tryd.lays231_ren : Go.Shelf.Ren := ⟨fun | 231 => 86 | n => n, fun | 9 => 9 | 5 => 5 | 3 => 3 | 4 => 4 | n => n, fun | n => n⟩
theorem Tryd.lays231 : Go.Proofs.Lays.n231 Tryd.prog Tryd.lays231_ren := {
  mixed := by kernel_rfl
  f231 := Tryd.func86.trans (congrArg some (by kernel_rfl))
  t3 := Tryd.underlying3
  a3 := Tryd.isAgg3
  z3 := Tryd.sizeOf3
  v3 := Tryd.zeroValue3
  t4 := Tryd.underlying4
  a4 := Tryd.isAgg4
  z4 := Tryd.sizeOf4
  v4 := Tryd.zeroValue4
  t5 := Tryd.underlying5
  a5 := Tryd.isAgg5
  z5 := Tryd.sizeOf5
  v5 := Tryd.zeroValue5
  t9 := Tryd.underlying9
  a9 := Tryd.isAgg9
  z9 := Tryd.sizeOf9
  v9 := Tryd.zeroValue9 }
open Go.RowKit in
theorem Tryd.strings_trimLeftByte (s : ByteArray) (c : UInt8) (w : World) :
    Calls Tryd.prog 86 #[.string s, .int .u8 c.toNat] w fun e w' => e = .returned (.string ⟨(Lib.trimLeftB s.data.toList c).toArray⟩) ∧ w' = w := Any.strings_trimLeftByte Tryd.lays231 s c w
def Tryd.lays161_ren : Go.Shelf.Ren := ⟨fun | 161 => 75 | 231 => 86 | 227 => 87 | 233 => 88 | 235 => 89 | 228 => 99 | 197 => 100 | 151 => 101 | 260 => 106 | 152 => 107 | 137 => 110 | 119 => 111 | 224 => 95 | 225 => 94 | 217 => 93 | 266 => 104 | n => n, fun | 9 => 9 | 4 => 4 | 3 => 3 | 5 => 5 | 117 => 85 | 116 => 84 | 0 => 0 | 124 => 88 | 105 => 104 | 21 => 21 | 119 => 112 | 46 => 99 | 139 => 115 | 138 => 114 | n => n, fun | 3 => 1 | 4 => 2 | n => n⟩
theorem Tryd.lays161 : Go.Proofs.Lays.n161 Tryd.prog Tryd.lays161_ren := {
  mixed := by kernel_rfl
  f119 := Tryd.func111.trans (congrArg some (by kernel_rfl))
  f137 := Tryd.func110.trans (congrArg some (by kernel_rfl))
  f151 := Tryd.func101.trans (congrArg some (by kernel_rfl))
  f152 := Tryd.func107.trans (congrArg some (by kernel_rfl))
  f161 := Tryd.func75.trans (congrArg some (by kernel_rfl))
  f197 := Tryd.func100.trans (congrArg some (by kernel_rfl))
  f217 := Tryd.func93.trans (congrArg some (by kernel_rfl))
  f224 := Tryd.func95.trans (congrArg some (by kernel_rfl))
  f225 := Tryd.func94.trans (congrArg some (by kernel_rfl))
  f227 := Tryd.func87.trans (congrArg some (by kernel_rfl))
  f228 := Tryd.func99.trans (congrArg some (by kernel_rfl))
  f231 := Tryd.func86.trans (congrArg some (by kernel_rfl))
  f233 := Tryd.func88.trans (congrArg some (by kernel_rfl))
  f235 := Tryd.func89.trans (congrArg some (by kernel_rfl))
  f260 := Tryd.func106.trans (congrArg some (by kernel_rfl))
  f266 := Tryd.func104.trans (congrArg some (by kernel_rfl))
  t0 := Tryd.underlying0
  a0 := Tryd.isAgg0
  z0 := Tryd.sizeOf0
  v0 := Tryd.zeroValue0
  t3 := Tryd.underlying3
  a3 := Tryd.isAgg3
  z3 := Tryd.sizeOf3
  v3 := Tryd.zeroValue3
  t4 := Tryd.underlying4
  a4 := Tryd.isAgg4
  z4 := Tryd.sizeOf4
  v4 := Tryd.zeroValue4
  t5 := Tryd.underlying5
  a5 := Tryd.isAgg5
  z5 := Tryd.sizeOf5
  v5 := Tryd.zeroValue5
  t9 := Tryd.underlying9
  a9 := Tryd.isAgg9
  z9 := Tryd.sizeOf9
  v9 := Tryd.zeroValue9
  t21 := Tryd.underlying21
  a21 := Tryd.isAgg21
  z21 := Tryd.sizeOf21
  v21 := Tryd.zeroValue21
  t46 := Tryd.underlying99
  a46 := Tryd.isAgg99
  z46 := Tryd.sizeOf99
  v46 := Tryd.zeroValue99
  t105 := Tryd.underlying104
  a105 := Tryd.isAgg104
  z105 := Tryd.sizeOf104
  v105 := Tryd.zeroValue104
  t116 := Tryd.underlying84
  a116 := Tryd.isAgg84
  z116 := Tryd.sizeOf84
  t117 := Tryd.underlying85
  a117 := Tryd.isAgg85
  z117 := Tryd.sizeOf85
  v117 := Tryd.zeroValue85
  t119 := Tryd.underlying112
  a119 := Tryd.isAgg112
  z119 := Tryd.sizeOf112
  t124 := Tryd.underlying88
  a124 := Tryd.isAgg88
  z124 := Tryd.sizeOf88
  v124 := Tryd.zeroValue88
  t138 := Tryd.underlying114
  a138 := Tryd.isAgg114
  z138 := Tryd.sizeOf114
  v138 := Tryd.zeroValue114
  t139 := Tryd.underlying115
  a139 := Tryd.isAgg115
  z139 := Tryd.sizeOf115
  v139 := Tryd.zeroValue115
  g3 := by kernel_rfl
  g4 := by kernel_rfl }
open Go.RowKit in
theorem Tryd.strings_TrimLeft_one (s : ByteArray) (c : UInt8) (hc : c.toNat < 128) (w : World) :
    Calls Tryd.prog 75 #[.string s, .string ⟨#[c]⟩] w fun e w' => e = .returned (.string ⟨(Lib.trimLeftB s.data.toList c).toArray⟩) ∧ w' = w := Any.strings_TrimLeft_one Tryd.lays161 s c hc w
def Tryd.lays119_ren : Go.Shelf.Ren := ⟨fun | 119 => 111 | n => n, fun | 21 => 21 | 4 => 4 | n => n, fun | n => n⟩
theorem Tryd.lays119 : Go.Proofs.Lays.n119 Tryd.prog Tryd.lays119_ren := {
  mixed := by kernel_rfl
  f119 := Tryd.func111.trans (congrArg some (by kernel_rfl))
  t4 := Tryd.underlying4
  a4 := Tryd.isAgg4
  z4 := Tryd.sizeOf4
  v4 := Tryd.zeroValue4
  t21 := Tryd.underlying21
  a21 := Tryd.isAgg21
  z21 := Tryd.sizeOf21
  v21 := Tryd.zeroValue21 }
theorem Tryd.utf8_ValidRune (r : Int) (w : World) :
    Calls Tryd.prog 111 #[.int .i32 r] w fun e w' => e = .returned (.bool (Lib.validRune r)) ∧ w' = w := Any.utf8_ValidRune Tryd.lays119 r w
def Tryd.lays137_ren : Go.Shelf.Ren := ⟨fun | 137 => 110 | 217 => 93 | 266 => 104 | n => n, fun | 9 => 9 | 5 => 5 | 3 => 3 | n => n, fun | n => n⟩
theorem Tryd.lays137 : Go.Proofs.Lays.n137 Tryd.prog Tryd.lays137_ren := {
  mixed := by kernel_rfl
  f137 := Tryd.func110.trans (congrArg some (by kernel_rfl))
  f217 := Tryd.func93.trans (congrArg some (by kernel_rfl))
  f266 := Tryd.func104.trans (congrArg some (by kernel_rfl))
  t3 := Tryd.underlying3
  a3 := Tryd.isAgg3
  z3 := Tryd.sizeOf3
  v3 := Tryd.zeroValue3
  t5 := Tryd.underlying5
  a5 := Tryd.isAgg5
  z5 := Tryd.sizeOf5
  v5 := Tryd.zeroValue5
  t9 := Tryd.underlying9
  a9 := Tryd.isAgg9
  z9 := Tryd.sizeOf9
  v9 := Tryd.zeroValue9 }
open Go.RowKit in
theorem Tryd.strings_IndexByte (s : ByteArray) (c : Int) (w : World) :
    Calls Tryd.prog 110 #[.string s, .int .u8 c] w fun e w' => e = .returned (.int .i64 (Lib.indexByte s.data.toList c.toNat.toUInt8)) ∧ w' = w := Any.strings_IndexByte Tryd.lays137 s c w
open Go.RowKit in
theorem Tryd.Builder_String_f (B b : Nat) (l : List UInt8) (w : World) (h : Lib.IsBuilderF 91 5 B b (Lib.byteCells l) w) (h0 : l ≠ []) :
    Calls Tryd.prog 92 #[.pointer (some ⟨b, 0, none⟩)] w fun e w' => e = .returned (.string ⟨l.toArray⟩) ∧ (Lib.IsBuilderF 91 5 B b (Lib.byteCells l) w' ∧ Below B w w') := Any.Builder_String_f Tryd.lays169 Tryd.Builder_Extra_169 B b l w h h0
open Go.RowKit in
theorem Tryd.Builder_String_empty_f (B b : Nat) (w : World) (h : Lib.IsBuilderF 91 5 B b [] w) (hBw : B ≤ w.heap.size) :
    Calls Tryd.prog 92 #[.pointer (some ⟨b, 0, none⟩)] w fun e w' => e = .returned (.string ⟨#[]⟩) ∧ (Lib.IsBuilderF 91 5 B b [] w' ∧ Below B w w') := Any.Builder_String_empty_f Tryd.lays169 Tryd.Builder_Extra_169 B b w h hBw
open Go.RowKit in
theorem Tryd.Builder_String_any_f (B b : Nat) (l : List UInt8) (w : World) (h : Lib.IsBuilderF 91 5 B b (Lib.byteCells l) w) (hBw : B ≤ w.heap.size) :
    Calls Tryd.prog 92 #[.pointer (some ⟨b, 0, none⟩)] w fun e w' => e = .returned (.string ⟨l.toArray⟩) ∧ (Lib.IsBuilderF 91 5 B b (Lib.byteCells l) w' ∧ Below B w w') := Any.Builder_String_any_f Tryd.lays169 Tryd.Builder_Extra_169 B b l w h hBw
open Go.RowKit in
theorem Tryd.Builder_String_k (B b : Nat) (l : List UInt8) (w : World) (h : Lib.IsBuilderF 91 5 B b (Lib.byteCells l) w) (h0 : l ≠ []) :
    Calls Tryd.prog 92 #[.pointer (some ⟨b, 0, none⟩)] w fun e w' => e = .returned (.string ⟨l.toArray⟩) ∧ (Lib.IsBuilderF 91 5 B b (Lib.byteCells l) w' ∧ Below B w w' ∧ Lib.OthersKept 5 (some b) w w') := Any.Builder_String_k Tryd.lays169 Tryd.Builder_Extra_169 B b l w h h0
open Go.RowKit in
theorem Tryd.Builder_String_empty_k (B b : Nat) (w : World) (h : Lib.IsBuilderF 91 5 B b [] w) (hBw : B ≤ w.heap.size) :
    Calls Tryd.prog 92 #[.pointer (some ⟨b, 0, none⟩)] w fun e w' => e = .returned (.string ⟨#[]⟩) ∧ (Lib.IsBuilderF 91 5 B b [] w' ∧ Below B w w' ∧ Lib.OthersKept 5 (some b) w w') := Any.Builder_String_empty_k Tryd.lays169 Tryd.Builder_Extra_169 B b w h hBw
open Go.RowKit in
theorem Tryd.Builder_String_any_k (B b : Nat) (l : List UInt8) (w : World) (h : Lib.IsBuilderF 91 5 B b (Lib.byteCells l) w) (hBw : B ≤ w.heap.size) :
    Calls Tryd.prog 92 #[.pointer (some ⟨b, 0, none⟩)] w fun e w' => e = .returned (.string ⟨l.toArray⟩) ∧ (Lib.IsBuilderF 91 5 B b (Lib.byteCells l) w' ∧ Below B w w' ∧ Lib.OthersKept 5 (some b) w w') := Any.Builder_String_any_k Tryd.lays169 Tryd.Builder_Extra_169 B b l w h hBw
def Tryd.lays195_ren : Go.Shelf.Ren := ⟨fun | 195 => 71 | n => n, fun | 9 => 9 | 3 => 3 | 0 => 0 | 4 => 4 | n => n, fun | n => n⟩
theorem Tryd.lays195 : Go.Proofs.Lays.n195 Tryd.prog Tryd.lays195_ren := {
  mixed := by kernel_rfl
  f195 := Tryd.func71.trans (congrArg some (by kernel_rfl))
  t0 := Tryd.underlying0
  a0 := Tryd.isAgg0
  z0 := Tryd.sizeOf0
  v0 := Tryd.zeroValue0
  t3 := Tryd.underlying3
  a3 := Tryd.isAgg3
  z3 := Tryd.sizeOf3
  v3 := Tryd.zeroValue3
  t4 := Tryd.underlying4
  a4 := Tryd.isAgg4
  z4 := Tryd.sizeOf4
  v4 := Tryd.zeroValue4
  t9 := Tryd.underlying9
  a9 := Tryd.isAgg9
  z9 := Tryd.sizeOf9
  v9 := Tryd.zeroValue9 }
open Go.RowKit in
theorem Tryd.utf8_RuneCountInString (s : ByteArray) (w : World) (hs : s.size < 9223372036854775807) :
    Calls Tryd.prog 71 #[.string s] w fun e w' => e = .returned (.int .i64 (Lib.runeCount s)) ∧ ∃ pos, w' = w.iter s pos := Any.utf8_RuneCountInString Tryd.lays195 s w hs
open Go.RowKit in
theorem Tryd.Builder_grow_fresh_cap (B b n : Nat) (w : World) (hB : B ≤ b) (hbk : w.heap[b]? = some (.cells #[.pointer (some ⟨b, 0, none⟩), .slice none 0 0] 91 (0, 0))) (hBw : B ≤ w.heap.size) (hn : n ≤ 281474976710656) :
    Calls Tryd.prog 103 #[.pointer (some ⟨b, 0, none⟩), .int .i64 n] w fun e w' => e = .returned (.tuple #[]) ∧ (Lib.BuilderAt 91 5 B b (.pointer (some ⟨b, 0, none⟩)) [] w' ∧ Below B w w') ∧ ∃ p cap, w'.cell? ⟨b, 1, none⟩ = some (.slice p 0 cap) ∧ n ≤ cap := Any.Builder_grow_fresh_cap Tryd.lays241 Tryd.Builder_Extra_241 B b n w hB hbk hBw hn
open Go.RowKit in
theorem Tryd.Builder_Grow_fresh_cap (B b n : Nat) (w : World) (hB : B ≤ b) (hbk : w.heap[b]? = some (.cells #[.pointer none, .slice none 0 0] 91 (0, 0))) (hBw : B ≤ w.heap.size) (hn : n ≤ 281474976710656) :
    Calls Tryd.prog 90 #[.pointer (some ⟨b, 0, none⟩), .int .i64 n] w fun e w' => e = .returned (.tuple #[]) ∧ (Lib.BuilderAt 91 5 B b (.pointer (some ⟨b, 0, none⟩)) [] w' ∧ Below B w w') ∧ ∃ p cap, w'.cell? ⟨b, 1, none⟩ = some (.slice p 0 cap) ∧ n ≤ cap := Any.Builder_Grow_fresh_cap Tryd.lays165 Tryd.Builder_Extra_165 B b n w hB hbk hBw hn
def Tryd.lays217_ren : Go.Shelf.Ren := ⟨fun | 217 => 93 | 266 => 104 | n => n, fun | 9 => 9 | 5 => 5 | 3 => 3 | n => n, fun | n => n⟩
theorem Tryd.lays217 : Go.Proofs.Lays.n217 Tryd.prog Tryd.lays217_ren := {
  mixed := by kernel_rfl
  f217 := Tryd.func93.trans (congrArg some (by kernel_rfl))
  f266 := Tryd.func104.trans (congrArg some (by kernel_rfl))
  t3 := Tryd.underlying3
  a3 := Tryd.isAgg3
  z3 := Tryd.sizeOf3
  v3 := Tryd.zeroValue3
  t5 := Tryd.underlying5
  a5 := Tryd.isAgg5
  z5 := Tryd.sizeOf5
  v5 := Tryd.zeroValue5
  t9 := Tryd.underlying9
  a9 := Tryd.isAgg9
  z9 := Tryd.sizeOf9
  v9 := Tryd.zeroValue9 }
open Go.RowKit Go.Lib in
theorem Tryd.stringslite_IndexByte (s : ByteArray) (c : Int) (w : World) :
    Calls Tryd.prog 93 #[.string s, .int .u8 c] w fun e w' => e = .returned (.int .i64 (Lib.indexByte s.data.toList c.toNat.toUInt8)) ∧ w' = w := Any.stringslite_IndexByte Tryd.lays217 s c w
def Tryd.lays224_ren : Go.Shelf.Ren := ⟨fun | 224 => 95 | n => n, fun | 3 => 3 | n => n, fun | n => n⟩
theorem Tryd.lays224 : Go.Proofs.Lays.n224 Tryd.prog Tryd.lays224_ren := {
  mixed := by kernel_rfl
  f224 := Tryd.func95.trans (congrArg some (by kernel_rfl))
  t3 := Tryd.underlying3
  a3 := Tryd.isAgg3
  z3 := Tryd.sizeOf3
  v3 := Tryd.zeroValue3 }
open Go.RowKit Go.Lib in
theorem Tryd.bytealg_Cutover (n : Int) (h0 : 0 ≤ n) (h1 : n < 4611686018427387904) (w : World) :
    Calls Tryd.prog 95 #[.int .i64 n] w fun e w' => e = .returned (.int .i64 ((n + 16) / 8)) ∧ w' = w := Any.bytealg_Cutover Tryd.lays224 n h0 h1 w
def Tryd.lays314_ren : Go.Shelf.Ren := ⟨fun | 314 => 105 | n => n, fun | 9 => 9 | 51 => 100 | 3 => 3 | 4 => 4 | 5 => 5 | 46 => 99 | n => n, fun | n => n⟩
theorem Tryd.lays314 : Go.Proofs.Lays.n314 Tryd.prog Tryd.lays314_ren := {
  mixed := by kernel_rfl
  f314 := Tryd.func105.trans (congrArg some (by kernel_rfl))
  t3 := Tryd.underlying3
  a3 := Tryd.isAgg3
  z3 := Tryd.sizeOf3
  v3 := Tryd.zeroValue3
  t4 := Tryd.underlying4
  a4 := Tryd.isAgg4
  z4 := Tryd.sizeOf4
  v4 := Tryd.zeroValue4
  t5 := Tryd.underlying5
  a5 := Tryd.isAgg5
  z5 := Tryd.sizeOf5
  v5 := Tryd.zeroValue5
  t9 := Tryd.underlying9
  a9 := Tryd.isAgg9
  z9 := Tryd.sizeOf9
  v9 := Tryd.zeroValue9
  t46 := Tryd.underlying99
  a46 := Tryd.isAgg99
  z46 := Tryd.sizeOf99
  v46 := Tryd.zeroValue99
  t51 := Tryd.underlying100
  a51 := Tryd.isAgg100
  z51 := Tryd.sizeOf100
  v51 := Tryd.zeroValue100 }
open Go.RowKit Go.Lib in
theorem Tryd.bytealg_hashStr (sep : ByteArray) (hs : sep.size < 4294967281) (w : World) :
    Calls Tryd.prog 105 #[.string sep] w fun e w' => e = .returned (.tuple #[.int .u32 (RK.H sep.data.toList % 4294967296), .int .u32 (16777619 ^ sep.size % 4294967296)]) ∧ w' = w := Any.bytealg_hashStr Tryd.lays314 sep hs w
def Tryd.lays267_ren : Go.Shelf.Ren := ⟨fun | 267 => 96 | 314 => 105 | n => n, fun | 9 => 9 | 3 => 3 | 146 => 101 | 51 => 100 | 4 => 4 | 5 => 5 | 46 => 99 | n => n, fun | n => n⟩
theorem Tryd.lays267 : Go.Proofs.Lays.n267 Tryd.prog Tryd.lays267_ren := {
  mixed := by kernel_rfl
  f267 := Tryd.func96.trans (congrArg some (by kernel_rfl))
  f314 := Tryd.func105.trans (congrArg some (by kernel_rfl))
  t3 := Tryd.underlying3
  a3 := Tryd.isAgg3
  z3 := Tryd.sizeOf3
  v3 := Tryd.zeroValue3
  t4 := Tryd.underlying4
  a4 := Tryd.isAgg4
  z4 := Tryd.sizeOf4
  v4 := Tryd.zeroValue4
  t5 := Tryd.underlying5
  a5 := Tryd.isAgg5
  z5 := Tryd.sizeOf5
  v5 := Tryd.zeroValue5
  t9 := Tryd.underlying9
  a9 := Tryd.isAgg9
  z9 := Tryd.sizeOf9
  v9 := Tryd.zeroValue9
  t46 := Tryd.underlying99
  a46 := Tryd.isAgg99
  z46 := Tryd.sizeOf99
  v46 := Tryd.zeroValue99
  t51 := Tryd.underlying100
  a51 := Tryd.isAgg100
  z51 := Tryd.sizeOf100
  v51 := Tryd.zeroValue100
  t146 := Tryd.underlying101
  a146 := Tryd.isAgg101
  z146 := Tryd.sizeOf101
  v146 := Tryd.zeroValue101 }
open Go.RowKit Go.Lib in
theorem Tryd.bytealg_IndexRabinKarp (s sep : ByteArray) (h1 : 1 ≤ sep.size) (h2 : sep.size ≤ s.size) (hs : s.size < 4294967281) (w : World) :
    Calls Tryd.prog 96 #[.string s, .string sep] w fun e w' => e = .returned (.int .i64 (Lib.index s.data.toList sep.data.toList)) ∧ w' = w := Any.bytealg_IndexRabinKarp Tryd.lays267 s sep h1 h2 hs w
def Tryd.lays219_ren : Go.Shelf.Ren := ⟨fun | 219 => 77 | 217 => 93 | 225 => 94 | 224 => 95 | 267 => 96 | 266 => 104 | 314 => 105 | n => n, fun | 9 => 9 | 3 => 3 | 4 => 4 | 5 => 5 | 46 => 99 | 146 => 101 | 51 => 100 | n => n, fun | 1 => 0 | n => n⟩
theorem Tryd.lays219 : Go.Proofs.Lays.n219 Tryd.prog Tryd.lays219_ren := {
  mixed := by kernel_rfl
  f217 := Tryd.func93.trans (congrArg some (by kernel_rfl))
  f219 := Tryd.func77.trans (congrArg some (by kernel_rfl))
  f224 := Tryd.func95.trans (congrArg some (by kernel_rfl))
  f225 := Tryd.func94.trans (congrArg some (by kernel_rfl))
  f266 := Tryd.func104.trans (congrArg some (by kernel_rfl))
  f267 := Tryd.func96.trans (congrArg some (by kernel_rfl))
  f314 := Tryd.func105.trans (congrArg some (by kernel_rfl))
  t3 := Tryd.underlying3
  a3 := Tryd.isAgg3
  z3 := Tryd.sizeOf3
  v3 := Tryd.zeroValue3
  t4 := Tryd.underlying4
  a4 := Tryd.isAgg4
  z4 := Tryd.sizeOf4
  v4 := Tryd.zeroValue4
  t5 := Tryd.underlying5
  a5 := Tryd.isAgg5
  z5 := Tryd.sizeOf5
  v5 := Tryd.zeroValue5
  t9 := Tryd.underlying9
  a9 := Tryd.isAgg9
  z9 := Tryd.sizeOf9
  v9 := Tryd.zeroValue9
  t46 := Tryd.underlying99
  a46 := Tryd.isAgg99
  z46 := Tryd.sizeOf99
  v46 := Tryd.zeroValue99
  t51 := Tryd.underlying100
  a51 := Tryd.isAgg100
  z51 := Tryd.sizeOf100
  v51 := Tryd.zeroValue100
  t146 := Tryd.underlying101
  a146 := Tryd.isAgg101
  z146 := Tryd.sizeOf101
  v146 := Tryd.zeroValue101
  g1 := by kernel_rfl }
open Go.RowKit Go.Lib in
theorem Tryd.stringslite_Index_one (s : ByteArray) (c : UInt8) (w : World) :
    Calls Tryd.prog 77 #[.string s, .string ⟨#[c]⟩] w fun e w' => e = .returned (.int .i64 (Lib.indexByte s.data.toList c)) ∧ w' = w := Any.stringslite_Index_one Tryd.lays219 s c w
open Go.RowKit Go.Lib in
theorem Tryd.stringslite_Index (s sub : ByteArray) (m : Int) (w : World) (hs : s.size < 4294967281) (hm : w.cell? ⟨0, 0, none⟩ = some (.int .i64 m)) :
    Calls Tryd.prog 77 #[.string s, .string sub] w fun e w' => e = .returned (.int .i64 (Lib.index s.data.toList sub.data.toList)) ∧ w' = w := Any.stringslite_Index Tryd.lays219 s sub m w hs hm
def Tryd.lays143_ren : Go.Shelf.Ren := ⟨fun | 143 => 59 | 219 => 77 | 217 => 93 | 225 => 94 | 224 => 95 | 267 => 96 | 266 => 104 | 314 => 105 | n => n, fun | 9 => 9 | 3 => 3 | 4 => 4 | 5 => 5 | 46 => 99 | 146 => 101 | 51 => 100 | n => n, fun | 1 => 0 | n => n⟩
theorem Tryd.lays143 : Go.Proofs.Lays.n143 Tryd.prog Tryd.lays143_ren := {
  mixed := by kernel_rfl
  f143 := Tryd.func59.trans (congrArg some (by kernel_rfl))
  f217 := Tryd.func93.trans (congrArg some (by kernel_rfl))
  f219 := Tryd.func77.trans (congrArg some (by kernel_rfl))
  f224 := Tryd.func95.trans (congrArg some (by kernel_rfl))
  f225 := Tryd.func94.trans (congrArg some (by kernel_rfl))
  f266 := Tryd.func104.trans (congrArg some (by kernel_rfl))
  f267 := Tryd.func96.trans (congrArg some (by kernel_rfl))
  f314 := Tryd.func105.trans (congrArg some (by kernel_rfl))
  t3 := Tryd.underlying3
  a3 := Tryd.isAgg3
  z3 := Tryd.sizeOf3
  v3 := Tryd.zeroValue3
  t4 := Tryd.underlying4
  a4 := Tryd.isAgg4
  z4 := Tryd.sizeOf4
  v4 := Tryd.zeroValue4
  t5 := Tryd.underlying5
  a5 := Tryd.isAgg5
  z5 := Tryd.sizeOf5
  v5 := Tryd.zeroValue5
  t9 := Tryd.underlying9
  a9 := Tryd.isAgg9
  z9 := Tryd.sizeOf9
  v9 := Tryd.zeroValue9
  t46 := Tryd.underlying99
  a46 := Tryd.isAgg99
  z46 := Tryd.sizeOf99
  v46 := Tryd.zeroValue99
  t51 := Tryd.underlying100
  a51 := Tryd.isAgg100
  z51 := Tryd.sizeOf100
  v51 := Tryd.zeroValue100
  t146 := Tryd.underlying101
  a146 := Tryd.isAgg101
  z146 := Tryd.sizeOf101
  v146 := Tryd.zeroValue101
  g1 := by kernel_rfl }
open Go.RowKit Go.Lib in
theorem Tryd.strings_Index_one (s : ByteArray) (c : UInt8) (w : World) :
    Calls Tryd.prog 59 #[.string s, .string ⟨#[c]⟩] w fun e w' => e = .returned (.int .i64 (Lib.indexByte s.data.toList c)) ∧ w' = w := Any.strings_Index_one Tryd.lays143 s c w
open Go.RowKit Go.Lib in
theorem Tryd.strings_Index (s sub : ByteArray) (m : Int) (w : World) (hs : s.size < 4294967281) (hm : w.cell? ⟨0, 0, none⟩ = some (.int .i64 m)) :
    Calls Tryd.prog 59 #[.string s, .string sub] w fun e w' => e = .returned (.int .i64 (Lib.index s.data.toList sub.data.toList)) ∧ w' = w := Any.strings_Index Tryd.lays143 s sub m w hs hm
def Tryd.lays144_ren : Go.Shelf.Ren := ⟨fun | 144 => 27 | 143 => 59 | 219 => 77 | 217 => 93 | 225 => 94 | 224 => 95 | 267 => 96 | 266 => 104 | 314 => 105 | n => n, fun | 9 => 9 | 4 => 4 | 3 => 3 | 5 => 5 | 46 => 99 | 146 => 101 | 51 => 100 | n => n, fun | 1 => 0 | n => n⟩
theorem Tryd.lays144 : Go.Proofs.Lays.n144 Tryd.prog Tryd.lays144_ren := {
  mixed := by kernel_rfl
  f143 := Tryd.func59.trans (congrArg some (by kernel_rfl))
  f144 := Tryd.func27.trans (congrArg some (by kernel_rfl))
  f217 := Tryd.func93.trans (congrArg some (by kernel_rfl))
  f219 := Tryd.func77.trans (congrArg some (by kernel_rfl))
  f224 := Tryd.func95.trans (congrArg some (by kernel_rfl))
  f225 := Tryd.func94.trans (congrArg some (by kernel_rfl))
  f266 := Tryd.func104.trans (congrArg some (by kernel_rfl))
  f267 := Tryd.func96.trans (congrArg some (by kernel_rfl))
  f314 := Tryd.func105.trans (congrArg some (by kernel_rfl))
  t3 := Tryd.underlying3
  a3 := Tryd.isAgg3
  z3 := Tryd.sizeOf3
  v3 := Tryd.zeroValue3
  t4 := Tryd.underlying4
  a4 := Tryd.isAgg4
  z4 := Tryd.sizeOf4
  v4 := Tryd.zeroValue4
  t5 := Tryd.underlying5
  a5 := Tryd.isAgg5
  z5 := Tryd.sizeOf5
  v5 := Tryd.zeroValue5
  t9 := Tryd.underlying9
  a9 := Tryd.isAgg9
  z9 := Tryd.sizeOf9
  v9 := Tryd.zeroValue9
  t46 := Tryd.underlying99
  a46 := Tryd.isAgg99
  z46 := Tryd.sizeOf99
  v46 := Tryd.zeroValue99
  t51 := Tryd.underlying100
  a51 := Tryd.isAgg100
  z51 := Tryd.sizeOf100
  v51 := Tryd.zeroValue100
  t146 := Tryd.underlying101
  a146 := Tryd.isAgg101
  z146 := Tryd.sizeOf101
  v146 := Tryd.zeroValue101
  g1 := by kernel_rfl }
open Go.RowKit Go.Lib in
theorem Tryd.strings_Contains_one (s : ByteArray) (c : UInt8) (w : World) :
    Calls Tryd.prog 27 #[.string s, .string ⟨#[c]⟩] w fun e w' => e = .returned (.bool (decide (0 ≤ Lib.indexByte s.data.toList c))) ∧ w' = w := Any.strings_Contains_one Tryd.lays144 s c w
open Go.RowKit Go.Lib in
theorem Tryd.strings_Contains (s sub : ByteArray) (m : Int) (w : World) (hs : s.size < 4294967281) (hm : w.cell? ⟨0, 0, none⟩ = some (.int .i64 m)) :
    Calls Tryd.prog 27 #[.string s, .string sub] w fun e w' => e = .returned (.bool (Lib.contains s.data.toList sub.data.toList)) ∧ w' = w := Any.strings_Contains Tryd.lays144 s sub m w hs hm
def Tryd.lays138_ren : Go.Shelf.Ren := ⟨fun | 138 => 53 | 195 => 71 | 218 => 72 | 143 => 59 | 219 => 77 | 217 => 93 | 225 => 94 | 224 => 95 | 267 => 96 | 266 => 104 | 314 => 105 | n => n, fun | 9 => 9 | 3 => 3 | 4 => 4 | 5 => 5 | 0 => 0 | 46 => 99 | 146 => 101 | 51 => 100 | n => n, fun | 1 => 0 | n => n⟩
theorem Tryd.lays138 : Go.Proofs.Lays.n138 Tryd.prog Tryd.lays138_ren := {
  mixed := by kernel_rfl
  f138 := Tryd.func53.trans (congrArg some (by kernel_rfl))
  f143 := Tryd.func59.trans (congrArg some (by kernel_rfl))
  f195 := Tryd.func71.trans (congrArg some (by kernel_rfl))
  f217 := Tryd.func93.trans (congrArg some (by kernel_rfl))
  f218 := Tryd.func72.trans (congrArg some (by kernel_rfl))
  f219 := Tryd.func77.trans (congrArg some (by kernel_rfl))
  f224 := Tryd.func95.trans (congrArg some (by kernel_rfl))
  f225 := Tryd.func94.trans (congrArg some (by kernel_rfl))
  f266 := Tryd.func104.trans (congrArg some (by kernel_rfl))
  f267 := Tryd.func96.trans (congrArg some (by kernel_rfl))
  f314 := Tryd.func105.trans (congrArg some (by kernel_rfl))
  t0 := Tryd.underlying0
  a0 := Tryd.isAgg0
  z0 := Tryd.sizeOf0
  v0 := Tryd.zeroValue0
  t3 := Tryd.underlying3
  a3 := Tryd.isAgg3
  z3 := Tryd.sizeOf3
  v3 := Tryd.zeroValue3
  t4 := Tryd.underlying4
  a4 := Tryd.isAgg4
  z4 := Tryd.sizeOf4
  v4 := Tryd.zeroValue4
  t5 := Tryd.underlying5
  a5 := Tryd.isAgg5
  z5 := Tryd.sizeOf5
  v5 := Tryd.zeroValue5
  t9 := Tryd.underlying9
  a9 := Tryd.isAgg9
  z9 := Tryd.sizeOf9
  v9 := Tryd.zeroValue9
  t46 := Tryd.underlying99
  a46 := Tryd.isAgg99
  z46 := Tryd.sizeOf99
  v46 := Tryd.zeroValue99
  t51 := Tryd.underlying100
  a51 := Tryd.isAgg100
  z51 := Tryd.sizeOf100
  v51 := Tryd.zeroValue100
  t146 := Tryd.underlying101
  a146 := Tryd.isAgg101
  z146 := Tryd.sizeOf101
  v146 := Tryd.zeroValue101
  g1 := by kernel_rfl }
open Go.RowKit Go.Lib in
theorem Tryd.strings_Count_one (s : ByteArray) (c : UInt8) (w : World) :
    Calls Tryd.prog 53 #[.string s, .string ⟨#[c]⟩] w fun e w' => e = .returned (.int .i64 (Lib.countByte s.data.toList c)) ∧ w' = w := Any.strings_Count_one Tryd.lays138 s c w
open Go.RowKit Go.Lib in
theorem Tryd.strings_Count (s sub : ByteArray) (m : Int) (w : World) (hs : s.size < 4294967281) (hm : w.cell? ⟨0, 0, none⟩ = some (.int .i64 m)) (h2 : 2 ≤ sub.size) :
    Calls Tryd.prog 53 #[.string s, .string sub] w fun e w' => e = .returned (.int .i64 (Lib.countB s sub)) ∧ w' = w := Any.strings_Count Tryd.lays138 s sub m w hs hm h2
def Tryd.laysM219_ren : Go.Shelf.Ren := ⟨fun | 219 => 77 | 217 => 93 | 225 => 94 | 224 => 95 | 267 => 96 | 266 => 104 | 314 => 105 | n => n, fun | 9 => 9 | 3 => 3 | 4 => 4 | 5 => 5 | 46 => 99 | 146 => 101 | 51 => 100 | n => n, fun | 1 => 0 | n => n⟩
theorem Tryd.laysM219 : Go.Proofs.LaysM.n219 Tryd.prog Tryd.laysM219_ren := {
  mixed := by kernel_rfl
  f217 := Tryd.func93.trans (congrArg some (by kernel_rfl))
  f219 := Tryd.func77.trans (congrArg some (by kernel_rfl))
  f224 := Tryd.func95.trans (congrArg some (by kernel_rfl))
  f225 := Tryd.func94.trans (congrArg some (by kernel_rfl))
  f266 := Tryd.func104.trans (congrArg some (by kernel_rfl))
  f267 := Tryd.func96.trans (congrArg some (by kernel_rfl))
  f314 := Tryd.func105.trans (congrArg some (by kernel_rfl))
  t3 := Tryd.underlying3
  a3 := Tryd.isAgg3
  z3 := Tryd.sizeOf3
  v3 := Tryd.zeroValue3
  t4 := Tryd.underlying4
  a4 := Tryd.isAgg4
  z4 := Tryd.sizeOf4
  v4 := Tryd.zeroValue4
  t5 := Tryd.underlying5
  a5 := Tryd.isAgg5
  z5 := Tryd.sizeOf5
  v5 := Tryd.zeroValue5
  t9 := Tryd.underlying9
  a9 := Tryd.isAgg9
  z9 := Tryd.sizeOf9
  v9 := Tryd.zeroValue9
  t46 := Tryd.underlying99
  a46 := Tryd.isAgg99
  z46 := Tryd.sizeOf99
  v46 := Tryd.zeroValue99
  t51 := Tryd.underlying100
  a51 := Tryd.isAgg100
  z51 := Tryd.sizeOf100
  v51 := Tryd.zeroValue100
  t146 := Tryd.underlying101
  a146 := Tryd.isAgg101
  z146 := Tryd.sizeOf101
  v146 := Tryd.zeroValue101
  g1 := by kernel_rfl
  i3 := by kernel_rfl
  i4 := by kernel_rfl
  i5 := by kernel_rfl
  i9 := by kernel_rfl
  i46 := by kernel_rfl
  i51 := by kernel_rfl
  i146 := by kernel_rfl
  m1 := by kernel_rfl
  s1_3 := fun w h => Go.Proofs.cell_of_shapedOpen_int (zero := #[.int .i64 0]) (t := 3) h (of_decide_eq_true (by kernel_rfl)) (by kernel_rfl) rfl (by kernel_rfl) (by kernel_rfl) Tryd.underlying3 }
open Go.RowKit Go.Lib in
theorem Tryd.stringslite_Index_shaped (s sub : ByteArray) (w : World) (h : w.ShapedOpen Tryd.prog) (hs : s.size < 4294967281) :
    Calls Tryd.prog 77 #[.string s, .string sub] w fun e w' => e = .returned (.int .i64 (Lib.index s.data.toList sub.data.toList)) ∧ w' = w := Any.stringslite_Index_shaped Tryd.laysM219 s sub w h hs
def Tryd.laysM143_ren : Go.Shelf.Ren := ⟨fun | 143 => 59 | 219 => 77 | 217 => 93 | 225 => 94 | 224 => 95 | 267 => 96 | 266 => 104 | 314 => 105 | n => n, fun | 9 => 9 | 3 => 3 | 4 => 4 | 5 => 5 | 46 => 99 | 146 => 101 | 51 => 100 | n => n, fun | 1 => 0 | n => n⟩
theorem Tryd.laysM143 : Go.Proofs.LaysM.n143 Tryd.prog Tryd.laysM143_ren := {
  mixed := by kernel_rfl
  f143 := Tryd.func59.trans (congrArg some (by kernel_rfl))
  f217 := Tryd.func93.trans (congrArg some (by kernel_rfl))
  f219 := Tryd.func77.trans (congrArg some (by kernel_rfl))
  f224 := Tryd.func95.trans (congrArg some (by kernel_rfl))
  f225 := Tryd.func94.trans (congrArg some (by kernel_rfl))
  f266 := Tryd.func104.trans (congrArg some (by kernel_rfl))
  f267 := Tryd.func96.trans (congrArg some (by kernel_rfl))
  f314 := Tryd.func105.trans (congrArg some (by kernel_rfl))
  t3 := Tryd.underlying3
  a3 := Tryd.isAgg3
  z3 := Tryd.sizeOf3
  v3 := Tryd.zeroValue3
  t4 := Tryd.underlying4
  a4 := Tryd.isAgg4
  z4 := Tryd.sizeOf4
  v4 := Tryd.zeroValue4
  t5 := Tryd.underlying5
  a5 := Tryd.isAgg5
  z5 := Tryd.sizeOf5
  v5 := Tryd.zeroValue5
  t9 := Tryd.underlying9
  a9 := Tryd.isAgg9
  z9 := Tryd.sizeOf9
  v9 := Tryd.zeroValue9
  t46 := Tryd.underlying99
  a46 := Tryd.isAgg99
  z46 := Tryd.sizeOf99
  v46 := Tryd.zeroValue99
  t51 := Tryd.underlying100
  a51 := Tryd.isAgg100
  z51 := Tryd.sizeOf100
  v51 := Tryd.zeroValue100
  t146 := Tryd.underlying101
  a146 := Tryd.isAgg101
  z146 := Tryd.sizeOf101
  v146 := Tryd.zeroValue101
  g1 := by kernel_rfl
  i3 := by kernel_rfl
  i4 := by kernel_rfl
  i5 := by kernel_rfl
  i9 := by kernel_rfl
  i46 := by kernel_rfl
  i51 := by kernel_rfl
  i146 := by kernel_rfl
  m1 := by kernel_rfl
  s1_3 := fun w h => Go.Proofs.cell_of_shapedOpen_int (zero := #[.int .i64 0]) (t := 3) h (of_decide_eq_true (by kernel_rfl)) (by kernel_rfl) rfl (by kernel_rfl) (by kernel_rfl) Tryd.underlying3 }
open Go.RowKit Go.Lib in
theorem Tryd.strings_Index_shaped (s sub : ByteArray) (w : World) (h : w.ShapedOpen Tryd.prog) (hs : s.size < 4294967281) :
    Calls Tryd.prog 59 #[.string s, .string sub] w fun e w' => e = .returned (.int .i64 (Lib.index s.data.toList sub.data.toList)) ∧ w' = w := Any.strings_Index_shaped Tryd.laysM143 s sub w h hs
def Tryd.laysM144_ren : Go.Shelf.Ren := ⟨fun | 144 => 27 | 143 => 59 | 219 => 77 | 217 => 93 | 225 => 94 | 224 => 95 | 267 => 96 | 266 => 104 | 314 => 105 | n => n, fun | 9 => 9 | 4 => 4 | 3 => 3 | 5 => 5 | 46 => 99 | 146 => 101 | 51 => 100 | n => n, fun | 1 => 0 | n => n⟩
theorem Tryd.laysM144 : Go.Proofs.LaysM.n144 Tryd.prog Tryd.laysM144_ren := {
  mixed := by kernel_rfl
  f143 := Tryd.func59.trans (congrArg some (by kernel_rfl))
  f144 := Tryd.func27.trans (congrArg some (by kernel_rfl))
  f217 := Tryd.func93.trans (congrArg some (by kernel_rfl))
  f219 := Tryd.func77.trans (congrArg some (by kernel_rfl))
  f224 := Tryd.func95.trans (congrArg some (by kernel_rfl))
  f225 := Tryd.func94.trans (congrArg some (by kernel_rfl))
  f266 := Tryd.func104.trans (congrArg some (by kernel_rfl))
  f267 := Tryd.func96.trans (congrArg some (by kernel_rfl))
  f314 := Tryd.func105.trans (congrArg some (by kernel_rfl))
  t3 := Tryd.underlying3
  a3 := Tryd.isAgg3
  z3 := Tryd.sizeOf3
  v3 := Tryd.zeroValue3
  t4 := Tryd.underlying4
  a4 := Tryd.isAgg4
  z4 := Tryd.sizeOf4
  v4 := Tryd.zeroValue4
  t5 := Tryd.underlying5
  a5 := Tryd.isAgg5
  z5 := Tryd.sizeOf5
  v5 := Tryd.zeroValue5
  t9 := Tryd.underlying9
  a9 := Tryd.isAgg9
  z9 := Tryd.sizeOf9
  v9 := Tryd.zeroValue9
  t46 := Tryd.underlying99
  a46 := Tryd.isAgg99
  z46 := Tryd.sizeOf99
  v46 := Tryd.zeroValue99
  t51 := Tryd.underlying100
  a51 := Tryd.isAgg100
  z51 := Tryd.sizeOf100
  v51 := Tryd.zeroValue100
  t146 := Tryd.underlying101
  a146 := Tryd.isAgg101
  z146 := Tryd.sizeOf101
  v146 := Tryd.zeroValue101
  g1 := by kernel_rfl
  i3 := by kernel_rfl
  i4 := by kernel_rfl
  i5 := by kernel_rfl
  i9 := by kernel_rfl
  i46 := by kernel_rfl
  i51 := by kernel_rfl
  i146 := by kernel_rfl
  m1 := by kernel_rfl
  s1_3 := fun w h => Go.Proofs.cell_of_shapedOpen_int (zero := #[.int .i64 0]) (t := 3) h (of_decide_eq_true (by kernel_rfl)) (by kernel_rfl) rfl (by kernel_rfl) (by kernel_rfl) Tryd.underlying3 }
open Go.RowKit Go.Lib in
theorem Tryd.strings_Contains_shaped (s sub : ByteArray) (w : World) (h : w.ShapedOpen Tryd.prog) (hs : s.size < 4294967281) :
    Calls Tryd.prog 27 #[.string s, .string sub] w fun e w' => e = .returned (.bool (Lib.contains s.data.toList sub.data.toList)) ∧ w' = w := Any.strings_Contains_shaped Tryd.laysM144 s sub w h hs
def Tryd.laysM138_ren : Go.Shelf.Ren := ⟨fun | 138 => 53 | 195 => 71 | 218 => 72 | 143 => 59 | 219 => 77 | 217 => 93 | 225 => 94 | 224 => 95 | 267 => 96 | 266 => 104 | 314 => 105 | n => n, fun | 9 => 9 | 3 => 3 | 4 => 4 | 5 => 5 | 0 => 0 | 46 => 99 | 146 => 101 | 51 => 100 | n => n, fun | 1 => 0 | n => n⟩
theorem Tryd.laysM138 : Go.Proofs.LaysM.n138 Tryd.prog Tryd.laysM138_ren := {
  mixed := by kernel_rfl
  f138 := Tryd.func53.trans (congrArg some (by kernel_rfl))
  f143 := Tryd.func59.trans (congrArg some (by kernel_rfl))
  f195 := Tryd.func71.trans (congrArg some (by kernel_rfl))
  f217 := Tryd.func93.trans (congrArg some (by kernel_rfl))
  f218 := Tryd.func72.trans (congrArg some (by kernel_rfl))
  f219 := Tryd.func77.trans (congrArg some (by kernel_rfl))
  f224 := Tryd.func95.trans (congrArg some (by kernel_rfl))
  f225 := Tryd.func94.trans (congrArg some (by kernel_rfl))
  f266 := Tryd.func104.trans (congrArg some (by kernel_rfl))
  f267 := Tryd.func96.trans (congrArg some (by kernel_rfl))
  f314 := Tryd.func105.trans (congrArg some (by kernel_rfl))
  t0 := Tryd.underlying0
  a0 := Tryd.isAgg0
  z0 := Tryd.sizeOf0
  v0 := Tryd.zeroValue0
  t3 := Tryd.underlying3
  a3 := Tryd.isAgg3
  z3 := Tryd.sizeOf3
  v3 := Tryd.zeroValue3
  t4 := Tryd.underlying4
  a4 := Tryd.isAgg4
  z4 := Tryd.sizeOf4
  v4 := Tryd.zeroValue4
  t5 := Tryd.underlying5
  a5 := Tryd.isAgg5
  z5 := Tryd.sizeOf5
  v5 := Tryd.zeroValue5
  t9 := Tryd.underlying9
  a9 := Tryd.isAgg9
  z9 := Tryd.sizeOf9
  v9 := Tryd.zeroValue9
  t46 := Tryd.underlying99
  a46 := Tryd.isAgg99
  z46 := Tryd.sizeOf99
  v46 := Tryd.zeroValue99
  t51 := Tryd.underlying100
  a51 := Tryd.isAgg100
  z51 := Tryd.sizeOf100
  v51 := Tryd.zeroValue100
  t146 := Tryd.underlying101
  a146 := Tryd.isAgg101
  z146 := Tryd.sizeOf101
  v146 := Tryd.zeroValue101
  g1 := by kernel_rfl
  i0 := by kernel_rfl
  i3 := by kernel_rfl
  i4 := by kernel_rfl
  i5 := by kernel_rfl
  i9 := by kernel_rfl
  i46 := by kernel_rfl
  i51 := by kernel_rfl
  i146 := by kernel_rfl
  m1 := by kernel_rfl
  s1_3 := fun w h => Go.Proofs.cell_of_shapedOpen_int (zero := #[.int .i64 0]) (t := 3) h (of_decide_eq_true (by kernel_rfl)) (by kernel_rfl) rfl (by kernel_rfl) (by kernel_rfl) Tryd.underlying3 }
open Go.RowKit Go.Lib in
theorem Tryd.strings_Count_shaped (s sub : ByteArray) (w : World) (h : w.ShapedOpen Tryd.prog) (hs : s.size < 4294967281) (h2 : 2 ≤ sub.size) :
    Calls Tryd.prog 53 #[.string s, .string sub] w fun e w' => e = .returned (.int .i64 (Lib.countB s sub)) ∧ w' = w := Any.strings_Count_shaped Tryd.laysM138 s sub w h hs h2
def Tryd.lays222_ren : Go.Shelf.Ren := ⟨fun | 222 => 78 | n => n, fun | 9 => 9 | 5 => 5 | 3 => 3 | 4 => 4 | n => n, fun | n => n⟩
theorem Tryd.lays222 : Go.Proofs.Lays.n222 Tryd.prog Tryd.lays222_ren := {
  mixed := by kernel_rfl
  f222 := Tryd.func78.trans (congrArg some (by kernel_rfl))
  t3 := Tryd.underlying3
  a3 := Tryd.isAgg3
  z3 := Tryd.sizeOf3
  v3 := Tryd.zeroValue3
  t4 := Tryd.underlying4
  a4 := Tryd.isAgg4
  z4 := Tryd.sizeOf4
  v4 := Tryd.zeroValue4
  t5 := Tryd.underlying5
  a5 := Tryd.isAgg5
  z5 := Tryd.sizeOf5
  v5 := Tryd.zeroValue5
  t9 := Tryd.underlying9
  a9 := Tryd.isAgg9
  z9 := Tryd.sizeOf9
  v9 := Tryd.zeroValue9 }
open Go.RowKit Go.Lib in
theorem Tryd.bytealg_LastIndexByteString_nm (s : ByteArray) (c : Int) (hs : s.size < 4611686018427387904) (w : World) :
    Calls Tryd.prog 78 #[.string s, .int .u8 c] w fun e w' => e = .returned (.int .i64 (Lib.lastIndexByte s c)) ∧ w' = w := Any.bytealg_LastIndexByteString_nm Tryd.lays222 s c hs w
def Tryd.lays148_ren : Go.Shelf.Ren := ⟨fun | 148 => 66 | 222 => 78 | 223 => 79 | 269 => 97 | n => n, fun | 9 => 9 | 3 => 3 | 4 => 4 | 5 => 5 | 146 => 101 | 51 => 100 | 46 => 99 | n => n, fun | n => n⟩
theorem Tryd.lays148 : Go.Proofs.Lays.n148 Tryd.prog Tryd.lays148_ren := {
  mixed := by kernel_rfl
  f148 := Tryd.func66.trans (congrArg some (by kernel_rfl))
  f222 := Tryd.func78.trans (congrArg some (by kernel_rfl))
  f223 := Tryd.func79.trans (congrArg some (by kernel_rfl))
  f269 := Tryd.func97.trans (congrArg some (by kernel_rfl))
  t3 := Tryd.underlying3
  a3 := Tryd.isAgg3
  z3 := Tryd.sizeOf3
  v3 := Tryd.zeroValue3
  t4 := Tryd.underlying4
  a4 := Tryd.isAgg4
  z4 := Tryd.sizeOf4
  v4 := Tryd.zeroValue4
  t5 := Tryd.underlying5
  a5 := Tryd.isAgg5
  z5 := Tryd.sizeOf5
  v5 := Tryd.zeroValue5
  t9 := Tryd.underlying9
  a9 := Tryd.isAgg9
  z9 := Tryd.sizeOf9
  v9 := Tryd.zeroValue9
  t46 := Tryd.underlying99
  a46 := Tryd.isAgg99
  z46 := Tryd.sizeOf99
  v46 := Tryd.zeroValue99
  t51 := Tryd.underlying100
  a51 := Tryd.isAgg100
  z51 := Tryd.sizeOf100
  v51 := Tryd.zeroValue100
  t146 := Tryd.underlying101
  a146 := Tryd.isAgg101
  z146 := Tryd.sizeOf101
  v146 := Tryd.zeroValue101 }
open Go.RowKit Go.Lib in
theorem Tryd.strings_LastIndex_one (s sub : ByteArray) (h1 : sub.size = 1) (hs : s.size < 4611686018427387904) (w : World) :
    Calls Tryd.prog 66 #[.string s, .string sub] w fun e w' => e = .returned (.int .i64 (Lib.lastIndexByte s ((sub[0]'(by omega)).toNat : Int))) ∧ w' = w := Any.strings_LastIndex_one Tryd.lays148 s sub h1 hs w
open Go.RowKit Go.Lib in
theorem Tryd.strings_LastIndex_empty (s sub : ByteArray) (h0 : sub.size = 0) (w : World) :
    Calls Tryd.prog 66 #[.string s, .string sub] w fun e w' => e = .returned (.int .i64 s.size) ∧ w' = w := Any.strings_LastIndex_empty Tryd.lays148 s sub h0 w
open Go.RowKit Go.Lib in
theorem Tryd.strings_LastIndex_longer (s sub : ByteArray) (h2 : 2 ≤ sub.size) (hl : s.size < sub.size) (w : World) :
    Calls Tryd.prog 66 #[.string s, .string sub] w fun e w' => e = .returned (.int .i64 (-1)) ∧ w' = w := Any.strings_LastIndex_longer Tryd.lays148 s sub h2 hl w
open Go.RowKit Go.Lib in
theorem Tryd.strings_LastIndex_whole (s sub : ByteArray) (h2 : 2 ≤ sub.size) (hl : sub.size = s.size) (w : World) :
    Calls Tryd.prog 66 #[.string s, .string sub] w fun e w' => e = .returned (.int .i64 (if sub = s then 0 else -1)) ∧ w' = w := Any.strings_LastIndex_whole Tryd.lays148 s sub h2 hl w
def Tryd.lays269_ren : Go.Shelf.Ren := ⟨fun | 269 => 97 | n => n, fun | 9 => 9 | 51 => 100 | 3 => 3 | 4 => 4 | 5 => 5 | 46 => 99 | n => n, fun | n => n⟩
theorem Tryd.lays269 : Go.Proofs.Lays.n269 Tryd.prog Tryd.lays269_ren := {
  mixed := by kernel_rfl
  f269 := Tryd.func97.trans (congrArg some (by kernel_rfl))
  t3 := Tryd.underlying3
  a3 := Tryd.isAgg3
  z3 := Tryd.sizeOf3
  v3 := Tryd.zeroValue3
  t4 := Tryd.underlying4
  a4 := Tryd.isAgg4
  z4 := Tryd.sizeOf4
  v4 := Tryd.zeroValue4
  t5 := Tryd.underlying5
  a5 := Tryd.isAgg5
  z5 := Tryd.sizeOf5
  v5 := Tryd.zeroValue5
  t9 := Tryd.underlying9
  a9 := Tryd.isAgg9
  z9 := Tryd.sizeOf9
  v9 := Tryd.zeroValue9
  t46 := Tryd.underlying99
  a46 := Tryd.isAgg99
  z46 := Tryd.sizeOf99
  v46 := Tryd.zeroValue99
  t51 := Tryd.underlying100
  a51 := Tryd.isAgg100
  z51 := Tryd.sizeOf100
  v51 := Tryd.zeroValue100 }
open Go.RowKit Go.Lib in
theorem Tryd.bytealg_hashStrRev (sep : ByteArray) (hs : sep.size < 4611686018427387904) (w : World) :
    Calls Tryd.prog 97 #[.string sep] w fun e w' => e = .returned (.tuple #[.int .u32 (RK.H sep.data.toList.reverse % 4294967296), .int .u32 (16777619 ^ sep.size % 4294967296)]) ∧ w' = w := Any.bytealg_hashStrRev Tryd.lays269 sep hs w
def Tryd.lays223_ren : Go.Shelf.Ren := ⟨fun | 223 => 79 | 269 => 97 | n => n, fun | 9 => 9 | 3 => 3 | 146 => 101 | 51 => 100 | 4 => 4 | 5 => 5 | 46 => 99 | n => n, fun | n => n⟩
theorem Tryd.lays223 : Go.Proofs.Lays.n223 Tryd.prog Tryd.lays223_ren := {
  mixed := by kernel_rfl
  f223 := Tryd.func79.trans (congrArg some (by kernel_rfl))
  f269 := Tryd.func97.trans (congrArg some (by kernel_rfl))
  t3 := Tryd.underlying3
  a3 := Tryd.isAgg3
  z3 := Tryd.sizeOf3
  v3 := Tryd.zeroValue3
  t4 := Tryd.underlying4
  a4 := Tryd.isAgg4
  z4 := Tryd.sizeOf4
  v4 := Tryd.zeroValue4
  t5 := Tryd.underlying5
  a5 := Tryd.isAgg5
  z5 := Tryd.sizeOf5
  v5 := Tryd.zeroValue5
  t9 := Tryd.underlying9
  a9 := Tryd.isAgg9
  z9 := Tryd.sizeOf9
  v9 := Tryd.zeroValue9
  t46 := Tryd.underlying99
  a46 := Tryd.isAgg99
  z46 := Tryd.sizeOf99
  v46 := Tryd.zeroValue99
  t51 := Tryd.underlying100
  a51 := Tryd.isAgg100
  z51 := Tryd.sizeOf100
  v51 := Tryd.zeroValue100
  t146 := Tryd.underlying101
  a146 := Tryd.isAgg101
  z146 := Tryd.sizeOf101
  v146 := Tryd.zeroValue101 }
open Go.RowKit Go.Lib in
theorem Tryd.bytealg_LastIndexRabinKarp (s sep : ByteArray) (h1 : 1 ≤ sep.size) (h2 : sep.size ≤ s.size) (hs : s.size < 4611686018427387904) (w : World) :
    Calls Tryd.prog 79 #[.string s, .string sep] w fun e w' => e = .returned (.int .i64 (Lib.lastIndex s.data.toList sep.data.toList)) ∧ w' = w := Any.bytealg_LastIndexRabinKarp Tryd.lays223 s sep h1 h2 hs w
open Go.RowKit Go.Lib in
theorem Tryd.strings_LastIndex_hash (s sub : ByteArray) (h2 : 2 ≤ sub.size) (hl : sub.size < s.size) (hs : s.size < 4611686018427387904) (w : World) :
    Calls Tryd.prog 66 #[.string s, .string sub] w fun e w' => e = .returned (.int .i64 (Lib.lastIndex s.data.toList sub.data.toList)) ∧ w' = w := Any.strings_LastIndex_hash Tryd.lays148 s sub h2 hl hs w
open Go.RowKit Go.Lib in
theorem Tryd.strings_LastIndex (s sub : ByteArray) (hs : s.size < 4611686018427387904) (w : World) :
    Calls Tryd.prog 66 #[.string s, .string sub] w fun e w' => e = .returned (.int .i64 (Lib.lastIndex s.data.toList sub.data.toList)) ∧ w' = w := Any.strings_LastIndex Tryd.lays148 s sub hs w
open Go.RowKit Go.Lib in
theorem Tryd.strings_Count_any (s sep : ByteArray) (m : Int) (w : World) (hs : s.size < 4294967281) (hm : w.cell? ⟨0, 0, none⟩ = some (.int .i64 m)) (h1 : 1 ≤ sep.size) :
    Calls Tryd.prog 53 #[.string s, .string sep] w fun e w' => e = .returned (.int .i64 (Lib.countB s sep)) ∧ w' = w := Any.strings_Count_any Tryd.lays138 s sep m w hs hm h1
def Tryd.lays197_ren : Go.Shelf.Ren := ⟨fun | 197 => 100 | 260 => 106 | n => n, fun | 9 => 9 | 21 => 21 | 3 => 3 | 4 => 4 | 5 => 5 | 105 => 104 | 119 => 112 | 0 => 0 | 46 => 99 | 139 => 115 | 138 => 114 | n => n, fun | 3 => 1 | 4 => 2 | n => n⟩
theorem Tryd.lays197 : Go.Proofs.Lays.n197 Tryd.prog Tryd.lays197_ren := {
  mixed := by kernel_rfl
  f197 := Tryd.func100.trans (congrArg some (by kernel_rfl))
  f260 := Tryd.func106.trans (congrArg some (by kernel_rfl))
  t0 := Tryd.underlying0
  a0 := Tryd.isAgg0
  z0 := Tryd.sizeOf0
  v0 := Tryd.zeroValue0
  t3 := Tryd.underlying3
  a3 := Tryd.isAgg3
  z3 := Tryd.sizeOf3
  v3 := Tryd.zeroValue3
  t4 := Tryd.underlying4
  a4 := Tryd.isAgg4
  z4 := Tryd.sizeOf4
  v4 := Tryd.zeroValue4
  t5 := Tryd.underlying5
  a5 := Tryd.isAgg5
  z5 := Tryd.sizeOf5
  v5 := Tryd.zeroValue5
  t9 := Tryd.underlying9
  a9 := Tryd.isAgg9
  z9 := Tryd.sizeOf9
  v9 := Tryd.zeroValue9
  t21 := Tryd.underlying21
  a21 := Tryd.isAgg21
  z21 := Tryd.sizeOf21
  v21 := Tryd.zeroValue21
  t46 := Tryd.underlying99
  a46 := Tryd.isAgg99
  z46 := Tryd.sizeOf99
  v46 := Tryd.zeroValue99
  t105 := Tryd.underlying104
  a105 := Tryd.isAgg104
  z105 := Tryd.sizeOf104
  v105 := Tryd.zeroValue104
  t119 := Tryd.underlying112
  a119 := Tryd.isAgg112
  z119 := Tryd.sizeOf112
  t138 := Tryd.underlying114
  a138 := Tryd.isAgg114
  z138 := Tryd.sizeOf114
  v138 := Tryd.zeroValue114
  t139 := Tryd.underlying115
  a139 := Tryd.isAgg115
  z139 := Tryd.sizeOf115
  v139 := Tryd.zeroValue115
  g3 := by kernel_rfl
  g4 := by kernel_rfl }
open Go.RowKit Go.Lib in
theorem Tryd.utf8_DecodeRuneInString_ascii (s : ByteArray) (x : UInt8) (w : World) (h0 : s.data.toList[0]? = some x) (hx : x.toNat < 128) :
    Calls Tryd.prog 100 #[.string s] w fun e w' => e = .returned (.tuple #[.int .i32 x.toNat, .int .i64 1]) ∧ w' = w := Any.utf8_DecodeRuneInString_ascii Tryd.lays197 s x w h0 hx
def Tryd.lays152_ren : Go.Shelf.Ren := ⟨fun | 152 => 107 | 137 => 110 | 119 => 111 | 224 => 95 | 225 => 94 | 217 => 93 | 266 => 104 | n => n, fun | 9 => 9 | 21 => 21 | 3 => 3 | 4 => 4 | 5 => 5 | 0 => 0 | 46 => 99 | n => n, fun | n => n⟩
theorem Tryd.lays152 : Go.Proofs.Lays.n152 Tryd.prog Tryd.lays152_ren := {
  mixed := by kernel_rfl
  f119 := Tryd.func111.trans (congrArg some (by kernel_rfl))
  f137 := Tryd.func110.trans (congrArg some (by kernel_rfl))
  f152 := Tryd.func107.trans (congrArg some (by kernel_rfl))
  f217 := Tryd.func93.trans (congrArg some (by kernel_rfl))
  f224 := Tryd.func95.trans (congrArg some (by kernel_rfl))
  f225 := Tryd.func94.trans (congrArg some (by kernel_rfl))
  f266 := Tryd.func104.trans (congrArg some (by kernel_rfl))
  t0 := Tryd.underlying0
  a0 := Tryd.isAgg0
  z0 := Tryd.sizeOf0
  v0 := Tryd.zeroValue0
  t3 := Tryd.underlying3
  a3 := Tryd.isAgg3
  z3 := Tryd.sizeOf3
  v3 := Tryd.zeroValue3
  t4 := Tryd.underlying4
  a4 := Tryd.isAgg4
  z4 := Tryd.sizeOf4
  v4 := Tryd.zeroValue4
  t5 := Tryd.underlying5
  a5 := Tryd.isAgg5
  z5 := Tryd.sizeOf5
  v5 := Tryd.zeroValue5
  t9 := Tryd.underlying9
  a9 := Tryd.isAgg9
  z9 := Tryd.sizeOf9
  v9 := Tryd.zeroValue9
  t21 := Tryd.underlying21
  a21 := Tryd.isAgg21
  z21 := Tryd.sizeOf21
  v21 := Tryd.zeroValue21
  t46 := Tryd.underlying99
  a46 := Tryd.isAgg99
  z46 := Tryd.sizeOf99
  v46 := Tryd.zeroValue99 }
open Go.RowKit Go.Lib in
theorem Tryd.strings_IndexRune_ascii (s : ByteArray) (r : Int) (w : World) (h0 : 0 ≤ r) (h1 : r < 128) :
    Calls Tryd.prog 107 #[.string s, .int .i32 r] w fun e w' => e = .returned (.int .i64 (Lib.indexByte s.data.toList r.toNat.toUInt8)) ∧ w' = w := Any.strings_IndexRune_ascii Tryd.lays152 s r w h0 h1
def Tryd.lays151_ren : Go.Shelf.Ren := ⟨fun | 151 => 101 | 152 => 107 | 137 => 110 | 119 => 111 | 224 => 95 | 225 => 94 | 217 => 93 | 266 => 104 | n => n, fun | 9 => 9 | 21 => 21 | 4 => 4 | 3 => 3 | 5 => 5 | 0 => 0 | 46 => 99 | n => n, fun | n => n⟩
theorem Tryd.lays151 : Go.Proofs.Lays.n151 Tryd.prog Tryd.lays151_ren := {
  mixed := by kernel_rfl
  f119 := Tryd.func111.trans (congrArg some (by kernel_rfl))
  f137 := Tryd.func110.trans (congrArg some (by kernel_rfl))
  f151 := Tryd.func101.trans (congrArg some (by kernel_rfl))
  f152 := Tryd.func107.trans (congrArg some (by kernel_rfl))
  f217 := Tryd.func93.trans (congrArg some (by kernel_rfl))
  f224 := Tryd.func95.trans (congrArg some (by kernel_rfl))
  f225 := Tryd.func94.trans (congrArg some (by kernel_rfl))
  f266 := Tryd.func104.trans (congrArg some (by kernel_rfl))
  t0 := Tryd.underlying0
  a0 := Tryd.isAgg0
  z0 := Tryd.sizeOf0
  v0 := Tryd.zeroValue0
  t3 := Tryd.underlying3
  a3 := Tryd.isAgg3
  z3 := Tryd.sizeOf3
  v3 := Tryd.zeroValue3
  t4 := Tryd.underlying4
  a4 := Tryd.isAgg4
  z4 := Tryd.sizeOf4
  v4 := Tryd.zeroValue4
  t5 := Tryd.underlying5
  a5 := Tryd.isAgg5
  z5 := Tryd.sizeOf5
  v5 := Tryd.zeroValue5
  t9 := Tryd.underlying9
  a9 := Tryd.isAgg9
  z9 := Tryd.sizeOf9
  v9 := Tryd.zeroValue9
  t21 := Tryd.underlying21
  a21 := Tryd.isAgg21
  z21 := Tryd.sizeOf21
  v21 := Tryd.zeroValue21
  t46 := Tryd.underlying99
  a46 := Tryd.isAgg99
  z46 := Tryd.sizeOf99
  v46 := Tryd.zeroValue99 }
open Go.RowKit Go.Lib in
theorem Tryd.strings_ContainsRune_ascii (s : ByteArray) (r : Int) (w : World) (h0 : 0 ≤ r) (h1 : r < 128) :
    Calls Tryd.prog 101 #[.string s, .int .i32 r] w fun e w' => e = .returned (.bool (decide (0 ≤ Lib.indexByte s.data.toList r.toNat.toUInt8))) ∧ w' = w := Any.strings_ContainsRune_ascii Tryd.lays151 s r w h0 h1
open Go.RowKit Go.Lib in
theorem Tryd.utf8_RuneCountInString_ascii (s : ByteArray) (w : World) (hs : s.size < 4294967281) (hascii : ∀ (j : Nat) b, s.data.toList[j]? = some b → b.toNat < 128) :
    Calls Tryd.prog 71 #[.string s] w fun e w' => e = .returned (.int .i64 s.size) ∧ w' = w.iter s s.size := Any.utf8_RuneCountInString_ascii Tryd.lays195 s w hs hascii
def Tryd.lays227_ren : Go.Shelf.Ren := ⟨fun | 227 => 87 | n => n, fun | 9 => 9 | 116 => 84 | 4 => 4 | 0 => 0 | 3 => 3 | 5 => 5 | n => n, fun | n => n⟩
theorem Tryd.lays227 : Go.Proofs.Lays.n227 Tryd.prog Tryd.lays227_ren := {
  mixed := by kernel_rfl
  f227 := Tryd.func87.trans (congrArg some (by kernel_rfl))
  t0 := Tryd.underlying0
  a0 := Tryd.isAgg0
  z0 := Tryd.sizeOf0
  v0 := Tryd.zeroValue0
  t3 := Tryd.underlying3
  a3 := Tryd.isAgg3
  z3 := Tryd.sizeOf3
  v3 := Tryd.zeroValue3
  t4 := Tryd.underlying4
  a4 := Tryd.isAgg4
  z4 := Tryd.sizeOf4
  v4 := Tryd.zeroValue4
  t5 := Tryd.underlying5
  a5 := Tryd.isAgg5
  z5 := Tryd.sizeOf5
  v5 := Tryd.zeroValue5
  t9 := Tryd.underlying9
  a9 := Tryd.isAgg9
  z9 := Tryd.sizeOf9
  v9 := Tryd.zeroValue9
  t116 := Tryd.underlying84
  a116 := Tryd.isAgg84
  z116 := Tryd.sizeOf84 }
open Go.RowKit Go.Lib in
theorem Tryd.strings_makeASCIISet (hv116 : ∀ w, (zeroValue 84).run Tryd.prog w = .ok (.agg (Array.replicate 256 (.bool false))) w) (chars : ByteArray) (w : World) (hs : chars.size < 4294967281) (hascii : ∀ (j : Nat) b, chars.data.toList[j]? = some b → b.toNat < 128) :
    Calls Tryd.prog 87 #[.string chars] w fun e w' => e = .returned (.tuple #[.agg (Lib.setCells chars.data.toList), .bool true]) ∧ w' = w.alloc (.cells (Lib.setCells chars.data.toList) 84) := Any.strings_makeASCIISet Tryd.lays227 hv116 (by kernel_rfl) chars w hs hascii
def Tryd.lays228_ren : Go.Shelf.Ren := ⟨fun | 228 => 99 | n => n, fun | 124 => 88 | 5 => 5 | 4 => 4 | 0 => 0 | 116 => 84 | n => n, fun | n => n⟩
theorem Tryd.lays228 : Go.Proofs.Lays.n228 Tryd.prog Tryd.lays228_ren := {
  mixed := by kernel_rfl
  f228 := Tryd.func99.trans (congrArg some (by kernel_rfl))
  t0 := Tryd.underlying0
  a0 := Tryd.isAgg0
  z0 := Tryd.sizeOf0
  v0 := Tryd.zeroValue0
  t4 := Tryd.underlying4
  a4 := Tryd.isAgg4
  z4 := Tryd.sizeOf4
  v4 := Tryd.zeroValue4
  t5 := Tryd.underlying5
  a5 := Tryd.isAgg5
  z5 := Tryd.sizeOf5
  v5 := Tryd.zeroValue5
  t116 := Tryd.underlying84
  a116 := Tryd.isAgg84
  z116 := Tryd.sizeOf84
  t124 := Tryd.underlying88
  a124 := Tryd.isAgg88
  z124 := Tryd.sizeOf88
  v124 := Tryd.zeroValue88 }
open Go.RowKit Go.Lib in
theorem Tryd.asciiSet_contains (b : Nat) (x : UInt8) (v : Bool) (w : World) (hc : w.cell? ⟨b, x.toNat, none⟩ = some (.bool v)) :
    Calls Tryd.prog 99 #[.pointer (some ⟨b, 0, none⟩), .int .u8 x.toNat] w fun e w' => e = .returned (.bool v) ∧ w' = w := Any.asciiSet_contains Tryd.lays228 b x v w hc
def Tryd.lays260_ren : Go.Shelf.Ren := ⟨fun | 260 => 106 | n => n, fun | 9 => 9 | 21 => 21 | 3 => 3 | 4 => 4 | 5 => 5 | 119 => 112 | 0 => 0 | 46 => 99 | 139 => 115 | 138 => 114 | n => n, fun | 3 => 1 | 4 => 2 | n => n⟩
theorem Tryd.lays260 : Go.Proofs.Lays.n260 Tryd.prog Tryd.lays260_ren := {
  mixed := by kernel_rfl
  f260 := Tryd.func106.trans (congrArg some (by kernel_rfl))
  t0 := Tryd.underlying0
  a0 := Tryd.isAgg0
  z0 := Tryd.sizeOf0
  v0 := Tryd.zeroValue0
  t3 := Tryd.underlying3
  a3 := Tryd.isAgg3
  z3 := Tryd.sizeOf3
  v3 := Tryd.zeroValue3
  t4 := Tryd.underlying4
  a4 := Tryd.isAgg4
  z4 := Tryd.sizeOf4
  v4 := Tryd.zeroValue4
  t5 := Tryd.underlying5
  a5 := Tryd.isAgg5
  z5 := Tryd.sizeOf5
  v5 := Tryd.zeroValue5
  t9 := Tryd.underlying9
  a9 := Tryd.isAgg9
  z9 := Tryd.sizeOf9
  v9 := Tryd.zeroValue9
  t21 := Tryd.underlying21
  a21 := Tryd.isAgg21
  z21 := Tryd.sizeOf21
  v21 := Tryd.zeroValue21
  t46 := Tryd.underlying99
  a46 := Tryd.isAgg99
  z46 := Tryd.sizeOf99
  v46 := Tryd.zeroValue99
  t119 := Tryd.underlying112
  a119 := Tryd.isAgg112
  z119 := Tryd.sizeOf112
  t138 := Tryd.underlying114
  a138 := Tryd.isAgg114
  z138 := Tryd.sizeOf114
  v138 := Tryd.zeroValue114
  t139 := Tryd.underlying115
  a139 := Tryd.isAgg115
  z139 := Tryd.sizeOf115
  v139 := Tryd.zeroValue115
  g3 := by kernel_rfl
  g4 := by kernel_rfl }
open Go.RowKit Go.Lib in
theorem Tryd.utf8_decodeRuneInStringSlow (s : ByteArray) (w : World) (hT : Lib.Utf8Tabs 1 2 w) :
    Calls Tryd.prog 106 #[.string s] w fun e w' => e = .returned (.tuple #[.int .i32 (Lib.decodeGo s).1, .int .i64 (Lib.decodeGo s).2]) ∧ Below w.heap.size w w' := Any.utf8_decodeRuneInStringSlow Tryd.lays260 s w hT
open Go.RowKit Go.Lib in
theorem Tryd.utf8_DecodeRuneInString (s : ByteArray) (w : World) (hT : Lib.Utf8Tabs 1 2 w) :
    Calls Tryd.prog 100 #[.string s] w fun e w' => e = .returned (.tuple #[.int .i32 (Lib.decodeGo s).1, .int .i64 (Lib.decodeGo s).2]) ∧ Below w.heap.size w w' := Any.utf8_DecodeRuneInString Tryd.lays197 s w hT
def Tryd.laysPa45_ren : Go.Shelf.Ren := ⟨fun | 45 => 78 | n => n, fun | 9 => 9 | 5 => 5 | 3 => 3 | 4 => 4 | n => n, fun | n => n⟩
theorem Tryd.laysPa45 : Go.Proofs.Lays.p45 Tryd.prog Tryd.laysPa45_ren := {
  mixed := by kernel_rfl
  f45 := Tryd.func78.trans (congrArg some (by kernel_rfl))
  t3 := Tryd.underlying3
  a3 := Tryd.isAgg3
  z3 := Tryd.sizeOf3
  v3 := Tryd.zeroValue3
  t4 := Tryd.underlying4
  a4 := Tryd.isAgg4
  z4 := Tryd.sizeOf4
  v4 := Tryd.zeroValue4
  t5 := Tryd.underlying5
  a5 := Tryd.isAgg5
  z5 := Tryd.sizeOf5
  v5 := Tryd.zeroValue5
  t9 := Tryd.underlying9
  a9 := Tryd.isAgg9
  z9 := Tryd.sizeOf9
  v9 := Tryd.zeroValue9 }
open Go.RowKit Go.Lib in
theorem Tryd.bytealg_LastIndexByteString (s : ByteArray) (c : UInt8) (w : World) (hs : s.size ≤ 9223372036854775807) :
    Calls Tryd.prog 78 #[.string s, .int .u8 c.toNat] w fun e w' => e = .returned (.int .i64 (Pa.lastIndexByte s.data.toList c)) ∧ w' = w := Any.bytealg_LastIndexByteString Tryd.laysPa45 s c w hs
end Go.Proofs
/- The contracts of the package line: all, find. -/
namespace Go.Proofs.YtckfdehendifoaaDoor
open Go.RowKit
set_option linter.unusedVariables false
set_option linter.unusedSimpArgs false
open Go.Shelf
attribute [local go_sem] Oper.semAt_some

theorem Ext.keep {w w' : World} (h : Ext w w') {a : Addr} {v : Value} (hc : w.cell? a = some v) : w'.cell? a = some v := by rw [Below.cell h (World.block_lt_of_cell? w _ hc)]; exact hc
theorem Ext.unfr {w w' : World} (h : Ext w w') {a : Addr} {v : Value} (hc : w.cell? a = some v) (hf : w.frozen? a = false) : w'.frozen? a = false := by rw [Below.frozen h (World.block_lt_of_cell? w _ hc)]; exact hf
theorem cell_new (W : World) (v : Value) (t : TypeId) : (W.alloc (.cells #[v] t)).cell? ⟨W.heap.size, 0, none⟩ = some v := by
  have := cell_of_row (W.alloc (.cells #[v] t)) W.heap.size 0 #[v] t (0, 0) (heap_alloc_new W _); rw [this]; rfl
theorem unfr_new (W : World) (v : Value) (t : TypeId) : (W.alloc (.cells #[v] t)).frozen? ⟨W.heap.size, 0, none⟩ = false :=
  frozen_of_row _ _ 0 #[v] t (heap_alloc_new W _)
theorem cell_set_ne {W : World} {b b' o o' : Nat} {u v : Value} (h : b ≠ b') (hc : W.cell? ⟨b', o', none⟩ = some v) : (W.setCell ⟨b, o, none⟩ u).cell? ⟨b', o', none⟩ = some v := by
  have := World.cell?_of_block (w := W) (w' := W.setCell ⟨b, o, none⟩ u) (a := ⟨b', o', none⟩) (Below.heap_setCell _ _ _ _ (fun e => h e.symm))
  rw [this]; exact hc
theorem cell_set_eq {W : World} {b o : Nat} {u v : Value} (hc : W.cell? ⟨b, o, none⟩ = some v) : (W.setCell ⟨b, o, none⟩ u).cell? ⟨b, o, none⟩ = some u :=
  World.cell?_setCell_same' _ _ _ (by rw [hc]; rfl)
theorem unfr_set {W : World} {a b : Addr} {u : Value} (h : W.frozen? b = false) : (W.setCell a u).frozen? b = false := by rw [World.frozen?_setCell]; exact h
def KeepC (B : Nat) (W W' : World) : Prop := ∀ v, W.cell? ⟨B, 0, none⟩ = some v → W'.cell? ⟨B, 0, none⟩ = some v
theorem KeepC.refl (B : Nat) (W : World) : KeepC B W W := fun _ h => h
theorem KeepC.t {B : Nat} {A C D : World} (h : KeepC B A C) (k : KeepC B C D) : KeepC B A D := fun v e => k v (h v e)
theorem KeepC.b {B : Nat} {w : World} (W : World) (l : Nat) (o o' : Obj) (_ : w.heap.size ≤ l) (h : W.heap[l]? = some o) (ho : o.isCells = false) (_ : o.isWalk = false) : KeepC B W (W.putObj l o') := by
  intro v hv
  by_cases e : l = B
  · subst e
    unfold World.cell? at hv
    rw [h] at hv
    cases o <;> simp [Obj.isCells] at ho hv
  · have hne : B ≠ l := fun x => e x.symm
    rw [World.cell?_of_block (w := W) (a := ⟨B, 0, none⟩) ((World.putObj_heap_other hne))]
    exact hv
theorem KeepC.of_ext {B : Nat} {W W' : World} (h : Ext W W') : KeepC B W W' := fun v e => by rw [Below.cell h (World.block_lt_of_cell? W _ e)]; exact e
theorem KeepC.setCell {B : Nat} {W : World} {p : Addr} (h : p.block ≠ B) (u : Value) : KeepC B W (W.setCell p u) := fun v e => by
  rw [World.cell?_of_block (w := W) (a := ⟨B, 0, none⟩) (Below.heap_setCell _ _ _ _ (fun x => h x.symm))]; exact e
def encP (x : Nat × Nat) : Array Value := #[.int .i64 x.1, .int .i64 x.2]

theorem index_ten (s : ByteArray) (w : World) : Calls Tryd.prog 59 #[.string s, .string ⟨#[10]⟩] w fun e w' => e = .returned (.int .i64 (Lib.indexByte (ls s) 10)) ∧ w = w' :=
  (Tryd.strings_Index_one s 10 w).mono fun _ _ h => ⟨h.1, h.2.symm⟩

set_option maxHeartbeats 4000000 in
set_option maxRecDepth 100000 in
theorem all1_c (n : Nat) (hn : 2 ≤ n) (l B : Nat) (s : ByteArray) (hs : s.size ≤ 1152921504606846976) (J Jx : List (Nat × Nat) → World → Prop)
    (hY : ∀ pre x W, J pre W → pre.length < (lns (ls s)).length → YieldAt Fence.wide (n - 1) Tryd.prog l (encP x) W fun e W' =>
      (e = .returned (.bool true) ∧ J (pre ++ [x]) W' ∧ KeepC B W W') ∨ (e = .returned (.bool false) ∧ Jx (pre ++ [x]) W'))
    (W : World) (hB : W.cell? ⟨B, 0, none⟩ = some (.string s)) (h0 : J [] W) :
    CallsIn Fence.wide n Tryd.prog 98 #[.func (.yield l) #[] #[], .pointer (some ⟨B, 0, none⟩)] W fun e W' => (∃ v, e = .returned v) ∧
      ((∃ ys, ys = lns (ls s) ∧ J ys W') ∨ (∃ pre, pre <+: lns (ls s) ∧ Jx pre W')) := by
  refine callsIn_of_wp Tryd.func98 rfl trivial ?_ rfl
  simp only [Tryd.ntmps98, List.size_toArray, List.length_cons, List.length_nil, Nat.reduceAdd, Nat.reduceSub, Array.replicate_succ, Array.replicate_zero, List.push_toArray, List.append_toArray, List.nil_append, List.cons_append]
  gi_wp2
  gi_loopw [3] (fun p wr => ∃ (i : Nat) (pre : List (Nat × Nat)), p = .int .i64 i ∧ i ≤ s.size ∧ lns (ls s) = pre ++ lnsF ((ls s).drop i) i i ∧ J pre wr ∧ wr.cell? ⟨B, 0, none⟩ = some (.string s))
    (fun p _ => s.size + 1 - (intOf p).toNat)
  case atStart => exact ⟨0, [], rfl, by omega, by simp [lns], h0, hB⟩
  case round =>
    obtain ⟨i, pre, rfl, hi, hpre, hJ, hc⟩ := hrel
    have Hpre := Lib.hid hpre
    clear hpre
    have hix : ls (s.extract i s.size) = (ls s).drop i := ls_ext s i
    have hge := Lib.indexByte_ge ((ls s).drop i) 10
    by_cases hneg : Lib.indexByte ((ls s).drop i) 10 < 0
    · have hlast := line_last (ls s) i (by rw [ls_len]; exact hi) hneg
      have hm1 : Lib.indexByte (ls (s.extract i s.size)) 10 = -1 := by rw [hix]; omega
      have hall : lns (ls s) = pre ++ [(i, s.size)] := by rw [Hpre.out, hlast, ls_len]
      obtain ⟨fn, tmps, assign, body, hy, hR⟩ := hY pre (i, s.size) wr hJ (by rw [hall]; simp)
      have Hall := Lib.hid hall
      clear hall hlast hneg hge hix
      dsimp only [encP] at hy
      gi_wp2_with (refine ⟨trivial, (fun _ => by omega), ?_⟩; gi_at_call 59; refine (callsIn_wide.2 (index_ten _ _)).mono ?_; rintro e w' ⟨rfl, rfl⟩)
      refine ⟨fun _ => by omega, hR.mono ?_⟩
      rintro e W3 (⟨rfl, hJ3, hk3⟩ | ⟨rfl, hJx3⟩)
      · gi_wp2
        refine bodyPost_ret (results_none rfl _ _ _) rfl ?_
        exact ⟨⟨_, rfl⟩, .inl ⟨_, Hall.out.symm, hJ3⟩⟩
      · gi_wp2
        refine bodyPost_ret (results_none rfl _ _ _) rfl ?_
        exact ⟨⟨_, rfl⟩, .inr ⟨_, by rw [Hall.out]; exact List.prefix_refl _, hJx3⟩⟩
    · obtain ⟨m, hm⟩ : ∃ m : Nat, Lib.indexByte ((ls s).drop i) 10 = m := ⟨(Lib.indexByte ((ls s).drop i) 10).toNat, by omega⟩
      obtain ⟨h1, h2⟩ := line_next (ls s) i (by rw [ls_len]; exact hi) m hm
      rw [ls_len] at h1
      have hm1 : Lib.indexByte (ls (s.extract i s.size)) 10 = m := by rw [hix]; exact hm
      obtain ⟨fn, tmps, assign, body, hy, hR⟩ := hY pre (i, i + m) wr hJ (by rw [Hpre.out, h2]; simp)
      have H2 := Lib.hid h2
      clear h2 hm hneg hge hix
      dsimp only [encP] at hy
      simp only [Int.natCast_add] at hy
      gi_wp2_with (refine ⟨trivial, (fun _ => by omega), ?_⟩; gi_at_call 59; refine (callsIn_wide.2 (index_ten _ _)).mono ?_; rintro e w' ⟨rfl, rfl⟩)
      refine ⟨fun _ => by omega, hR.mono ?_⟩
      rintro e W3 (⟨rfl, hJ3, hk3⟩ | ⟨rfl, hJx3⟩)
      · have hc3 := hk3 _ hc
        gi_wp2
        go_roundw
        case rel => exact ⟨i + m + 1, pre ++ [(i, i + m)], by go_num, by omega, by rw [Hpre.out, H2.out]; simp, hJ3, hc3⟩
        case measure => simp [intOf]; omega
      · gi_wp2
        refine bodyPost_ret (results_none rfl _ _ _) rfl ?_
        exact ⟨⟨_, rfl⟩, .inr ⟨_, ⟨lnsF ((ls s).drop (i + m + 1)) (i + m + 1) (i + m + 1), by rw [Hpre.out, H2.out]; simp⟩, hJx3⟩⟩

theorem all_stops (n : Nat) (hn : 2 ≤ n) (B : Nat) (s : ByteArray) (hs : s.size ≤ 1152921504606846976) (w : World) (hB : w.cell? ⟨B, 0, none⟩ = some (.string s)) :
    SeqStopsK Fence.wide n Tryd.prog 98 #[.pointer (some ⟨B, 0, none⟩)] encP (KeepC B) (fun ys => ys = lns (ls s)) (fun pre => pre <+: lns (ls s)) (lns (ls s)).length w := fun l J Jx W hW _ _ hY h0 =>
  all1_c n hn l B s hs J Jx hY W (KeepC.of_ext hW _ hB) h0

set_option maxHeartbeats 4000000 in
set_option maxRecDepth 100000 in
theorem all_c (s : ByteArray) (w : World) : Calls Tryd.prog 85 #[.string s] w fun e w' => e = .returned (.func (.func 98) #[] #[.pointer (some ⟨w.heap.size, 0, none⟩)]) ∧ w' = w.alloc (.cells #[.string s] 9) := by
  go_enter Tryd.func85, Tryd.ntmps85
  go_wp2
  go_ret
  exact ⟨rfl, rfl⟩

end Go.Proofs.YtckfdehendifoaaDoor
/- strings.TrimLeft at a cutset of ASCII, in the printer's form. -/
namespace Go.Proofs.YtckfdehendifoaaDoor
open Go.RowKit
set_option linter.unusedVariables false
set_option linter.unusedSimpArgs false
def trS (s c : ByteArray) : ByteArray := ⟨(Lib.trimLeftS s.data.toList c.data.toList).toArray⟩
def ascB (c : ByteArray) : Bool := c.data.toList.all fun b => decide (b.toNat < 128)
theorem trim_c (s c : ByteArray) (w : World) (h1 : c.size < 4294967281) (h2 : ascB c = true) : Calls Tryd.prog 75 #[.string s, .string c] w fun e w' => e = .returned (.string (trS s c)) ∧ Ext w w' :=
  Any.strings_TrimLeft_laid Tryd.lays161 (by kernel_rfl) s c w h1 (fun j b hb => by
    have := List.all_eq_true.1 h2 b (List.mem_of_getElem? hb)
    simpa using this)
def strings_TrimLeft.f (a0 : ByteArray) (a1 : ByteArray) : Option (ByteArray) := if a1.size < 4294967281 ∧ ascB a1 = true then some (trS a0 a1) else none
theorem strings_TrimLeft.eq (a0 : ByteArray) (a1 : ByteArray) (hg : a1.size < 4294967281 ∧ ascB a1 = true) : strings_TrimLeft.f a0 a1 = some (trS a0 a1) := if_pos hg
theorem strings_TrimLeft.calls (a0 : ByteArray) (a1 : ByteArray) (r : ByteArray) (w : World) (h : strings_TrimLeft.f a0 a1 = some r) : Calls Tryd.prog 75 #[.string a0, .string a1] w fun e w' => e = .returned (.string r) ∧ Below w.heap.size w w' := by
  unfold strings_TrimLeft.f at h
  split at h
  · cases h; exact (by rename_i hg; exact trim_c a0 a1 w hg.1 hg.2)
  · cases h
end Go.Proofs.YtckfdehendifoaaDoor
/- Blanks at the head of a line: plain facts. -/
namespace Go.Proofs.YtckfdehendifoaaDoor
open Go.RowKit
set_option linter.unusedVariables false
set_option linter.unusedSimpArgs false
def isBl (b : UInt8) : Bool := b == 32 || b == 9
def blk (r : List UInt8) : Nat := (r.takeWhile isBl).length
theorem blk_le (r : List UInt8) : blk r ≤ r.length := by
  have := congrArg List.length (List.takeWhile_append_dropWhile (p := isBl) (l := r))
  rw [List.length_append] at this
  unfold blk; omega
theorem trim_len (r : List UInt8) : (Lib.trimLeftS r [32, 9]).length = r.length - blk r := by
  have e : Lib.trimLeftS r [32, 9] = r.dropWhile isBl := by
    unfold Lib.trimLeftS
    congr 1
    funext b
    unfold isBl
    simp [List.contains_cons]; rw [Bool.eq_iff_iff]; simp
  have := congrArg List.length (List.takeWhile_append_dropWhile (p := isBl) (l := r))
  rw [List.length_append] at this
  rw [e]; unfold blk; omega
theorem bl_byL {l : List UInt8} {p : Nat} (hp : p < l.length) : isBl (l[p]) = true ↔ byL l p = 32 ∨ byL l p = 9 := by
  unfold isBl byL
  rw [List.getD_eq_getElem?_getD, List.getElem?_eq_getElem hp]
  simp only [Option.getD_some, Bool.or_eq_true, beq_iff_eq]
  constructor
  · rintro (h | h) <;> rw [h] <;> simp
  · rintro (h | h)
    · left; exact UInt8.toNat_inj.1 (by show l[p].toNat = 32; omega)
    · right; exact UInt8.toNat_inj.1 (by show l[p].toNat = 9; omega)
theorem blk_yes {l : List UInt8} {p b : Nat} (hp : p < b) (hb : b ≤ l.length) (h : byL l p = 32 ∨ byL l p = 9) : blk (rowL l (p, b)) = blk (rowL l (p + 1, b)) + 1 := by
  unfold blk
  rw [row_cons hp hb, List.takeWhile_cons, if_pos ((bl_byL (by omega)).2 h), List.length_cons]
theorem blk_no {l : List UInt8} {p b : Nat} (hp : p < b) (hb : b ≤ l.length) (h : ¬ (byL l p = 32 ∨ byL l p = 9)) : blk (rowL l (p, b)) = 0 := by
  unfold blk
  rw [row_cons hp hb, List.takeWhile_cons, if_neg (fun hc => h ((bl_byL (by omega)).1 hc))]; rfl
theorem blk_nil (l : List UInt8) (b : Nat) : blk (rowL l (b, b)) = 0 := by rw [row_nil]; rfl
def firstI (l : List UInt8) (k : Int) : Int := match lineI l k with
  | none => -1
  | some x => if blk (rowL l x) = (rowL l x).length then clampI l x.2 else (x.1 + blk (rowL l x) : Nat)
theorem trS_size (s c : ByteArray) (hc : ls c = [32, 9]) : (trS s c).size = s.size - blk (ls s) := by
  have h : ls (trS s c) = Lib.trimLeftS (ls s) (ls c) := rfl
  rw [← ls_len, h, hc, trim_len, ls_len]
end Go.Proofs.YtckfdehendifoaaDoor
/- Classes of signs: plain facts. -/
namespace Go.Proofs.YtckfdehendifoaaDoor
open Go.RowKit
set_option linter.unusedVariables false
set_option linter.unusedSimpArgs false
def lettB (b : Int) : Bool := (decide (97 ≤ b) && decide (b ≤ 122)) || (decide (65 ≤ b) && decide (b ≤ 90))
def ofB (b : Int) : Int := if b = 10 then 4 else if b = 32 ∨ b = 9 then 1 else if lettB b = true ∨ (48 ≤ b ∧ b ≤ 57) ∨ b = 95 ∨ 128 ≤ b then 2 else 3
def clsI (l : List UInt8) (p : Int) : Int := if placeB l p = true ∧ p ≠ l.length then ofB (byL l p.toNat) else 0
def bigI (l : List UInt8) (p : Int) : Int := if clsI l p = 3 then 2 else clsI l p
def kindI (l : List UInt8) (p : Int) (big : Bool) : Int := if big then bigI l p else clsI l p
theorem ofB_bd (b : Int) : 1 ≤ ofB b ∧ ofB b ≤ 4 := by unfold ofB; repeat' (first | omega | split)
theorem clsI_bd (l : List UInt8) (p : Int) : 0 ≤ clsI l p ∧ clsI l p ≤ 4 := by unfold clsI; have := ofB_bd (byL l p.toNat); split <;> omega
theorem bigI_bd (l : List UInt8) (p : Int) : 0 ≤ bigI l p ∧ bigI l p ≤ 4 := by unfold bigI; have := clsI_bd l p; split <;> omega
theorem kindI_bd (l : List UInt8) (p : Int) (big : Bool) : 0 ≤ kindI l p big ∧ kindI l p big ≤ 4 := by unfold kindI; have := clsI_bd l p; have := bigI_bd l p; split <;> omega
def dnI (l : List UInt8) (c : Int) (big : Bool) (lo : Nat) : Nat → Nat → Nat
  | 0, f => f
  | i + 1, f => if i < lo then f else if placeB l i = true then (if kindI l i big = c then dnI l c big lo i i else f) else dnI l c big lo i f
def upI (l : List UInt8) (c : Int) (big : Bool) : Nat → Nat → Int → Int
  | 0, _, t => t
  | d + 1, i, t => if placeB l i = true then (if kindI l i big = c then upI l c big d (i + 1) (nextI l i) else t) else upI l c big d (i + 1) t
def runI (l : List UInt8) (p : Int) (big : Bool) : Int × Int :=
  let c := kindI l p big
  if c = 0 ∨ c = 4 then (-1, -1) else ((dnI l c big (startI l (ofI l p)).toNat p.toNat p.toNat : Nat), upI l c big ((endI l (ofI l p)).toNat - p.toNat) p.toNat p)
theorem place_byte {l : List UInt8} {k : Nat} (hv : validL l = true) (hk : k < l.length) : placeB l k = !inn (byL l k) := by
  unfold placeB
  simp only [hv, Bool.and_true, Int.toNat_natCast]
  have a : decide ((0 : Int) ≤ k) = true := by simp
  have b : decide ((k : Int) ≤ l.length) = true := by simp; omega
  have c : decide ((k : Int) = l.length) = false := by simp; omega
  rw [a, b, c]; simp
theorem prev_gap {l : List UInt8} (hv : validL l = true) : ∀ (j : Nat), j < l.length → prevFrom l j ≤ j ∧ placeB l (prevFrom l j) = true ∧ ∀ i, prevFrom l j < i → i ≤ j → placeB l i = false
  | 0, _ => ⟨Nat.le_refl _, place_zero hv, fun i h1 h2 => by simp [prevFrom] at h1; omega⟩
  | j + 1, h => by
    rcases Bool.eq_false_or_eq_true (inn (byL l (j + 1))) with e | e
    · obtain ⟨h1, h2, h3⟩ := prev_gap hv j (by omega)
      have e2 : prevFrom l (j + 1) = prevFrom l j := by simp [prevFrom, e]
      rw [e2]
      refine ⟨by omega, h2, fun i a b => ?_⟩
      by_cases hij : i = j + 1
      · subst hij; rw [place_byte hv h, e]; rfl
      · exact h3 i a (by omega)
    · have e2 : prevFrom l (j + 1) = j + 1 := by simp [prevFrom, e]
      rw [e2]
      exact ⟨Nat.le_refl _, by rw [place_byte hv h, e]; rfl, fun i a b => by omega⟩
theorem prevI_at {l : List UInt8} {k : Nat} (h : placeB l k = true) (hk : 0 < k) : prevI l k = (prevFrom l (k - 1) : Nat) := by
  unfold prevI; rw [if_pos ⟨h, by omega⟩, Int.toNat_natCast]
theorem dnI_gap (l : List UInt8) (c : Int) (big : Bool) (lo q f : Nat) (hq : lo ≤ q) (hg : ∀ i, q < i → i < f → placeB l i = false) : ∀ i, q + 1 ≤ i → i ≤ f → dnI l c big lo i f = dnI l c big lo (q + 1) f
  | 0, h, _ => by omega
  | i + 1, h, hi => by
    by_cases e : i = q
    · subst e; rfl
    · rw [dnI, if_neg (by omega), if_neg (by rw [hg i (by omega) (by omega)]; simp)]
      exact dnI_gap l c big lo q f hq hg i (by omega) (by omega)
theorem dnI_step {l : List UInt8} {c : Int} {big : Bool} {lo f : Nat} (hv : validL l = true) (hf : f ≤ l.length) (hl : lo < f) (hlo : placeB l lo = true) (hpf : placeB l f = true) :
    lo ≤ prevFrom l (f - 1) ∧ prevFrom l (f - 1) < f ∧ placeB l (prevFrom l (f - 1)) = true ∧ dnI l c big lo f f = if kindI l (prevI l f) big = c then dnI l c big lo (prevFrom l (f - 1)) (prevFrom l (f - 1)) else f := by
  obtain ⟨h1, h2, h3⟩ := prev_gap hv (f - 1) (by omega)
  have h4 : lo ≤ prevFrom l (f - 1) := by
    rcases Nat.lt_or_ge (prevFrom l (f - 1)) lo with h | h
    · rw [h3 lo h (by omega)] at hlo; exact absurd hlo (by simp)
    · exact h
  refine ⟨h4, by omega, h2, ?_⟩
  rw [dnI_gap l c big lo _ f h4 (fun i a b => h3 i a (by omega)) f (by omega) (Nat.le_refl _)]
  rw [dnI, if_neg (by omega), if_pos h2, prevI_at hpf (by omega)]
theorem dnI_end (l : List UInt8) (c : Int) (big : Bool) (lo : Nat) : dnI l c big lo lo lo = lo := by
  cases lo with
  | zero => rfl
  | succ n => rw [dnI, if_pos (by omega)]
theorem next_gap {l : List UInt8} {k : Nat} (h : placeB l k = true) (hk : k < l.length) : ∃ n : Nat, nextI l k = n ∧ k < n ∧ n ≤ l.length ∧ placeB l n = true ∧ ∀ i, k < i → i < n → placeB l i = false := by
  obtain ⟨hz, hle⟩ := sz_at h hk
  obtain ⟨_, _, hv⟩ := valid_at h
  refine ⟨k + szL (l.drop k), ?_, by omega, hle, place_next h hk, fun i a b => ?_⟩
  · unfold nextI; rw [if_pos ⟨h, by omega⟩, Int.toNat_natCast]; simp
  · have := inn_rest hz (j := i - k) (by omega) (by omega)
    rw [byL_drop, Nat.add_sub_cancel' (by omega)] at this
    rw [place_byte hv (by omega), this]; rfl
theorem upI_gap (l : List UInt8) (c : Int) (big : Bool) (n : Nat) (t : Int) : ∀ (d i : Nat), i ≤ n → n - i ≤ d → (∀ j, i ≤ j → j < n → placeB l j = false) → upI l c big d i t = upI l c big (d - (n - i)) n t
  | d, i, hi, hd, hg => by
    by_cases e : i = n
    · subst e; simp
    · match d, hd with
      | 0, hd => omega
      | d + 1, hd =>
        rw [upI, if_neg (by rw [hg i (Nat.le_refl _) (by omega)]; simp), upI_gap l c big n t d (i + 1) (by omega) (by omega) (fun j a b => hg j (by omega) b)]
        congr 1; omega
theorem upI_step {l : List UInt8} {c : Int} {big : Bool} {hi t : Nat} (hh : hi ≤ l.length) (ht : t < hi) (hph : placeB l hi = true) (hpt : placeB l t = true) :
    ∃ n : Nat, nextI l t = n ∧ t < n ∧ n ≤ hi ∧ placeB l n = true ∧ upI l c big (hi - t) t t = if kindI l t big = c then upI l c big (hi - n) n n else (t : Int) := by
  obtain ⟨n, h1, h2, h3, h4, h5⟩ := next_gap hpt (by omega)
  have h6 : n ≤ hi := by
    rcases Nat.lt_or_ge hi n with h | h
    · rw [h5 hi ht h] at hph; exact absurd hph (by simp)
    · exact h
  refine ⟨n, h1, h2, h6, h4, ?_⟩
  rw [show hi - t = (hi - t - 1) + 1 by omega, upI, if_pos hpt, h1]
  rw [upI_gap l c big n n (hi - t - 1) (t + 1) (by omega) (by omega) (fun j a b => h5 j (by omega) b)]
  congr 2; omega

theorem ten_place {l : List UInt8} {i : Nat} (hv : validL l = true) (hi : i < l.length) (h : byL l i = 10) : placeB l i = true ∧ placeB l ((i + 1 : Nat) : Int) = true := by
  have h1 : placeB l i = true := by rw [place_byte hv hi, h]; rfl
  have h2 := place_next h1 hi
  obtain ⟨hz, _⟩ := sz_at h1 hi
  obtain ⟨_, h3, _, _⟩ := szL_pos hz
  rw [byL_drop, Nat.add_zero, h] at h3
  have : szL (l.drop i) = 1 := by have : fSize 10 = 1 := by decide
                                  omega
  rw [this] at h2
  exact ⟨h1, h2⟩
theorem lst_place {l : List UInt8} (hv : validL l = true) : ∀ i, i ≤ l.length → placeB l (lst l i : Nat) = true
  | 0, _ => place_zero hv
  | i + 1, h => by
    rw [lst]
    split
    · rename_i e; exact (ten_place hv (by omega) e).2
    · exact lst_place hv i (by omega)
theorem lnsF_ends : ∀ (r : List UInt8) (st i : Nat) (l : List UInt8), l.drop i = r → i + r.length = l.length → ∀ x ∈ lnsF r st i, x.2 = l.length ∨ byL l x.2 = 10
  | [], st, i, l, _, hl, x, hx => by simp [lnsF] at hx; subst hx; simp at hl; exact .inl hl
  | b :: r, st, i, l, hd, hl, x, hx => by
    have hi : i < l.length := by simp at hl; omega
    have hd' : l.drop (i + 1) = r := by rw [← List.drop_drop, hd]; rfl
    have hb : l[i] = b := by have := List.drop_eq_getElem_cons hi; rw [hd] at this; simpa using (List.cons.inj this).1.symm
    rw [lnsF] at hx
    split at hx
    · rename_i e
      rcases List.mem_cons.1 hx with rfl | hx
      · right; rw [byL_ten hi, hb]; exact e
      · exact lnsF_ends r _ _ l hd' (by simp at hl; omega) x hx
    · exact lnsF_ends r _ _ l hd' (by simp at hl; omega) x hx
theorem lns_ends {l : List UInt8} {x : Nat × Nat} (hx : x ∈ lns l) : x.2 = l.length ∨ byL l x.2 = 10 := lnsF_ends l 0 0 l rfl (by simp) x hx
theorem end_place {l : List UInt8} (hv : validL l = true) {x : Nat × Nat} (hx : x ∈ lns l) : placeB l (x.2 : Nat) = true := by
  have hle := (lines_le l x hx).2
  rcases lns_ends hx with h | h
  · rw [h]; exact place_mk hv (Nat.le_refl _) (.inl rfl)
  · by_cases e : x.2 < l.length
    · exact (ten_place hv e h).1
    · exact place_mk hv hle (.inl (by omega))
theorem lnsF_starts2 : ∀ (r : List UInt8) (st i : Nat) (l : List UInt8), l.drop i = r → i + r.length = l.length → ∀ x ∈ lnsF r st i, x.1 = st ∨ ∃ j, x.1 = j + 1 ∧ j < l.length ∧ byL l j = 10
  | [], st, i, l, _, hl, x, hx => by simp [lnsF] at hx; subst hx; exact .inl rfl
  | b :: r, st, i, l, hd, hl, x, hx => by
    have hi : i < l.length := by simp at hl; omega
    have hd' : l.drop (i + 1) = r := by rw [← List.drop_drop, hd]; rfl
    have hb : l[i] = b := by have := List.drop_eq_getElem_cons hi; rw [hd] at this; simpa using (List.cons.inj this).1.symm
    rw [lnsF] at hx
    split at hx
    · rename_i e
      rcases List.mem_cons.1 hx with rfl | hx
      · exact .inl rfl
      · rcases lnsF_starts2 r _ _ l hd' (by simp at hl; omega) x hx with h | h
        · exact .inr ⟨i, h, hi, by rw [byL_ten hi, hb]; exact e⟩
        · exact .inr h
    · exact lnsF_starts2 r _ _ l hd' (by simp at hl; omega) x hx
theorem start_place {l : List UInt8} (hv : validL l = true) {x : Nat × Nat} (hx : x ∈ lns l) : placeB l (x.1 : Nat) = true := by
  rcases lnsF_starts2 l 0 0 l rfl (by simp) x hx with h | ⟨j, h1, h2, h3⟩
  · rw [h]; exact place_zero hv
  · rw [h1]; exact (ten_place hv h2 h3).2
theorem line_at {l : List UInt8} {p : Nat} (h : placeB l p = true) : ∃ e : Nat, startI l (ofI l p) = (lst l p : Nat) ∧ endI l (ofI l p) = e ∧ lst l p ≤ p ∧ p ≤ e ∧ e ≤ l.length ∧ placeB l (lst l p : Nat) = true ∧ placeB l e = true := by
  obtain ⟨_, hle, hv⟩ := valid_at h
  obtain ⟨h1, h2, e, h3, h4, h5⟩ := start_of hle hv
  refine ⟨e, h2, h3, lst_le l p, h4, h5, lst_place hv p hle, ?_⟩
  obtain ⟨e', q1, q2, q3⟩ := line_of l p hle
  have : e' = e := by
    have hl : lineI l (fds l p : Nat) = some (lst l p, e') := by unfold lineI; rw [if_pos ⟨hv, by omega⟩, Int.toNat_natCast]; exact q1
    rw [h1] at h3
    unfold endI at h3; rw [hl] at h3
    simp at h3; omega
  subst this
  exact end_place hv (List.mem_of_getElem? q1)

end Go.Proofs.YtckfdehendifoaaDoor
/- Runs of one class: plain facts. -/
namespace Go.Proofs.YtckfdehendifoaaDoor
open Go.RowKit
set_option linter.unusedVariables false
set_option linter.unusedSimpArgs false
theorem dn_facts {l : List UInt8} {c : Int} {big : Bool} {lo : Nat} (hv : validL l = true) (hlo : placeB l lo = true) : ∀ (m f : Nat), f ≤ m → lo ≤ f → f ≤ l.length → placeB l f = true →
    lo ≤ dnI l c big lo f f ∧ dnI l c big lo f f ≤ f ∧ placeB l ((dnI l c big lo f f : Nat) : Int) = true ∧ (∀ i : Nat, dnI l c big lo f f ≤ i → i < f → placeB l i = true → kindI l i big = c) ∧ (lo < dnI l c big lo f f → kindI l (prevI l ((dnI l c big lo f f : Nat) : Int)) big ≠ c)
  | 0, f, hm, h1, h2, h3 => by
    have : f = 0 := by omega
    subst this
    have : lo = 0 := by omega
    subst this
    exact ⟨Nat.le_refl _, Nat.le_refl _, h3, fun i _ h => by omega, fun h => by simp [dnI] at h⟩
  | m + 1, f, hm, h1, h2, h3 => by
    by_cases hlt : lo < f
    · obtain ⟨g1, g2, g3, g4⟩ := dnI_step (c := c) (big := big) hv h2 hlt hlo h3
      have g5 := prevI_at h3 (by omega)
      have g6 := (prev_gap hv (f - 1) (by omega)).2.2
      by_cases hk : kindI l (prevI l f) big = c
      · rw [if_pos hk] at g4
        rw [g4]
        obtain ⟨a1, a2, a3, a4, a5⟩ := dn_facts hv hlo m (prevFrom l (f - 1)) (by omega) g1 (by omega) g3
        refine ⟨a1, by omega, a3, fun i b1 b2 b3 => ?_, a5⟩
        rcases Nat.lt_trichotomy i (prevFrom l (f - 1)) with h | h | h
        · exact a4 i b1 h b3
        · rw [h, ← g5]; exact hk
        · rw [g6 i h (by omega)] at b3; exact absurd b3 (by simp)
      · rw [if_neg hk] at g4
        rw [g4]
        exact ⟨h1, Nat.le_refl _, h3, fun i b1 b2 => by omega, fun _ => hk⟩
    · have : f = lo := by omega
      subst this
      rw [dnI_end]
      exact ⟨Nat.le_refl _, Nat.le_refl _, h3, fun i b1 b2 => by omega, fun h => by omega⟩
theorem up_facts {l : List UInt8} {c : Int} {big : Bool} {hi : Nat} (hh : hi ≤ l.length) (hph : placeB l hi = true) : ∀ (d t : Nat), hi - t ≤ d → t ≤ hi → placeB l t = true →
    ∃ u : Nat, upI l c big (hi - t) t t = u ∧ t ≤ u ∧ u ≤ hi ∧ placeB l u = true ∧ (∀ i : Nat, t ≤ i → i < u → placeB l i = true → kindI l i big = c) ∧ (u < hi → kindI l u big ≠ c) ∧ (kindI l t big = c → t < hi → t < u)
  | 0, t, hd, h1, h2 => by
    have : t = hi := by omega
    subst this
    exact ⟨t, by rw [Nat.sub_self]; rfl, Nat.le_refl _, Nat.le_refl _, h2, fun i b1 b2 => by omega, fun h => by omega, fun _ h => h⟩
  | d + 1, t, hd, h1, h2 => by
    by_cases hlt : t < hi
    · obtain ⟨n, g1, g2, g3, g4, g5⟩ := upI_step (c := c) (big := big) hh hlt hph h2
      obtain ⟨n', m1, m2, m3, m4, m5⟩ := next_gap h2 (by omega)
      have : n' = n := by omega
      subst this
      by_cases hk : kindI l t big = c
      · rw [if_pos hk] at g5
        obtain ⟨u, a1, a2, a3, a4, a5, a6, a7⟩ := up_facts (c := c) (big := big) hh hph d n' (by omega) g3 g4
        refine ⟨u, by rw [g5, a1], by omega, a3, a4, fun i b1 b2 b3 => ?_, a6, fun _ _ => by omega⟩
        rcases Nat.lt_trichotomy i n' with h | h | h
        · by_cases e : i = t
          · rw [e]; exact hk
          · rw [m5 i (by omega) h] at b3; exact absurd b3 (by simp)
        · exact a5 i (by omega) b2 b3
        · exact a5 i (by omega) b2 b3
      · rw [if_neg hk] at g5
        exact ⟨t, g5, Nat.le_refl _, h1, h2, fun i b1 b2 => by omega, fun _ => hk, fun h => absurd h hk⟩
    · have : t = hi := by omega
      subst this
      exact ⟨t, by rw [Nat.sub_self]; rfl, Nat.le_refl _, Nat.le_refl _, h2, fun i b1 b2 => by omega, fun h => by omega, fun _ h => h⟩
theorem lst_ten (l : List UInt8) : ∀ i, 0 < lst l i → byL l (lst l i - 1) = 10
  | 0, h => by simp [lst] at h
  | i + 1, h => by
    rw [lst] at h ⊢
    split at h
    · rename_i e; rw [if_pos e]; exact e
    · rename_i e; rw [if_neg e]; exact lst_ten l i h
theorem line_end {l : List UInt8} {p e : Nat} (h : placeB l p = true) (he : endI l (ofI l p) = e) : e = l.length ∨ byL l e = 10 := by
  obtain ⟨_, hle, hv⟩ := valid_at h
  obtain ⟨h1, _⟩ := start_of hle hv
  obtain ⟨e', q1, q2, q3⟩ := line_of l p hle
  have hl : lineI l (fds l p : Nat) = some (lst l p, e') := by unfold lineI; rw [if_pos ⟨hv, by omega⟩, Int.toNat_natCast]; exact q1
  rw [h1] at he
  unfold endI at he; rw [hl] at he
  have : e' = e := by simp at he; omega
  subst this
  exact lns_ends (List.mem_of_getElem? q1)
theorem kind_ten {l : List UInt8} {i : Nat} (big : Bool) (hv : validL l = true) (hi : i < l.length) (h : byL l i = 10) : kindI l i big = 4 := by
  have h1 := (ten_place hv hi h).1
  have hc : clsI l i = 4 := by unfold clsI; rw [if_pos ⟨h1, by omega⟩, Int.toNat_natCast, h]; rfl
  unfold kindI bigI; rw [hc]; cases big <;> rfl
theorem kind_end {l : List UInt8} (big : Bool) : kindI l l.length big = 0 := by
  have hc : clsI l l.length = 0 := by unfold clsI; rw [if_neg (fun h => h.2 rfl)]
  unfold kindI bigI; rw [hc]; cases big <;> rfl
theorem fds_flat {l : List UInt8} {f : Nat} : ∀ d, f + d ≤ l.length → (∀ i, f ≤ i → i < f + d → byL l i ≠ 10) → fds l (f + d) = fds l f
  | 0, _, _ => rfl
  | d + 1, h, hn => by
    rw [show f + (d + 1) = (f + d) + 1 by omega, fds_succ l _ (by omega), if_neg (hn _ (by omega) (by omega)), Nat.add_zero]
    exact fds_flat d (by omega) fun i a b => hn i a (by omega)
theorem run_facts {l : List UInt8} {k : Nat} {big : Bool} (hk : k < l.length) (hp : placeB l k = true) (h0 : kindI l k big ≠ 0) (h4 : kindI l k big ≠ 4) :
    ∃ f t : Nat, runI l k big = (((f : Nat) : Int), ((t : Nat) : Int)) ∧ f ≤ k ∧ k < t ∧ t ≤ l.length ∧ placeB l f = true ∧ placeB l t = true ∧ ofI l f = ofI l t ∧ (∀ i : Nat, f ≤ i → i < t → placeB l i = true → kindI l i big = kindI l k big) ∧ kindI l t big ≠ kindI l k big ∧ (0 < f → kindI l (prevI l f) big ≠ kindI l k big) := by
  obtain ⟨_, hle, hv⟩ := valid_at hp
  obtain ⟨e, q1, q2, q3, q4, q5, q6, q7⟩ := line_at hp
  have he := line_end hp q2
  have hke : k < e := by
    rcases Nat.lt_or_ge k e with h | h
    · exact h
    · have : e = k := by omega
      subst this
      rcases he with h | h
      · omega
      · exact absurd (kind_ten big hv hk h) h4
  obtain ⟨a1, a2, a3, a4, a5⟩ := dn_facts (c := kindI l k big) (big := big) hv q6 k k (Nat.le_refl _) q3 (by omega) hp
  obtain ⟨u, b1, b2, b3, b4, b5, b6, b7⟩ := up_facts (c := kindI l k big) (big := big) q5 q7 (e - k) k (Nat.le_refl _) q4 hp
  have hall : ∀ i : Nat, dnI l (kindI l k big) big (lst l k) k k ≤ i → i < u → placeB l i = true → kindI l i big = kindI l k big := by
    intro i c1 c2 c3
    rcases Nat.lt_or_ge i k with h | h
    · exact a4 i c1 h c3
    · exact b5 i h c2 c3
  have hlt := b7 rfl hke
  refine ⟨dnI l (kindI l k big) big (lst l k) k k, u, ?_, a2, hlt, by omega, a3, b4, ?_, hall, ?_, ?_⟩
  · unfold runI; rw [if_neg (by rintro (h | h); exact h0 h; exact h4 h), q1, q2]; simp [b1]
  · have hf := fds_flat (l := l) (f := dnI l (kindI l k big) big (lst l k) k k) (u - dnI l (kindI l k big) big (lst l k) k k) (by omega) (fun i c1 c2 c3 => by
      have hi : i < l.length := by omega
      have := hall i c1 (by omega) (ten_place hv hi c3).1
      rw [kind_ten big hv hi c3] at this
      exact h4 this.symm)
    rw [Nat.add_sub_cancel' (by omega)] at hf
    rw [(start_of (p := dnI l (kindI l k big) big (lst l k) k k) (by omega) hv).1, (start_of (p := u) (by omega) hv).1, hf]
  · rcases Nat.lt_or_ge u e with h | h
    · exact b6 h
    · have : u = e := by omega
      subst this
      rcases he with h | h
      · rw [h, kind_end]; exact fun x => h0 x.symm
      · by_cases hu : u < l.length
        · rw [kind_ten big hv hu h]; exact fun x => h4 x.symm
        · have : u = l.length := by omega
          rw [this, kind_end]; exact fun x => h0 x.symm
  · intro hpos
    by_cases hl : lst l k < dnI l (kindI l k big) big (lst l k) k k
    · exact a5 hl
    · have el : dnI l (kindI l k big) big (lst l k) k k = lst l k := by omega
      rw [el] at a3 hpos ⊢
      have ht := lst_ten l k hpos
      obtain ⟨j, ej⟩ : ∃ j, lst l k = j + 1 := ⟨lst l k - 1, by omega⟩
      rw [ej] at ht a3 ⊢
      rw [prevI_at a3 (by omega)]
      simp only [Nat.add_sub_cancel] at ht ⊢
      have hj : j < l.length := by omega
      have e2 : prevFrom l j = j := by
        cases j with
        | zero => rfl
        | succ n => simp [prevFrom, inn, ht]
      rw [e2, kind_ten big hv hj ht]
      exact fun x => h4 x.symm

end Go.Proofs.YtckfdehendifoaaDoor
/- The lines one behind the other: plain facts. -/
namespace Go.Proofs.YtckfdehendifoaaDoor
open Go.RowKit
set_option linter.unusedVariables false
set_option linter.unusedSimpArgs false
theorem lnsF_next : ∀ (r : List UInt8) (st i : Nat) (l : List UInt8), l.drop i = r → i + r.length = l.length → ∀ j, j + 1 < (lnsF r st i).length → ∃ x y, (lnsF r st i)[j]? = some x ∧ (lnsF r st i)[j + 1]? = some y ∧ y.1 = x.2 + 1 ∧ byL l x.2 = 10 ∧ x.2 < l.length
  | [], st, i, l, _, _, j, h => by simp [lnsF] at h
  | b :: r, st, i, l, hd, hl, j, h => by
    have hi : i < l.length := by simp at hl; omega
    have hd' : l.drop (i + 1) = r := by rw [← List.drop_drop, hd]; rfl
    have hb : l[i] = b := by have := List.drop_eq_getElem_cons hi; rw [hd] at this; simpa using (List.cons.inj this).1.symm
    by_cases e : b = 10
    · rw [lnsF, if_pos e] at h ⊢
      cases j with
      | zero =>
        obtain ⟨e', q, h1, _, _⟩ := lnsF_head r (i + 1) (i + 1)
        refine ⟨(st, i), (i + 1, e'), rfl, by rw [h1]; rfl, rfl, by rw [byL_ten hi, hb]; exact e, hi⟩
      | succ j =>
        obtain ⟨x, y, h1, h2, h3⟩ := lnsF_next r (i + 1) (i + 1) l hd' (by simp at hl; omega) j (by simpa using h)
        exact ⟨x, y, by simpa using h1, by simpa using h2, h3⟩
    · rw [lnsF, if_neg e] at h ⊢
      exact lnsF_next r st (i + 1) l hd' (by simp at hl; omega) j h
theorem lnsF_last : ∀ (r : List UInt8) (st i : Nat), ∃ x, (lnsF r st i)[(lnsF r st i).length - 1]? = some x ∧ x.2 = i + r.length
  | [], st, i => ⟨(st, i), by simp [lnsF], by simp⟩
  | b :: r, st, i => by
    rw [lnsF]
    split
    · obtain ⟨x, h1, h2⟩ := lnsF_last r (i + 1) (i + 1)
      have : (lnsF r (i + 1) (i + 1)).length ≠ 0 := by rw [lnsF_len]; omega
      refine ⟨x, ?_, by simp; omega⟩
      rw [List.length_cons, Nat.add_sub_cancel, List.getElem?_cons, if_neg this]; exact h1
    · obtain ⟨x, h1, h2⟩ := lnsF_last r st (i + 1)
      exact ⟨x, h1, by simp; omega⟩
theorem lnsF_fds : ∀ (r : List UInt8) (st i : Nat) (l : List UInt8), l.drop i = r → i + r.length = l.length → fds l i = fds l st → ∀ j x, (lnsF r st i)[j]? = some x → fds l x.1 = fds l st + j ∧ fds l x.2 = fds l st + j
  | [], st, i, l, _, _, hf, j, x, h => by
    cases j with
    | zero => simp [lnsF] at h; subst h; exact ⟨rfl, hf⟩
    | succ j => simp [lnsF] at h
  | b :: r, st, i, l, hd, hl, hf, j, x, h => by
    have hi : i < l.length := by simp at hl; omega
    have hd' : l.drop (i + 1) = r := by rw [← List.drop_drop, hd]; rfl
    have hb : l[i] = b := by have := List.drop_eq_getElem_cons hi; rw [hd] at this; simpa using (List.cons.inj this).1.symm
    have hs := fds_succ l i hi
    have hbi : byL l i = 10 ↔ b = 10 := by rw [byL_ten hi, hb]
    rw [lnsF] at h
    split at h
    · rename_i e
      rw [if_pos (hbi.2 e)] at hs
      cases j with
      | zero => simp at h; subst h; exact ⟨rfl, hf⟩
      | succ j =>
        obtain ⟨h1, h2⟩ := lnsF_fds r (i + 1) (i + 1) l hd' (by simp at hl; omega) rfl j x (by simpa using h)
        constructor <;> omega
    · rename_i e
      rw [if_neg (fun h => e (hbi.1 h))] at hs
      obtain ⟨h1, h2⟩ := lnsF_fds r st (i + 1) l hd' (by simp at hl; omega) (by omega) j x h
      exact ⟨h1, h2⟩
def pre (l : List UInt8) (j : Nat) : Nat := if j = 0 then 0 else ((lns l).getD (j - 1) (0, 0)).2
theorem pre_all (l : List UInt8) : pre l (tens l + 1) = l.length := by
  obtain ⟨x, h1, h2⟩ := lnsF_last l 0 0
  unfold pre
  rw [if_neg (by omega), List.getD_eq_getElem?_getD]
  have : lns l = lnsF l 0 0 := rfl
  rw [← this, lns_len] at h1
  rw [h1]; simpa using h2
theorem whole_at {l : List UInt8} {j : Nat} (hv : validL l = true) (hj : j < tens l + 1) : ∃ f e : Nat, startI l j = f ∧ endI l j = e ∧ f ≤ e ∧ e ≤ l.length ∧ ofI l f = j ∧ ofI l e = j ∧ l.take (pre l (j + 1)) = (if j = 0 then [] else l.take (pre l j) ++ [10]) ++ (l.drop f).take (e - f) := by
  have hlen : j < (lns l).length := by rw [lns_len]; exact hj
  obtain ⟨⟨f, e⟩, hx⟩ : ∃ x, (lns l)[j]? = some x := ⟨_, List.getElem?_eq_getElem hlen⟩
  have hle := lines_le l (f, e) (List.mem_of_getElem? hx)
  simp only at hle
  have hl : lineI l j = some (f, e) := by unfold lineI; rw [if_pos ⟨hv, by omega⟩, Int.toNat_natCast]; exact hx
  obtain ⟨d1, d2⟩ := lnsF_fds l 0 0 l rfl (by simp) rfl j (f, e) hx
  have d0 : fds l 0 = 0 := by simp [fds, tens]
  simp only [d0, Nat.zero_add] at d1 d2
  refine ⟨f, e, by unfold startI; rw [hl], by unfold endI; rw [hl], hle.1, hle.2, ?_, ?_, ?_⟩
  · rw [(start_of (p := f) (by omega) hv).1, d1]
  · rw [(start_of (p := e) (by omega) hv).1, d2]
  · have hp : pre l (j + 1) = e := by unfold pre; rw [if_neg (by omega), List.getD_eq_getElem?_getD, Nat.add_sub_cancel, hx]; rfl
    rw [hp]
    cases j with
    | zero =>
      obtain ⟨e', q, h1, _, _⟩ := lnsF_head l 0 0
      have : lns l = (0, e') :: q := h1
      rw [this] at hx
      simp at hx
      obtain ⟨rfl, rfl⟩ := hx
      simp
    | succ j =>
      obtain ⟨x, y, h1, h2, h3, h4, h5⟩ := lnsF_next l 0 0 l rfl (by simp) j hlen
      have hxx : (lns l)[j]? = some x := h1
      have hyy : (lns l)[j + 1]? = some y := h2
      rw [hx] at hyy
      have : y = (f, e) := by simpa using hyy.symm
      subst this
      have hp2 : pre l (j + 1) = x.2 := by unfold pre; rw [if_neg (by omega), List.getD_eq_getElem?_getD, Nat.add_sub_cancel, hxx]; rfl
      rw [hp2, if_neg (by omega)]
      simp only at h3
      rw [h3] at hle ⊢
      have h6 : l.take (x.2 + 1) = l.take x.2 ++ [10] := by
        rw [List.take_add_one, List.getElem?_eq_getElem h5]
        have := byL_ten h5
        rw [h4] at this; simp at this; simp [this]
      rw [← h6]
      have key := List.take_add (l := l) (i := x.2 + 1) (j := e - (x.2 + 1))
      rw [show x.2 + 1 + (e - (x.2 + 1)) = e by omega] at key
      exact key

end Go.Proofs.YtckfdehendifoaaDoor
/- Texts one behind the other; where a line ends: plain facts. -/
namespace Go.Proofs.YtckfdehendifoaaDoor
open Go.RowKit
set_option linter.unusedVariables false
set_option linter.unusedSimpArgs false
theorem valid_app : ∀ (m : Nat) (a b : List UInt8), a.length ≤ m → validL a = true → validL b = true → validL (a ++ b) = true
  | 0, a, b, hm, _, hb => by
    have : a = [] := List.length_eq_zero_iff.1 (by omega)
    subst this; exact hb
  | m + 1, a, b, hm, ha, hb => by
    by_cases h0 : a.length = 0
    · have : a = [] := List.length_eq_zero_iff.1 h0
      subst this; exact hb
    · have hz := valid_sz ha h0
      have hle := szL_le a
      have h1 := (sz_take a (szL a) (by omega) hle).2 rfl
      have h2 : (a ++ b).take (szL a) = a.take (szL a) := List.take_append_of_le_length hle
      have h3 : szL (a ++ b) = szL a := by
        refine (sz_take (a ++ b) (szL a) (by omega) (by rw [List.length_append]; omega)).1 ?_
        rw [h2]; exact h1
      have h4 : (a ++ b).drop (szL a) = a.drop (szL a) ++ b := List.drop_append_of_le_length hle
      rw [validL_step (by rw [List.length_append]; omega) (by rw [h3]; exact hz), h3, h4]
      refine valid_app m _ b (by rw [List.length_drop]; omega) ?_ hb
      rw [← validL_step h0 hz]; exact ha
theorem valid_append {a b : List UInt8} (ha : validL a = true) (hb : validL b = true) : validL (a ++ b) = true := valid_app a.length a b (Nat.le_refl _) ha hb
theorem place_le {l : List UInt8} {k : Nat} (h : placeB l k = true) : k ≤ l.length := (valid_at h).2.1
theorem place_valid {l : List UInt8} {p : Int} (h : placeB l p = true) : validL l = true := by
  unfold placeB at h; simp only [Bool.and_eq_true] at h; exact h.2
theorem place_take {l : List UInt8} {k : Nat} (h : placeB l k = true) : validL (l.take k) = true :=
  valid_tk _ l k (Nat.le_refl _) (place_valid h) (place_le h) (place_inn h)
theorem place_drop {l : List UInt8} {k : Nat} (h : placeB l k = true) : validL (l.drop k) = true := (valid_at h).1
theorem place_iff {l : List UInt8} {k : Nat} : placeB l k = true ↔ k ≤ l.length ∧ validL (l.take k) = true ∧ validL (l.drop k) = true := by
  constructor
  · intro h; exact ⟨place_le h, place_take h, place_drop h⟩
  · rintro ⟨h1, h2, h3⟩
    refine place_mk ?_ h1 ?_
    · have := valid_append h2 h3; rwa [List.take_append_drop] at this
    · by_cases he : k = l.length
      · exact .inl he
      · refine .inr ?_
        have := valid_first h3 (by rw [List.length_drop]; omega)
        rwa [byL_drop] at this
theorem place_app {a b : List UInt8} (ha : validL a = true) (hb : validL b = true) : placeB (a ++ b) (a.length : Nat) = true :=
  place_iff.2 ⟨by rw [List.length_append]; omega, by rw [List.take_left]; exact ha, by rw [List.drop_left]; exact hb⟩
theorem place_int {l : List UInt8} {p : Int} (h : placeB l p = true) : ∃ k : Nat, p = k ∧ k ≤ l.length := by
  have h' := h
  unfold placeB at h'
  simp only [Bool.and_eq_true, decide_eq_true_eq] at h'
  exact ⟨p.toNat, by omega, by omega⟩
theorem byL_app1 {a b : List UInt8} {k : Nat} (h : k < a.length) : byL (a ++ b) k = byL a k := by
  unfold byL; rw [List.getD_eq_getElem?_getD, List.getD_eq_getElem?_getD, List.getElem?_append_left h]
theorem byL_app2 {a b : List UInt8} {k : Nat} (h : a.length ≤ k) : byL (a ++ b) k = byL b (k - a.length) := by
  unfold byL; rw [List.getD_eq_getElem?_getD, List.getD_eq_getElem?_getD, List.getElem?_append_right h]
theorem end_gt {l : List UInt8} {p e : Nat} (h : placeB l p = true) (he : endI l (ofI l p) = e) : (p < e ↔ p < l.length ∧ byL l p ≠ 10) ∧ p ≤ e ∧ e ≤ l.length := by
  have hv := place_valid h
  have hp := place_le h
  obtain ⟨ho, -, -⟩ := start_of hp hv
  obtain ⟨a, ha, hl⟩ := lns_split l p hp
  have key : ∀ e', (lns l)[fds l p]? = some (lst l p, e') → e' = e := by
    intro e' h1
    have h2 : lineI l (ofI l p) = some (lst l p, e') := by
      unfold lineI
      rw [ho, if_pos ⟨hv, by omega⟩]
      simpa using h1
    have : endI l (ofI l p) = e' := by unfold endI; rw [h2]
    omega
  have key2 : ∀ e' r, lnsF (l.drop p) (lst l p) p = (lst l p, e') :: r → e' = e := by
    intro e' r h1
    refine key e' ?_
    rw [ha, h1, ← hl]; simp
  by_cases hc : p < l.length
  · have hs := lnsF_step l (lst l p) p hc
    by_cases ht : byL l p = 10
    · rw [if_pos ht] at hs
      have := key2 _ _ hs
      subst this
      exact ⟨⟨fun h => by omega, fun h => absurd ht h.2⟩, Nat.le_refl _, hp⟩
    · rw [if_neg ht] at hs
      obtain ⟨e', q, h1, h2, h3⟩ := lnsF_head (l.drop (p + 1)) (lst l p) (p + 1)
      rw [h1] at hs
      have := key2 _ _ hs
      subst this
      rw [List.length_drop] at h3
      exact ⟨⟨fun _ => ⟨hc, ht⟩, fun _ => by omega⟩, by omega, by omega⟩
  · have hs := lnsF_end l (lst l p) p (by omega)
    have := key2 _ _ hs
    subst this
    exact ⟨⟨fun h => by omega, fun h => absurd h.1 hc⟩, Nat.le_refl _, hp⟩
theorem line_fds {l : List UInt8} {p e : Nat} (h : placeB l p = true) (he : endI l (ofI l p) = e) : fds l (lst l p) = fds l p ∧ fds l e = fds l p := by
  have hv := place_valid h
  have hp := place_le h
  obtain ⟨ho, -, -⟩ := start_of hp hv
  obtain ⟨e', h1, -, -⟩ := line_of l p hp
  have h2 : lineI l (ofI l p) = some (lst l p, e') := by
    unfold lineI
    rw [ho, if_pos ⟨hv, by omega⟩]
    simpa using h1
  have h3 : endI l (ofI l p) = e' := by unfold endI; rw [h2]
  have : e' = e := by omega
  subst this
  have := lnsF_fds l 0 0 l rfl (by simp) rfl (fds l p) (lst l p, e') h1
  have hz : fds l 0 = 0 := by simp [fds, tens]
  rw [hz] at this
  dsimp only at this
  omega
theorem ofI_at {l : List UInt8} {p : Nat} (h : placeB l p = true) : ofI l p = fds l p := (start_of (place_le h) (place_valid h)).1
theorem fds_drop (l : List UInt8) (i : Nat) : fds l i + tens (l.drop i) = tens l := by
  unfold fds tens
  rw [← List.count_append, List.take_append_drop]
theorem tens_append (a b : List UInt8) : tens (a ++ b) = tens a + tens b := by unfold tens; rw [List.count_append]
theorem lst_zero_or {l : List UInt8} {p : Nat} : lst l p = 0 ∨ (0 < lst l p ∧ byL l (lst l p - 1) = 10) := by
  by_cases h : lst l p = 0
  · exact .inl h
  · exact .inr ⟨by omega, lst_ten l p (by omega)⟩
end Go.Proofs.YtckfdehendifoaaDoor
/- Normal places, columns and first signs: plain facts. -/
namespace Go.Proofs.YtckfdehendifoaaDoor
open Go.RowKit
set_option linter.unusedVariables false
set_option linter.unusedSimpArgs false
theorem lst_lst' (l : List UInt8) : ∀ i, lst l (lst l i) = lst l i
  | 0 => rfl
  | i + 1 => by
    by_cases h : byL l i = 10
    · have e : lst l (i + 1) = i + 1 := by rw [lst, if_pos h]
      rw [e, e]
    · have e : lst l (i + 1) = lst l i := by rw [lst, if_neg h]
      rw [e]; exact lst_lst' l i
theorem lst_no' (l : List UInt8) : ∀ q i, lst l q ≤ i → i < q → byL l i ≠ 10
  | 0, _, _, h => by omega
  | q + 1, i, h1, h2 => by
    by_cases h : byL l q = 10
    · have e : lst l (q + 1) = q + 1 := by rw [lst, if_pos h]
      omega
    · have e : lst l (q + 1) = lst l q := by rw [lst, if_neg h]
      rw [e] at h1
      by_cases he : i = q
      · subst he; exact h
      · exact lst_no' l q i h1 (by omega)
theorem prev_ge' {l : List UInt8} {k f : Nat} (h : placeB l k = true) (hf : placeB l f = true) (hlt : f < k) : f ≤ prevFrom l (k - 1) := by
  obtain ⟨_, hle, hv⟩ := valid_at h
  obtain ⟨h1, h2, h3⟩ := prev_gap hv (k - 1) (by omega)
  rcases Nat.lt_or_ge (prevFrom l (k - 1)) f with h | h
  · rw [h3 f h (by omega)] at hf; cases hf
  · exact h
theorem clamp_cases {l : List UInt8} (hv : validL l = true) (p : Int) : ∃ c : Nat, clampI l p = c ∧ placeB l c = true ∧ normalB l c = true := by
  have hq := downTo_place hv (cutI l p)
  have hqle := (valid_at hq).2.1
  unfold clampI
  rw [if_pos hv]
  show ∃ c : Nat, (if endsB l (downTo l (cutI l p)) = true ∧ lst l (downTo l (cutI l p)) < downTo l (cutI l p) then prevI l (downTo l (cutI l p) : Nat) else (downTo l (cutI l p) : Nat)) = (c : Int) ∧ _
  generalize downTo l (cutI l p) = q at hq hqle ⊢
  split
  · rename_i hc
    obtain ⟨h1, h2, _⟩ := prev_gap hv (q - 1) (by omega)
    have h3 := prev_ge' hq (lst_place hv q hqle) hc.2
    refine ⟨prevFrom l (q - 1), prevI_at hq (by omega), h2, ?_⟩
    unfold normalB
    rw [h2, Int.toNat_natCast]
    have : endsB l (prevFrom l (q - 1)) = false := by
      unfold endsB
      rw [decide_eq_false (by omega), decide_eq_false (lst_no' l q _ h3 (by omega))]; rfl
    rw [this]; rfl
  · rename_i hc
    refine ⟨q, rfl, hq, ?_⟩
    unfold normalB
    rw [hq, Int.toNat_natCast]
    have := lst_le l q
    cases he : endsB l q with
    | false => rfl
    | true => simp; rw [he] at hc; simp at hc; omega
theorem clamp_self {l : List UInt8} {q : Nat} (h : normalB l q = true) : clampI l q = q := by
  unfold normalB at h
  rw [Bool.and_eq_true, Int.toNat_natCast] at h
  obtain ⟨hp, h2⟩ := h
  obtain ⟨_, hle, hv⟩ := valid_at hp
  have hcut : cutI l q = q := by unfold cutI; omega
  unfold clampI
  rw [if_pos hv]
  show (if endsB l (downTo l (cutI l q)) = true ∧ lst l (downTo l (cutI l q)) < downTo l (cutI l q) then prevI l (downTo l (cutI l q) : Nat) else (downTo l (cutI l q) : Nat)) = (q : Int)
  rw [hcut, downTo_hit hp, if_neg]
  rintro ⟨h3, h4⟩
  rw [h3] at h2; simp at h2; omega
theorem line_pair {l : List UInt8} {p : Nat} (h : placeB l p = true) : ∃ e : Nat, lineI l (ofI l p) = some (lst l p, e) ∧ startI l (ofI l p) = (lst l p : Nat) ∧ endI l (ofI l p) = e ∧ lst l p ≤ p ∧ p ≤ e ∧ e ≤ l.length ∧ placeB l (lst l p : Nat) = true ∧ placeB l e = true := by
  obtain ⟨_, hle, hv⟩ := valid_at h
  obtain ⟨e', q1, q2, q3⟩ := line_of l p hle
  obtain ⟨h1, _⟩ := start_of hle hv
  have hl : lineI l (ofI l p) = some (lst l p, e') := by rw [h1]; unfold lineI; rw [if_pos ⟨hv, by omega⟩, Int.toNat_natCast]; exact q1
  obtain ⟨e, g1, g2, g3, g4, g5, g6, g7⟩ := line_at h
  have : e' = e := by unfold endI at g2; rw [hl] at g2; simp at g2; omega
  subst this
  exact ⟨e', hl, g1, g2, g3, g4, g5, g6, g7⟩
theorem vAt_big {l : List UInt8} {b : Nat} (hpb : placeB l b = true) : ∀ (d p : Nat) (c : Int), b - p ≤ d → p ≤ b → placeB l p = true → (b : Int) - p < c → vAt l b p c = b := by
  intro d
  induction d with
  | zero => intro p c h1 h2 _ _; obtain rfl : p = b := by omega
            exact vAt_end l p c
  | succ d ih =>
    intro p c h1 h2 hp hc
    by_cases he : p = b
    · subst he; exact vAt_end l p c
    · obtain ⟨n, g1, g2, g3, g4, g5⟩ := vAt_step (c := c) (by omega) (show p < b by omega) hp hpb
      rw [g5]; exact ih n (c - 1) (by omega) g3 g4 (by omega)
theorem vAt_zero {l : List UInt8} {b p : Nat} (hpb : placeB l b = true) (hp : placeB l p = true) (h : p ≤ b) : vAt l b p 0 = p := by
  by_cases he : p = b
  · subst he; exact vAt_end l p 0
  · have hb := (valid_at hpb).2.1
    refine vAt_stop (Int.le_refl _) (by omega) hb ?_
    rcases place_inn hp with h1 | h1
    · omega
    · exact h1
theorem row_app {l : List UInt8} {a n c : Nat} (h1 : a ≤ n) (h2 : n ≤ c) (h3 : c ≤ l.length) : rowL l (a, c) = rowL l (a, n) ++ rowL l (n, c) := by
  unfold rowL
  show (l.drop a).take (c - a) = (l.drop a).take (n - a) ++ (l.drop n).take (c - n)
  have e : l.drop n = (l.drop a).drop (n - a) := by rw [List.drop_drop]; congr 1; omega
  rw [e, show c - a = (n - a) + (c - n) by omega, List.take_add]
theorem cnt_app (a b : List UInt8) : cntL (a ++ b) = cntL a + cntL b := by unfold cntL; rw [List.filter_append, List.length_append]
theorem cnt_one_rune {l : List UInt8} {p : Nat} (hp : placeB l p = true) : ∀ (d n : Nat), n = p + 1 + d → n ≤ l.length → (∀ i, p < i → i < n → placeB l i = false) → cntL (rowL l (p, n)) = 1 := by
  have hv := (valid_at hp).2.2
  intro d
  induction d with
  | zero =>
    rintro n rfl hn _
    have hin : inn (byL l p) = false := by
      rcases place_inn hp with h | h
      · omega
      · exact h
    have hin2 := hin
    rw [← inn_get (show p < l.length by omega)] at hin2
    rw [Nat.add_zero, row_cons (by omega) hn, row_nil]
    unfold cntL
    simp [hin2]
  | succ d ih =>
    rintro n rfl hn hg
    rw [row_app (n := p + 1 + d) (by omega) (by omega) hn, cnt_app, ih (p + 1 + d) rfl (by omega) (fun i a b => hg i a (by omega))]
    have hj := hg (p + 1 + d) (by omega) (by omega)
    rw [place_byte hv (by omega)] at hj
    have hin : inn (byL l (p + 1 + d)) = true := by simpa using hj
    rw [← inn_get (show p + 1 + d < l.length by omega)] at hin
    rw [show p + 1 + (d + 1) = p + 1 + d + 1 by omega, row_cons (by omega) (by omega), row_nil]
    unfold cntL
    simp [hin]
theorem vAt_cnt {l : List UInt8} {b c : Nat} (hpb : placeB l b = true) (hpc : placeB l c = true) (hcb : c ≤ b) : ∀ (d p : Nat), c - p ≤ d → p ≤ c → placeB l p = true → vAt l b p (cntL (rowL l (p, c)) : Nat) = c := by
  have hcl := (valid_at hpc).2.1
  intro d
  induction d with
  | zero =>
    intro p h1 h2 hp
    obtain rfl : p = c := by omega
    rw [row_nil]; exact vAt_zero hpb hp hcb
  | succ d ih =>
    intro p h1 h2 hp
    by_cases he : p = c
    · subst he; rw [row_nil]; exact vAt_zero hpb hp hcb
    · obtain ⟨n, g1, g2, g3, g4, g5⟩ := next_gap hp (show p < l.length by omega)
      have hnc : n ≤ c := by
        rcases Nat.lt_or_ge c n with h | h
        · rw [g5 c (by omega) h] at hpc; cases hpc
        · exact h
      have h1c := cnt_one_rune hp (n - (p + 1)) n (by omega) g3 (fun i a b => g5 i a b)
      have hc2 : cntL (rowL l (p, c)) = 1 + cntL (rowL l (n, c)) := by rw [row_app (n := n) (by omega) hnc hcl, cnt_app, h1c]
      obtain ⟨m, k1, k2, k3, k4, k5⟩ := vAt_step (b := b) (p := p) (c := (cntL (rowL l (p, c)) : Nat)) (by omega) (by omega) hp hpb
      obtain rfl : m = n := by rw [g1] at k1; omega
      rw [k5, show ((cntL (rowL l (p, c)) : Nat) : Int) - 1 = (cntL (rowL l (m, c)) : Nat) by omega]
      exact ih m (by omega) hnc g4
theorem at_col {l : List UInt8} {c : Nat} (hc : placeB l c = true) : atI l (ofI l c) (colI l c) = c ∧ atI l (ofI l c) (-1) = startI l (ofI l c) ∧ atI l (ofI l c) (l.length + 1 : Nat) = endI l (ofI l c) := by
  obtain ⟨e, h1, h2, h3, h4, h5, h6, h7, h8⟩ := line_pair hc
  have hvr := row_valid (show lst l c ≤ e by omega) h7 h8
  have hvu := row_valid h4 h7 hc
  have hcol : colI l c = (cntL (rowL l (lst l c, c)) : Nat) := by
    unfold colI; rw [if_pos hc, Int.toNat_natCast]
    have : upL l c = rowL l (lst l c, c) := rfl
    rw [this]; unfold countI; rw [if_pos hvu]
  refine ⟨?_, ?_, ?_⟩
  · rw [vAt_eq h1 hvr, hcol]; exact vAt_cnt h8 hc h5 _ _ (Nat.le_refl _) h4 h7
  · rw [vAt_eq h1 hvr, h2]
    have : vAt l e (lst l c) (-1) = vAt l e (lst l c) 0 := by unfold vAt; rfl
    rw [this]; exact vAt_zero h8 h7 (by omega)
  · rw [vAt_eq h1 hvr, h3]; exact vAt_big h8 _ _ _ (Nat.le_refl _) (by omega) h7 (by omega)
end Go.Proofs.YtckfdehendifoaaDoor
/- Where a line's first sign is: plain facts. -/
namespace Go.Proofs.YtckfdehendifoaaDoor
open Go.RowKit
set_option linter.unusedVariables false
set_option linter.unusedSimpArgs false
theorem blk_places {l : List UInt8} {a b : Nat} (hv : validL l = true) (hb : b ≤ l.length) (hpb : placeB l b = true) : ∀ (d p : Nat), b - p ≤ d → p ≤ b → placeB l p = true → placeB l (p + blk (rowL l (p, b)) : Nat) = true ∧ p + blk (rowL l (p, b)) ≤ b := by
  intro d
  induction d with
  | zero =>
    intro p h1 h2 hp
    obtain rfl : p = b := by omega
    rw [blk_nil]; exact ⟨hp, Nat.le_refl _⟩
  | succ d ih =>
    intro p h1 h2 hp
    by_cases he : p = b
    · subst he; rw [blk_nil]; exact ⟨hp, Nat.le_refl _⟩
    · by_cases hbl : byL l p = 32 ∨ byL l p = 9
      · rw [blk_yes (by omega) hb hbl]
        obtain ⟨hz, hle⟩ := sz_at hp (show p < l.length by omega)
        obtain ⟨_, h2s, _, _⟩ := szL_pos hz
        rw [byL_drop, Nat.add_zero] at h2s
        have h3 : szL (l.drop p) = 1 := by
          have e32 : fSize 32 = 1 := by decide
          have e9 : fSize 9 = 1 := by decide
          rcases hbl with h | h <;> rw [h] at h2s <;> omega
        have hn := place_next hp (show p < l.length by omega)
        rw [h3] at hn
        obtain ⟨g1, g2⟩ := ih (p + 1) (by omega) (by omega) hn
        rw [show p + (blk (rowL l (p + 1, b)) + 1) = p + 1 + blk (rowL l (p + 1, b)) by omega]
        exact ⟨g1, g2⟩
      · rw [blk_no (by omega) hb hbl]; exact ⟨hp, by omega⟩
theorem in_line' {l : List UInt8} {p e j : Nat} (hp : placeB l p = true) (he : endI l (ofI l p) = e) (h1 : lst l p ≤ j) (h2 : j ≤ e) : ofI l j = ofI l p := by
  obtain ⟨_, hle, hv⟩ := valid_at hp
  obtain ⟨g1, g2⟩ := line_fds hp he
  obtain ⟨_, _, e3⟩ := end_gt hp he
  have up : ∀ (i d : Nat), i + d ≤ l.length → fds l i ≤ fds l (i + d) := by
    intro i d
    induction d with
    | zero => intro _; exact Nat.le_refl _
    | succ d ih => intro h; have := ih (by omega); rw [← Nat.add_assoc, fds_succ l (i + d) (by omega)]; omega
  have a1 := up (lst l p) (j - lst l p) (by omega)
  have a2 := up j (e - j) (by omega)
  rw [show lst l p + (j - lst l p) = j by omega] at a1
  rw [show j + (e - j) = e by omega] at a2
  obtain ⟨s1, _, _⟩ := start_of (p := j) (show j ≤ l.length by omega) hv
  obtain ⟨t1, _, _⟩ := start_of hle hv
  rw [s1, t1]; omega
theorem first_facts {l : List UInt8} {c : Nat} (hc : placeB l c = true) : ∃ f : Nat, firstI l (ofI l c) = f ∧ ofI l f = ofI l c ∧ normalB l f = true := by
  obtain ⟨_, hle, hv⟩ := valid_at hc
  obtain ⟨e, h1, h2, h3, h4, h5, h6, h7, h8⟩ := line_pair hc
  have hrl : (rowL l (lst l c, e)).length = e - lst l c := rowL_len (show lst l c ≤ e by omega) h6
  have hee := line_end hc h3
  unfold firstI
  rw [h1]
  show ∃ f : Nat, (if blk (rowL l (lst l c, e)) = (rowL l (lst l c, e)).length then clampI l (e : Nat) else ((lst l c + blk (rowL l (lst l c, e)) : Nat) : Int)) = (f : Int) ∧ _
  rw [hrl]
  split
  · obtain ⟨q, g1, g2, g3⟩ := clamp_cases hv (e : Nat)
    refine ⟨q, g1, ?_, g3⟩
    have hcut : cutI l (e : Nat) = e := by unfold cutI; omega
    have hle2 : lst l e = lst l c := by
      have o := in_line' hc h3 (j := e) (by omega) (Nat.le_refl _)
      obtain ⟨_, s2, _⟩ := start_of (p := e) h6 hv
      rw [o, h2] at s2; omega
    have hval : clampI l (e : Nat) = if endsB l e = true ∧ lst l e < e then prevI l (e : Nat) else (e : Nat) := by
      unfold clampI
      rw [if_pos hv]
      show (if endsB l (downTo l (cutI l (e : Nat))) = true ∧ lst l (downTo l (cutI l (e : Nat))) < downTo l (cutI l (e : Nat)) then prevI l (downTo l (cutI l (e : Nat)) : Nat) else (downTo l (cutI l (e : Nat)) : Nat)) = _
      rw [hcut, downTo_hit h8]
    rw [hval] at g1
    split at g1
    · rename_i hcc
      rw [prevI_at h8 (by omega)] at g1
      have := prev_ge' h8 h7 (by omega)
      have h9 := (prev_gap hv (e - 1) (by omega)).1
      exact in_line' hc h3 (by omega) (by omega)
    · have : q = e := by omega
      subst this; exact in_line' hc h3 (by omega) (Nat.le_refl _)
  · rename_i hne
    obtain ⟨g1, g2⟩ := blk_places (a := lst l c) hv h6 h8 _ _ (Nat.le_refl _) (show lst l c ≤ e by omega) h7
    refine ⟨_, rfl, in_line' hc h3 (by omega) g2, ?_⟩
    unfold normalB
    rw [g1, Int.toNat_natCast]
    have hlt : lst l c + blk (rowL l (lst l c, e)) < e := by have := blk_le (rowL l (lst l c, e)); omega
    have hq := in_line' hc h3 (j := lst l c + blk (rowL l (lst l c, e))) (by omega) g2
    have hend : endsB l (lst l c + blk (rowL l (lst l c, e))) = false := by
      have h10 := (end_gt g1 (by rw [hq]; exact h3)).1.1 hlt
      unfold endsB
      rw [decide_eq_false (by omega), decide_eq_false h10.2]; rfl
    rw [hend]; rfl
end Go.Proofs.YtckfdehendifoaaDoor
/- Columns and places in lines, told by the runes from a place on: plain facts. -/
namespace Go.Proofs.YtckfdehendifoaaDoor
open Go.RowKit
set_option linter.unusedVariables false
set_option linter.unusedSimpArgs false
theorem vAt_big' {l : List UInt8} {b : Nat} (hpb : placeB l b = true) : ∀ (d p : Nat) (c : Int), b - p ≤ d → p ≤ b → placeB l p = true → (b : Int) - p ≤ c → vAt l b p c = b := by
  intro d
  induction d with
  | zero => intro p c h1 h2 _ _; obtain rfl : p = b := by omega
            exact vAt_end l p c
  | succ d ih =>
    intro p c h1 h2 hp hc
    by_cases he : p = b
    · subst he; exact vAt_end l p c
    · obtain ⟨n, g1, g2, g3, g4, g5⟩ := vAt_step (c := c) (by omega) (show p < b by omega) hp hpb
      rw [g5]; exact ih n (c - 1) (by omega) g3 g4 (by omega)
theorem vAt_neg (l : List UInt8) (b p : Nat) (c : Int) (h : c ≤ 0) : vAt l b p c = vAt l b p 0 := by unfold vAt; rw [show max c 0 = max 0 0 by omega]
theorem vAt_add {l : List UInt8} {b c : Nat} (hpb : placeB l b = true) (hpc : placeB l c = true) (hcb : c ≤ b) (m : Int) (hm : 0 ≤ m) : ∀ (d p : Nat), c - p ≤ d → p ≤ c → placeB l p = true → vAt l b p ((cntL (rowL l (p, c)) : Nat) + m) = vAt l b c m := by
  have hcl := (valid_at hpc).2.1
  intro d
  induction d with
  | zero =>
    intro p h1 h2 hp
    obtain rfl : p = c := by omega
    rw [row_nil]; congr 1; simp [cntL]
  | succ d ih =>
    intro p h1 h2 hp
    by_cases he : p = c
    · subst he; rw [row_nil]; congr 1; simp [cntL]
    · obtain ⟨n, g1, g2, g3, g4, g5⟩ := next_gap hp (show p < l.length by omega)
      have hnc : n ≤ c := by
        rcases Nat.lt_or_ge c n with h | h
        · rw [g5 c (by omega) h] at hpc; cases hpc
        · exact h
      have h1c := cnt_one_rune hp (n - (p + 1)) n (by omega) g3 (fun i a b => g5 i a b)
      have hc2 : cntL (rowL l (p, c)) = 1 + cntL (rowL l (n, c)) := by rw [row_app (n := n) (by omega) hnc hcl, cnt_app, h1c]
      obtain ⟨q, k1, k2, k3, k4, k5⟩ := vAt_step (b := b) (p := p) (c := (cntL (rowL l (p, c)) : Nat) + m) (by omega) (by omega) hp hpb
      obtain rfl : q = n := by rw [g1] at k1; omega
      rw [k5, show ((cntL (rowL l (p, c)) : Nat) : Int) + m - 1 = (cntL (rowL l (q, c)) : Nat) + m by omega]
      exact ih q (by omega) hnc g4
theorem col_cnt {l : List UInt8} {c : Nat} (hc : placeB l c = true) : colI l c = (cntL (rowL l (lst l c, c)) : Nat) := by
  obtain ⟨e, h1, h2, h3, h4, h5, h6, h7, h8⟩ := line_pair hc
  have hvu := row_valid h4 h7 hc
  unfold colI; rw [if_pos hc, Int.toNat_natCast]
  have : upL l c = rowL l (lst l c, c) := rfl
  rw [this]; unfold countI; rw [if_pos hvu]
theorem cntL_le (l : List UInt8) : cntL l ≤ l.length := by unfold cntL; exact List.length_filter_le _ _
theorem col_le {l : List UInt8} {c : Nat} (hc : placeB l c = true) : 0 ≤ colI l c ∧ colI l c ≤ c - lst l c := by
  obtain ⟨e, h1, h2, h3, h4, h5, h6, h7, h8⟩ := line_pair hc
  rw [col_cnt hc]
  have := cntL_le (rowL l (lst l c, c))
  rw [rowL_len h4 (by omega)] at this
  simp only at this
  omega
theorem at_pair {l : List UInt8} {s e : Nat} {k : Int} (hl : lineI l k = some (s, e)) (hs : placeB l s = true) (he : placeB l e = true) (h : s ≤ e) (c : Int) : atI l k c = vAt l e s c := vAt_eq hl (row_valid h hs he)
theorem at_plus {l : List UInt8} {p e : Nat} (hp : placeB l p = true) (he : endI l (ofI l p) = e) (m : Int) (hm : 0 ≤ m) : atI l (ofI l p) (colI l p + m) = vAt l e p m := by
  obtain ⟨e', h1, h2, h3, h4, h5, h6, h7, h8⟩ := line_pair hp
  obtain rfl : e' = e := by omega
  rw [at_pair h1 h7 h8 (by omega), col_cnt hp]
  exact vAt_add h8 hp h5 m hm _ _ (Nat.le_refl _) h4 h7
theorem col_next {l : List UInt8} {p e : Nat} (hp : placeB l p = true) (he : endI l (ofI l p) = e) (h : p < e) : ∃ n : Nat, nextI l p = n ∧ p < n ∧ n ≤ e ∧ placeB l n = true ∧ ofI l n = ofI l p ∧ colI l n = colI l p + 1 := by
  obtain ⟨e', h1, h2, h3, h4, h5, h6, h7, h8⟩ := line_pair hp
  obtain rfl : e' = e := by omega
  obtain ⟨n, g1, g2, g3, g4, g5⟩ := next_gap hp (show p < l.length by omega)
  have hne : n ≤ e' := by
    rcases Nat.lt_or_ge e' n with h | h
    · rw [g5 e' (by omega) h] at h8; cases h8
    · exact h
  have ho := in_line' hp he (j := n) (by omega) hne
  have hln : lst l n = lst l p := by
    obtain ⟨_, a1, _⟩ := line_at g4
    rw [ho] at a1; omega
  have h1c := cnt_one_rune hp (n - (p + 1)) n (by omega) g3 (fun i a b => g5 i a b)
  refine ⟨n, g1, g2, hne, g4, ho, ?_⟩
  rw [col_cnt g4, col_cnt hp, hln, row_app (n := p) h4 (by omega) g3, cnt_app, h1c]; omega
theorem col_prev {l : List UInt8} {p : Nat} (hp : placeB l p = true) (h : lst l p < p) : ∃ n : Nat, prevI l p = n ∧ n < p ∧ lst l p ≤ n ∧ placeB l n = true ∧ ofI l n = ofI l p ∧ lst l n = lst l p ∧ colI l p = colI l n + 1 := by
  obtain ⟨e, h1, h2, h3, h4, h5, h6, h7, h8⟩ := line_pair hp
  have hv := (valid_at hp).2.2
  obtain ⟨g1, g2, g3⟩ := prev_gap hv (p - 1) (by omega)
  have g4 := prev_ge' hp h7 h
  have ho := in_line' hp h3 (j := prevFrom l (p - 1)) g4 (by omega)
  have hln : lst l (prevFrom l (p - 1)) = lst l p := by
    obtain ⟨_, a1, _⟩ := line_at g2
    rw [ho] at a1; omega
  have h1c := cnt_one_rune g2 (p - (prevFrom l (p - 1) + 1)) p (by omega) (by omega) (fun i a b => g3 i a (by omega))
  refine ⟨_, prevI_at hp (by omega), by omega, g4, g2, ho, hln, ?_⟩
  rw [col_cnt g2, col_cnt hp, hln, row_app (n := prevFrom l (p - 1)) g4 (by omega) (by omega), cnt_app, h1c]; omega
end Go.Proofs.YtckfdehendifoaaDoor
/- Lines that there are, and places in them: plain facts. -/
namespace Go.Proofs.YtckfdehendifoaaDoor
open Go.RowKit
set_option linter.unusedVariables false
set_option linter.unusedSimpArgs false
theorem line_exists {l : List UInt8} {k : Int} (hv : validL l = true) (h0 : 0 ≤ k) (h1 : k ≤ lcountI l - 1) : ∃ c : Nat, placeB l c = true ∧ ofI l c = k ∧ lst l c = c := by
  unfold lcountI at h1; rw [if_pos hv] at h1
  obtain ⟨f, e, g1, g2, g3, g4, g5, _⟩ := whole_at (j := k.toNat) hv (by omega)
  obtain ⟨_, s2, _⟩ := start_of (p := f) (by omega) hv
  have hf : f = lst l f := by
    rw [g5, g1] at s2; omega
  refine ⟨f, ?_, by rw [g5]; omega, hf.symm⟩
  rw [hf]; exact lst_place hv f (by omega)
theorem vAt_in {l : List UInt8} {b : Nat} (hpb : placeB l b = true) : ∀ (d p : Nat) (c : Int), b - p ≤ d → p ≤ b → placeB l p = true → ∃ q : Nat, vAt l b p c = q ∧ p ≤ q ∧ q ≤ b ∧ placeB l q = true := by
  intro d
  induction d with
  | zero => intro p c h1 h2 hp; obtain rfl : p = b := by omega
            exact ⟨p, vAt_end l p c, Nat.le_refl _, Nat.le_refl _, hp⟩
  | succ d ih =>
    intro p c h1 h2 hp
    by_cases he : p = b
    · subst he; exact ⟨p, vAt_end l p c, Nat.le_refl _, Nat.le_refl _, hp⟩
    · by_cases hc : 0 < c
      · obtain ⟨n, g1, g2, g3, g4, g5⟩ := vAt_step (c := c) hc (show p < b by omega) hp hpb
        rw [g5]
        obtain ⟨q, k1, k2, k3, k4⟩ := ih n (c - 1) (by omega) g3 g4
        exact ⟨q, k1, by omega, k3, k4⟩
      · rw [vAt_neg l b p c (by omega), vAt_zero hpb hp h2]
        exact ⟨p, rfl, Nat.le_refl _, h2, hp⟩
theorem at_in {l : List UInt8} {k : Int} (hv : validL l = true) (h0 : 0 ≤ k) (h1 : k ≤ lcountI l - 1) (c : Int) : ∃ q : Nat, atI l k c = q ∧ placeB l q = true ∧ ofI l q = k := by
  obtain ⟨f, hf, ho, _⟩ := line_exists hv h0 h1
  obtain ⟨e, g1, g2, g3, g4, g5, g6, g7, g8⟩ := line_pair hf
  rw [← ho, at_pair g1 g7 g8 (by omega)]
  obtain ⟨q, k1, k2, k3, k4⟩ := vAt_in g8 _ (lst l f) c (Nat.le_refl _) (by omega) g7
  exact ⟨q, k1, k4, in_line' hf g3 k2 k3⟩
theorem first_in {l : List UInt8} {k : Int} (hv : validL l = true) (h0 : 0 ≤ k) (h1 : k ≤ lcountI l - 1) : ∃ q : Nat, firstI l k = q ∧ placeB l q = true ∧ ofI l q = k := by
  obtain ⟨f, hf, ho, _⟩ := line_exists hv h0 h1
  obtain ⟨q, g1, g2, g3⟩ := first_facts hf
  refine ⟨q, by rw [← ho]; exact g1, ?_, by rw [← ho]; exact g2⟩
  unfold normalB at g3; rw [Bool.and_eq_true] at g3; exact g3.1
theorem ends_in {l : List UInt8} {k : Int} (hv : validL l = true) (h0 : 0 ≤ k) (h1 : k ≤ lcountI l - 1) : ∃ q : Nat, endI l k = q ∧ placeB l q = true ∧ ofI l q = k := by
  obtain ⟨f, hf, ho, _⟩ := line_exists hv h0 h1
  obtain ⟨e, g1, g2, g3, g4, g5, g6, g7, g8⟩ := line_pair hf
  exact ⟨e, by rw [← ho]; exact g3, g8, by rw [← ho]; exact in_line' hf g3 (by omega) (Nat.le_refl _)⟩
theorem vAt_lt {l : List UInt8} {b c : Nat} (hpb : placeB l b = true) (hpc : placeB l c = true) (hcb : c ≤ b) : ∀ (d p : Nat) (m : Int), c - p ≤ d → p ≤ c → placeB l p = true → 0 ≤ m → m < (cntL (rowL l (p, c)) : Nat) → vAt l b p m < c := by
  have hcl := (valid_at hpc).2.1
  intro d
  have none : ∀ p, cntL (rowL l (p, p)) = 0 := fun p => by rw [row_nil]; rfl
  induction d with
  | zero =>
    intro p m h1 h2 hp h0 hm
    obtain rfl : p = c := by omega
    rw [none] at hm; omega
  | succ d ih =>
    intro p m h1 h2 hp h0 hm
    by_cases he : p = c
    · subst he; rw [none] at hm; omega
    · by_cases hz : m = 0
      · rw [hz, vAt_zero hpb hp (by omega)]; omega
      · obtain ⟨n, g1, g2, g3, g4, g5⟩ := next_gap hp (show p < l.length by omega)
        have hnc : n ≤ c := by
          rcases Nat.lt_or_ge c n with h | h
          · rw [g5 c (by omega) h] at hpc; cases hpc
          · exact h
        have h1c := cnt_one_rune hp (n - (p + 1)) n (by omega) g3 (fun i a b => g5 i a b)
        have hc2 : cntL (rowL l (p, c)) = 1 + cntL (rowL l (n, c)) := by rw [row_app (n := n) (by omega) hnc hcl, cnt_app, h1c]
        obtain ⟨q, k1, k2, k3, k4, k5⟩ := vAt_step (b := b) (p := p) (c := m) (by omega) (by omega) hp hpb
        obtain rfl : q = n := by rw [g1] at k1; omega
        rw [k5]
        exact ih q (m - 1) (by omega) hnc g4 (by omega) (by omega)
end Go.Proofs.YtckfdehendifoaaDoor
/- Texts that differ in letters alone have the same places and lines: plain facts. -/
namespace Go.Proofs.YtckfdehendifoaaDoor
open Go.RowKit
set_option linter.unusedVariables false
set_option linter.unusedSimpArgs false
def alikeB (a b : Int) : Prop := a = b ∨ (65 ≤ a ∧ a ≤ 122 ∧ 65 ≤ b ∧ b ≤ 122)
structure Shp (l m : List UInt8) : Prop where
  len : l.length = m.length
  at_ : ∀ i, alikeB (byL l i) (byL m i)
theorem Shp.drop {l m : List UInt8} (h : Shp l m) (i : Nat) : Shp (l.drop i) (m.drop i) := ⟨by rw [List.length_drop, List.length_drop, h.len], fun j => by rw [byL_drop, byL_drop]; exact h.at_ (i + j)⟩
theorem alike_inn {a b : Int} (h : alikeB a b) : inn a = inn b := by
  rcases h with rfl | ⟨h1, h2, h3, h4⟩
  · rfl
  · rw [inn_f' (by omega), inn_f' (by omega)]
theorem alike_ten {a b : Int} (h : alikeB a b) : a = 10 ↔ b = 10 := by
  rcases h with rfl | ⟨h1, h2, h3, h4⟩
  · exact Iff.rfl
  · omega
theorem alike_size {a b : Int} (h : alikeB a b) : fSize a = fSize b := by
  rcases h with rfl | ⟨h1, h2, h3, h4⟩
  · rfl
  · unfold fSize; rw [if_pos (by omega), if_pos (by omega)]
theorem okb_letter {b0 c : Int} {j : Nat} (h1 : 65 ≤ c) (h2 : c ≤ 122) : okb b0 j c = false := by
  unfold okb
  split
  · rw [Bool.and_eq_false_iff, decide_eq_false_iff_not, decide_eq_false_iff_not]
    unfold fLow fTop
    repeat' split
    all_goals omega
  · rw [decide_eq_false (by omega), Bool.false_and]
theorem alike_okb {b0 c c' : Int} {j : Nat} (h : alikeB c c') : okb b0 j c = okb b0 j c' := by
  rcases h with rfl | ⟨h1, h2, h3, h4⟩
  · rfl
  · rw [okb_letter h1 h2, okb_letter h3 h4]
theorem Shp.beg {l m : List UInt8} (h : Shp l m) : begOk l (min l.length (fSize (byL l 0)).toNat) = begOk m (min m.length (fSize (byL m 0)).toNat) := by
  rw [← alike_size (h.at_ 0), ← h.len]
  rcases h.at_ 0 with h0 | ⟨h1, h2, h3, h4⟩
  · unfold begOk
    rw [h0]
    rw [Bool.eq_iff_iff, List.all_eq_true, List.all_eq_true]
    constructor
    · intro g j hj; have := g j hj; rw [alike_okb (h.at_ j)] at this; exact this
    · intro g j hj; have := g j hj; rw [← alike_okb (h.at_ j)] at this; exact this
  · have e1 : fSize (byL l 0) = 1 := by unfold fSize; rw [if_pos (by omega)]
    have one : ∀ (x : List UInt8) (k : Nat), k ≤ 1 → begOk x k = true := by
      intro x k hk
      unfold begOk
      rw [List.all_eq_true]
      intro j hj
      have := List.mem_range.1 hj
      obtain rfl : j = 0 := by omega
      rfl
    rw [e1, one _ _ (by omega), one _ _ (by omega)]
theorem Shp.sz {l m : List UInt8} (h : Shp l m) : szL l = szL m := by
  unfold szL begA begB
  rw [h.beg, ← h.len, alike_size (h.at_ 0)]
theorem Shp.valid : ∀ (n : Nat) {l m : List UInt8}, l.length ≤ n → Shp l m → validL l = validL m := by
  intro n
  induction n with
  | zero =>
    intro l m hn h
    have h2 := h.len
    rw [List.eq_nil_of_length_eq_zero (by omega : l.length = 0), List.eq_nil_of_length_eq_zero (by omega : m.length = 0)]
  | succ n ih =>
    intro l m hn h
    rw [validL_unfold l, validL_unfold m, ← h.len, ← h.sz]
    by_cases h0 : l.length = 0
    · rw [if_pos h0, if_pos h0]
    · rw [if_neg h0, if_neg h0]
      by_cases hz : szL l = 0
      · rw [if_pos hz, if_pos hz]
      · rw [if_neg hz, if_neg hz]
        exact ih (by rw [List.length_drop]; omega) (h.drop _)
theorem Shp.place {l m : List UInt8} (h : Shp l m) (p : Int) : placeB l p = placeB m p := by
  unfold placeB
  rw [← h.len, alike_inn (h.at_ p.toNat), h.valid _ (Nat.le_refl _)]
theorem Shp.lns {l m : List UInt8} (h : Shp l m) : lns l = lns m := by
  have : ∀ (d j st : Nat), l.length - j ≤ d → lnsF (l.drop j) st j = lnsF (m.drop j) st j := by
    intro d
    induction d with
    | zero =>
      intro j st hd
      rw [lnsF_end l st j (by omega), lnsF_end m st j (by have := h.len; omega)]
    | succ d ih =>
      intro j st hd
      by_cases hj : j < l.length
      · rw [lnsF_step l st j hj, lnsF_step m st j (by have := h.len; omega)]
        by_cases hb : byL l j = 10
        · rw [if_pos hb, if_pos ((alike_ten (h.at_ j)).1 hb), ih (j + 1) (j + 1) (by omega)]
        · rw [if_neg hb, if_neg (fun x => hb ((alike_ten (h.at_ j)).2 x)), ih (j + 1) st (by omega)]
      · exact ih j st (by omega)
  exact this l.length 0 0 (by omega)
theorem Shp.fds {l m : List UInt8} (h : Shp l m) : ∀ i, i ≤ l.length → fds l i = fds m i := by
  intro i
  induction i with
  | zero => intro _; rfl
  | succ i ih =>
    intro hi
    rw [fds_succ l i (by omega), fds_succ m i (by have := h.len; omega), ih (by omega)]
    by_cases hb : byL l i = 10
    · rw [if_pos hb, if_pos ((alike_ten (h.at_ i)).1 hb)]
    · rw [if_neg hb, if_neg (fun x => hb ((alike_ten (h.at_ i)).2 x))]
theorem Shp.of {l m : List UInt8} (h : Shp l m) (p : Int) : ofI l p = ofI m p := by
  unfold ofI
  rw [← h.len, h.valid _ (Nat.le_refl _)]
  split
  · rfl
  · rw [h.fds p.toNat (by omega)]
theorem Shp.ends {l m : List UInt8} (h : Shp l m) (k : Int) : endI l k = endI m k := by
  unfold endI lineI
  rw [h.valid _ (Nat.le_refl _), h.lns]
theorem Shp.next {l m : List UInt8} (h : Shp l m) (p : Int) : nextI l p = nextI m p := by
  unfold nextI
  rw [h.place, ← h.len, (h.drop p.toNat).sz]
theorem Shp.vAt {l m : List UInt8} (h : Shp l m) {e : Nat} (he : placeB l e = true) : ∀ (d p : Nat) (c : Int), e - p ≤ d → p ≤ e → placeB l p = true → vAt l e p c = vAt m e p c := by
  intro d
  induction d with
  | zero => intro p c h1 h2 hp; obtain rfl : p = e := by omega
            rw [vAt_end, vAt_end]
  | succ d ih =>
    intro p c h1 h2 hp
    by_cases hpe : p = e
    · subst hpe; rw [vAt_end, vAt_end]
    · by_cases hc : 0 < c
      · obtain ⟨x, a1, a2, a3, a4, a5⟩ := vAt_step (c := c) hc (show p < e by omega) hp he
        obtain ⟨y, b1, b2, b3, b4, b5⟩ := vAt_step (c := c) hc (show p < e by omega) (by rw [← h.place]; exact hp) (by rw [← h.place]; exact he)
        rw [← h.next, a1] at b1
        obtain rfl : x = y := by omega
        rw [a5, b5]
        exact ih x (c - 1) (by omega) a3 a4
      · rw [vAt_neg l e p c (by omega), vAt_neg m e p c (by omega), vAt_zero he hp h2, vAt_zero (by rw [← h.place]; exact he) (by rw [← h.place]; exact hp) h2]
end Go.Proofs.YtckfdehendifoaaDoor
/- Runes that are looked for: plain facts. -/
namespace Go.Proofs.YtckfdehendifoaaDoor
open Go.RowKit
set_option linter.unusedVariables false
set_option linter.unusedSimpArgs false
def hitB (l r : List UInt8) (i : Nat) : Bool := placeB l i && (runeL l i == r)
def hits (l r : List UInt8) (i d : Nat) : List Nat := (List.range' i d).filter (hitB l r)
def nthO (L : List Nat) (n : Int) : Option Nat := L[(n - 1).toNat]?
theorem hits_zero (l r : List UInt8) (i : Nat) : hits l r i 0 = [] := rfl
theorem hits_succ (l r : List UInt8) (i d : Nat) : hits l r i (d + 1) = if hitB l r i = true then i :: hits l r (i + 1) d else hits l r (i + 1) d := by
  unfold hits; rw [List.range'_succ, List.filter_cons]
theorem hits_last (l r : List UInt8) (i d : Nat) : hits l r i (d + 1) = hits l r i d ++ if hitB l r (i + d) = true then [i + d] else [] := by
  unfold hits; rw [List.range'_concat, List.filter_append]; simp [List.filter_cons]
theorem hits_skip (l r : List UInt8) (en : Nat) : ∀ (d i : Nat), i + d ≤ en → (∀ j : Nat, i ≤ j → j < i + d → placeB l j = false) → hits l r i (en - i) = hits l r (i + d) (en - (i + d))
  | 0, _, _, _ => rfl
  | d + 1, i, h, hp => by
    have e : hitB l r i = false := by unfold hitB; rw [hp i (Nat.le_refl _) (by omega)]; rfl
    rw [show en - i = (en - (i + 1)) + 1 by omega, hits_succ, e, if_neg (by simp), hits_skip l r en d (i + 1) (by omega) (fun j a b => hp j (by omega) (by omega))]
    rw [show i + 1 + d = i + (d + 1) by omega]
theorem hits_cut (l r : List UInt8) (i : Nat) : ∀ (k d : Nat), (∀ j : Nat, i + d ≤ j → j < i + d + k → placeB l j = false) → hits l r i (d + k) = hits l r i d
  | 0, _, _ => rfl
  | k + 1, d, hp => by
    have e : hitB l r (i + (d + k)) = false := by unfold hitB; rw [hp (i + (d + k)) (by omega) (by omega)]; rfl
    rw [← Nat.add_assoc, hits_last, e, if_neg (by simp), List.append_nil]
    exact hits_cut l r i k d (fun j a b => hp j a (by omega))
theorem hits_le (l r : List UInt8) (i d : Nat) : (hits l r i d).length ≤ d := by
  unfold hits; exact Nat.le_trans (List.length_filter_le _ _) (by simp)
theorem hits_mem {l r : List UInt8} {i d q : Nat} (h : q ∈ hits l r i d) : i ≤ q ∧ q < i + d ∧ hitB l r q = true := by
  unfold hits at h
  obtain ⟨h1, h2⟩ := List.mem_filter.1 h
  have := List.mem_range'_1.1 h1
  exact ⟨this.1, this.2, h2⟩
def rightB (k : Int) (r : List UInt8) : Bool := (decide (k = 102) || decide (k = 70) || decide (k = 116) || decide (k = 84)) && isL r && !(r == [10])
def turnK (k : Int) : Int := if k = 102 then 70 else if k = 70 then 102 else if k = 116 then 84 else 116
def seekO (l : List UInt8) (p : Nat) (k : Int) (r : List UInt8) (n : Int) : Option Nat :=
  if k = 70 ∨ k = 84 then nthO (hits l r (lst l p) (p - lst l p)).reverse (max n 1) else nthO (hits l r (p + 1) ((endI l (ofI l p)).toNat - (p + 1))) (max n 1)
def seekI (l : List UInt8) (p : Int) (k : Int) (r : List UInt8) (n : Int) : Int × Bool :=
  if rightB k r = true ∧ placeB l p = true then match seekO l p.toNat k r n with
    | none => (0, false)
    | some q => (if k = 116 then prevI l q else if k = 84 then nextI l q else q, true)
  else (0, false)
theorem cnt_one {l : List UInt8} : ∀ (m : Nat), l.length ≤ m → validL l = true → cntL l = 0 → l = []
  | _, _, hv, h => by
    cases l with
    | nil => rfl
    | cons b r =>
      have := valid_first hv (by simp)
      unfold cntL at h
      have hb : byL (b :: r) 0 = b.toNat := rfl
      rw [hb] at this
      rw [List.filter_cons, this] at h
      simp at h
theorem is_cnt (l : List UInt8) : isL l = decide (countI l = 1) := by
  unfold isL countI
  by_cases h0 : l.length = 0
  · have : l = [] := List.length_eq_zero_iff.1 h0
    subst this; decide
  · by_cases hv : validL l = true
    · rw [if_pos hv]
      have hz := valid_sz hv h0
      have hs := validL_step h0 hz
      rw [hv] at hs
      have hle := szL_le l
      have hsp : l = l.take (szL l) ++ l.drop (szL l) := (List.take_append_drop _ _).symm
      have hc : cntL l = 1 + cntL (l.drop (szL l)) := by
        have h1 : cntL (l.take (szL l)) = 1 := by
          have key : ∀ d, 1 + d ≤ szL l → cntL (l.take (1 + d)) = 1 := by
            intro d
            induction d with
            | zero =>
              intro h
              have := cnt_succ l 0 (by omega)
              rw [List.take_zero] at this
              rw [Nat.add_zero, this, inn_first hz]; rfl
            | succ d ih =>
              intro h
              have := cnt_succ l (1 + d) (by omega)
              rw [show 1 + (d + 1) = (1 + d) + 1 by omega, this, ih (by omega), inn_rest hz (j := 1 + d) (by omega) (by omega)]; rfl
          have := key (szL l - 1) (by omega)
          rw [show 1 + (szL l - 1) = szL l by omega] at this; exact this
        have h2 : cntL l = cntL (l.take (szL l)) + cntL (l.drop (szL l)) := by
          conv => lhs; rw [hsp]
          unfold cntL; rw [List.filter_append, List.length_append]
        omega
      by_cases he : szL l = l.length
      · have : l.drop (szL l) = [] := List.drop_eq_nil_iff.2 (by omega)
        rw [this] at hc
        have : cntL l = 1 := hc
        simp [h0, he, this]
      · have : cntL (l.drop (szL l)) ≠ 0 := by
          intro e
          have := cnt_one _ (Nat.le_refl _) hs.symm e
          have := List.drop_eq_nil_iff.1 this
          omega
        have e1 : ¬ (cntL l : Int) = 1 := by omega
        simp [h0, he, e1]
    · have hv' : validL l = false := by simpa using hv
      rw [if_neg hv]
      by_cases he : szL l = l.length
      · have : validL l = true := by
          rw [validL_step h0 (by omega), List.drop_eq_nil_iff.2 (by omega)]; rfl
        rw [this] at hv'; exact absurd hv' (by simp)
      · simp [he]

end Go.Proofs.YtckfdehendifoaaDoor
/- The contract of utf.Rune. -/
namespace Go.Proofs.YtckfdehendifoaaDoor
open Go.RowKit
set_option linter.unusedVariables false
set_option linter.unusedSimpArgs false
set_option maxHeartbeats 4000000 in
set_option maxRecDepth 100000 in
theorem rune_c (s : ByteArray) (p : Int) (w : World) (hs : s.size ≤ 1152921504606846976) : Calls Tryd.prog 18 #[.string s, .int .i64 p] w fun e w' => e = .returned (.string ⟨(runeL (ls s) p).toArray⟩) ∧ Ext w w' := by
  by_cases hn : nextI (ls s) p < 0
  · have Hr := Lib.hid (rune_bad hn)
    go_enter Tryd.func18, Tryd.ntmps18
    go_wp2_with (first | (go_at_call 25; refine (next_c _ _ _ hs).mono ?_; rintro e w1 ⟨rfl, hx1⟩))
    go_ret
    exact ⟨by rw [Hr.out]; rfl, (by (repeat (first | exact Ext.refl _ | exact ‹Ext _ _› | refine Ext.alloc ?_ _ | refine Ext.drew ?_ | refine Ext.drewN ?_ _ | (refine Ext.setCell ?_ (by first | omega | (simp; done) | (simp; omega)) _) | refine Ext.trans ?_ ‹Ext _ _›)))⟩
  · have h0 : 0 ≤ nextI (ls s) p := by omega
    obtain ⟨k, n, rfl, h1, h2, h3, h4⟩ := rune_ok s p h0
    have H4 := Lib.hid h4
    clear hn h0 h4
    go_enter Tryd.func18, Tryd.ntmps18
    go_wp2_with (first | (go_at_call 25; refine (next_c _ _ _ hs).mono ?_; rintro e w1 ⟨rfl, hx1⟩))
    go_ret
    exact ⟨rets H4.out.symm, (by (repeat (first | exact Ext.refl _ | exact ‹Ext _ _› | refine Ext.alloc ?_ _ | refine Ext.drew ?_ | refine Ext.drewN ?_ _ | (refine Ext.setCell ?_ (by first | omega | (simp; done) | (simp; omega)) _) | refine Ext.trans ?_ ‹Ext _ _›)))⟩

end Go.Proofs.YtckfdehendifoaaDoor
/- The contracts of the reference calamusref03. -/
namespace Go.Proofs.YtckfdehendifoaaDoor
open Go.RowKit
set_option linter.unusedVariables false
set_option linter.unusedSimpArgs false
theorem bytes_ret {a : List UInt8} {b : List UInt8} (h : a = b) : Ending.returned (.string ⟨a.toArray⟩) = .returned (.string ⟨b.toArray⟩) := by rw [h]
theorem bytes_retE {a : ByteArray} {b : List UInt8} (h : a.data.toList = b) : Ending.returned (.string a) = .returned (.string ⟨b.toArray⟩) := by rw [← h, Lib.mk_data]
set_option maxHeartbeats 4000000 in
set_option maxRecDepth 100000 in
theorem rbytes_c (n : Int) (w : World) : Calls Tryd.prog 82 #[.int .i64 n] w fun e w' => e = .returned (.string ⟨(bytesL n).toArray⟩) ∧ Ext w w' := by
  have k1 := fun (W : World) (a : Int) => conv_new (P := Tryd.prog) W 74 9 5 [a] Tryd.underlying74 Tryd.underlying5 Tryd.underlying9 #[.int .u8 a] 1 rfl rfl
  have k2 := fun (W : World) (a b : Int) => conv_new (P := Tryd.prog) W 74 9 5 [a, b] Tryd.underlying74 Tryd.underlying5 Tryd.underlying9 #[.int .u8 a, .int .u8 b] 2 rfl rfl
  have k3 := fun (W : World) (a b c : Int) => conv_new (P := Tryd.prog) W 74 9 5 [a, b, c] Tryd.underlying74 Tryd.underlying5 Tryd.underlying9 #[.int .u8 a, .int .u8 b, .int .u8 c] 3 rfl rfl
  have k4 := fun (W : World) (a b c d : Int) => conv_new (P := Tryd.prog) W 74 9 5 [a, b, c, d] Tryd.underlying74 Tryd.underlying5 Tryd.underlying9 #[.int .u8 a, .int .u8 b, .int .u8 c, .int .u8 d] 4 rfl rfl
  go_enter Tryd.func82, Tryd.ntmps82
  go_wp2
  all_goals clear k1 k2 k3 k4
  all_goals (go_ret; refine ⟨bytes_retE ?_, (by (repeat (first | exact Ext.refl _ | exact ‹Ext _ _› | refine Ext.alloc ?_ _ | refine Ext.drew ?_ | refine Ext.drewN ?_ _ | (refine Ext.setCell ?_ (by first | omega | (simp; done) | (simp; omega)) _) | refine Ext.trans ?_ ‹Ext _ _›)))⟩; unfold bytesL)
  all_goals first
    | (rw [if_pos (by omega)]; done)
    | (rw [if_neg (by omega), if_pos (by omega)]; done)
    | (rw [if_neg (by omega), if_neg (by omega), if_pos (by omega)]; done)
    | (rw [if_neg (by omega), if_neg (by omega), if_neg (by omega), if_pos (by omega)]; done)
    | (rw [if_neg (by omega), if_neg (by omega), if_neg (by omega), if_neg (by omega)]; done)

set_option maxHeartbeats 4000000 in
set_option maxRecDepth 100000 in
theorem rnumber_2 (s : ByteArray) (hc : s.size = 2) (w : World) : Calls Tryd.prog 83 #[.string s] w fun e w' => e = .returned (.int .i64 (numI (ls s))) ∧ Ext w w' := by
  have HN := Lib.hid (numI_2 (l := ls s) (by rw [ls_len]; exact hc))
  have H0 := Lib.hid (byL_eq s 0 (by omega))
  have y0 : 0 ≤ ((s[0]'(by omega)).toNat : Int) ∧ ((s[0]'(by omega)).toNat : Int) ≤ 255 := by have := (s[0]'(by omega)).toNat_lt; omega
  have H1 := Lib.hid (byL_eq s 1 (by omega))
  have y1 : 0 ≤ ((s[1]'(by omega)).toNat : Int) ∧ ((s[1]'(by omega)).toNat : Int) ≤ 255 := by have := (s[1]'(by omega)).toNat_lt; omega
  go_enter Tryd.func83, Tryd.ntmps83
  go_wp2
  go_rounds 3
  all_goals (go_ret; refine ⟨ret1 ?_, (by (repeat (first | exact Ext.refl _ | exact ‹Ext _ _› | refine Ext.alloc ?_ _ | refine Ext.drew ?_ | refine Ext.drewN ?_ _ | (refine Ext.setCell ?_ (by first | omega | (simp; done) | (simp; omega)) _) | refine Ext.trans ?_ ‹Ext _ _›)))⟩; rw [HN.out, ← H0.out, ← H1.out]; unfold num2; repeat' (first | omega | split))

set_option maxHeartbeats 4000000 in
set_option maxRecDepth 100000 in
theorem rnumber_3 (s : ByteArray) (hc : s.size = 3) (w : World) : Calls Tryd.prog 83 #[.string s] w fun e w' => e = .returned (.int .i64 (numI (ls s))) ∧ Ext w w' := by
  have HN := Lib.hid (numI_3 (l := ls s) (by rw [ls_len]; exact hc))
  have H0 := Lib.hid (byL_eq s 0 (by omega))
  have y0 : 0 ≤ ((s[0]'(by omega)).toNat : Int) ∧ ((s[0]'(by omega)).toNat : Int) ≤ 255 := by have := (s[0]'(by omega)).toNat_lt; omega
  have H1 := Lib.hid (byL_eq s 1 (by omega))
  have y1 : 0 ≤ ((s[1]'(by omega)).toNat : Int) ∧ ((s[1]'(by omega)).toNat : Int) ≤ 255 := by have := (s[1]'(by omega)).toNat_lt; omega
  have H2 := Lib.hid (byL_eq s 2 (by omega))
  have y2 : 0 ≤ ((s[2]'(by omega)).toNat : Int) ∧ ((s[2]'(by omega)).toNat : Int) ≤ 255 := by have := (s[2]'(by omega)).toNat_lt; omega
  go_enter Tryd.func83, Tryd.ntmps83
  go_wp2
  go_rounds 4
  all_goals (go_ret; refine ⟨ret1 ?_, (by (repeat (first | exact Ext.refl _ | exact ‹Ext _ _› | refine Ext.alloc ?_ _ | refine Ext.drew ?_ | refine Ext.drewN ?_ _ | (refine Ext.setCell ?_ (by first | omega | (simp; done) | (simp; omega)) _) | refine Ext.trans ?_ ‹Ext _ _›)))⟩; rw [HN.out, ← H0.out, ← H1.out, ← H2.out]; unfold num3; repeat' (first | omega | split))

set_option maxHeartbeats 4000000 in
set_option maxRecDepth 100000 in
theorem rnumber_4 (s : ByteArray) (hc : s.size = 4) (w : World) : Calls Tryd.prog 83 #[.string s] w fun e w' => e = .returned (.int .i64 (numI (ls s))) ∧ Ext w w' := by
  have HN := Lib.hid (numI_4 (l := ls s) (by rw [ls_len]; exact hc))
  have H0 := Lib.hid (byL_eq s 0 (by omega))
  have y0 : 0 ≤ ((s[0]'(by omega)).toNat : Int) ∧ ((s[0]'(by omega)).toNat : Int) ≤ 255 := by have := (s[0]'(by omega)).toNat_lt; omega
  have H1 := Lib.hid (byL_eq s 1 (by omega))
  have y1 : 0 ≤ ((s[1]'(by omega)).toNat : Int) ∧ ((s[1]'(by omega)).toNat : Int) ≤ 255 := by have := (s[1]'(by omega)).toNat_lt; omega
  have H2 := Lib.hid (byL_eq s 2 (by omega))
  have y2 : 0 ≤ ((s[2]'(by omega)).toNat : Int) ∧ ((s[2]'(by omega)).toNat : Int) ≤ 255 := by have := (s[2]'(by omega)).toNat_lt; omega
  have H3 := Lib.hid (byL_eq s 3 (by omega))
  have y3 : 0 ≤ ((s[3]'(by omega)).toNat : Int) ∧ ((s[3]'(by omega)).toNat : Int) ≤ 255 := by have := (s[3]'(by omega)).toNat_lt; omega
  go_enter Tryd.func83, Tryd.ntmps83
  go_wp2
  go_rounds 5
  all_goals (go_ret; refine ⟨ret1 ?_, (by (repeat (first | exact Ext.refl _ | exact ‹Ext _ _› | refine Ext.alloc ?_ _ | refine Ext.drew ?_ | refine Ext.drewN ?_ _ | (refine Ext.setCell ?_ (by first | omega | (simp; done) | (simp; omega)) _) | refine Ext.trans ?_ ‹Ext _ _›)))⟩; rw [HN.out, ← H0.out, ← H1.out, ← H2.out, ← H3.out]; unfold num4; repeat' (first | omega | split))

set_option maxHeartbeats 4000000 in
set_option maxRecDepth 100000 in
theorem rnumber_1 (s : ByteArray) (hc : s.size = 1) (w : World) : Calls Tryd.prog 83 #[.string s] w fun e w' => e = .returned (.int .i64 (numI (ls s))) ∧ Ext w w' := by
  have HN := Lib.hid (numI_1 (l := ls s) (by rw [ls_len]; exact hc))
  have H0 := Lib.hid (byL_eq s 0 (by omega))
  have y0 : 0 ≤ ((s[0]'(by omega)).toNat : Int) ∧ ((s[0]'(by omega)).toNat : Int) ≤ 255 := by have := (s[0]'(by omega)).toNat_lt; omega
  go_enter Tryd.func83, Tryd.ntmps83
  go_wp2
  all_goals (go_ret; refine ⟨ret1 ?_, (by (repeat (first | exact Ext.refl _ | exact ‹Ext _ _› | refine Ext.alloc ?_ _ | refine Ext.drew ?_ | refine Ext.drewN ?_ _ | (refine Ext.setCell ?_ (by first | omega | (simp; done) | (simp; omega)) _) | refine Ext.trans ?_ ‹Ext _ _›)))⟩; rw [HN.out, ← H0.out])
theorem rnumber_c (s : ByteArray) (h1 : 1 ≤ s.size) (h2 : s.size ≤ 4) (w : World) : Calls Tryd.prog 83 #[.string s] w fun e w' => e = .returned (.int .i64 (numI (ls s))) ∧ Ext w w' := by
  have hc : s.size = 1 ∨ s.size = 2 ∨ s.size = 3 ∨ s.size = 4 := by omega
  rcases hc with hc | hc | hc | hc
  · exact rnumber_1 s hc w
  · exact rnumber_2 s hc w
  · exact rnumber_3 s hc w
  · exact rnumber_4 s hc w

theorem is_bool (s : ByteArray) (h1 : 1 ≤ s.size) (h2 : s.size ≤ 4) : (bytesL (numI (ls s)) == s.toList) = isL (ls s) := by
  rw [Lib.toList_data]
  exact is_eq (ls s) (by rw [ls_len]; exact h1) (by rw [ls_len]; exact h2)
set_option maxHeartbeats 4000000 in
set_option maxRecDepth 100000 in
theorem ris_c (s : ByteArray) (w : World) : Calls Tryd.prog 70 #[.string s] w fun e w' => e = .returned (.bool (isL (ls s))) ∧ Ext w w' := by
  by_cases h1 : 1 ≤ s.size
  · by_cases h2 : s.size ≤ 4
    · have HI := Lib.hid (is_bool s h1 h2)
      go_enter Tryd.func70, Tryd.ntmps70
      go_wp2_with (first | (go_at_call 82; refine (rbytes_c _ _).mono ?_; rintro e w1 ⟨rfl, hx1⟩) | (go_at_call 83; refine (rnumber_c _ h1 h2 _).mono ?_; rintro e w1 ⟨rfl, hx1⟩))
      go_ret
      exact ⟨retb HI.out, (by (repeat (first | exact Ext.refl _ | exact ‹Ext _ _› | refine Ext.alloc ?_ _ | refine Ext.drew ?_ | refine Ext.drewN ?_ _ | (refine Ext.setCell ?_ (by first | omega | (simp; done) | (simp; omega)) _) | refine Ext.trans ?_ ‹Ext _ _›)))⟩
    · have h3 : 5 ≤ s.size := by omega
      clear h2
      have HI : Hid (isL (ls s) = false) := Lib.hid (is_long _ (by rw [ls_len]; omega))
      go_enter Tryd.func70, Tryd.ntmps70
      go_wp2_with (first | (go_at_call 82; refine (rbytes_c _ _).mono ?_; rintro e w1 ⟨rfl, hx1⟩))
      go_ret
      exact ⟨retb HI.out.symm, (by (repeat (first | exact Ext.refl _ | exact ‹Ext _ _› | refine Ext.alloc ?_ _ | refine Ext.drew ?_ | refine Ext.drewN ?_ _ | (refine Ext.setCell ?_ (by first | omega | (simp; done) | (simp; omega)) _) | refine Ext.trans ?_ ‹Ext _ _›)))⟩
  · have h3 : s.size = 0 := by omega
    clear h1
    have HI : Hid (isL (ls s) = false) := Lib.hid (is_none _ (by rw [ls_len]; omega))
    go_enter Tryd.func70, Tryd.ntmps70
    go_wp2_with (first | (go_at_call 82; refine (rbytes_c _ _).mono ?_; rintro e w1 ⟨rfl, hx1⟩))
    go_ret
    exact ⟨retb HI.out.symm, (by (repeat (first | exact Ext.refl _ | exact ‹Ext _ _› | refine Ext.alloc ?_ _ | refine Ext.drew ?_ | refine Ext.drewN ?_ _ | (refine Ext.setCell ?_ (by first | omega | (simp; done) | (simp; omega)) _) | refine Ext.trans ?_ ‹Ext _ _›)))⟩

end Go.Proofs.YtckfdehendifoaaDoor
/- Slices of whole numbers: what is read, and what a call has made itself. -/
namespace Go.Proofs.YtckfdehendifoaaDoor
open Go.RowKit
set_option linter.unusedVariables false
set_option linter.unusedSimpArgs false
def RdI (w : World) (a : Option Addr) (xs : List Int) : Prop := ∀ j, j < xs.length → ∃ g o, a = some ⟨g, o, none⟩ ∧ w.cell? ⟨g, o + j, none⟩ = some (.int .i64 (xs.getD j 0))
theorem RdI.ext {w w' : World} {a : Option Addr} {xs : List Int} (h : RdI w a xs) (hx : Ext w w') : RdI w' a xs := by
  intro j hj
  obtain ⟨g, o, ha, hc⟩ := h j hj
  exact ⟨g, o, ha, by rw [Below.cell hx (World.block_lt_of_cell? w _ hc)]; exact hc⟩
theorem RdI.take {w : World} {a : Option Addr} {xs : List Int} (h : RdI w a xs) (n : Nat) : RdI w a (xs.take n) := by
  intro j hj
  have hl : j < xs.length := by rw [List.length_take] at hj; omega
  obtain ⟨g, o, ha, hc⟩ := h j hl
  refine ⟨g, o, ha, ?_⟩
  rw [hc]
  have : j < n := by rw [List.length_take] at hj; omega
  simp [List.getD_eq_getElem?_getD, List.getElem?_take, this]
def OwnI (base : Nat) (w : World) (a : Option Addr) (cap : Nat) (xs : List Int) : Prop := w.ownsRow base 3 1 (.slice a xs.length cap) xs.length (xs.map (Value.int .i64))
theorem OwnI.nil (base : Nat) (w : World) : OwnI base w none 0 [] := World.ownsRow_nil _ _ _ _
theorem OwnI.kept {base : Nat} {w w' : World} {row : Option Nat} {a : Option Addr} {cap : Nat} {xs : List Int} (h : OwnI base w a cap xs) (hg : w.grownBy w' row) (hne : ∀ g, row = some g → ∀ p, a = some p → p.block ≠ g) : OwnI base w' a cap xs := by
  refine World.ownsRow.kept h hg ?_
  cases a with
  | none => exact .inl rfl
  | some p => right; intro e; exact hne _ e.symm p rfl rfl
theorem OwnI.ext {base : Nat} {w w' : World} {a : Option Addr} {cap : Nat} {xs : List Int} (h : OwnI base w a cap xs) (hx : Ext w w') : OwnI base w' a cap xs :=
  World.ownsRow.kept h ⟨hx.os, hx.tape, hx.output, hx.size, fun k hk _ => Below.block hx k hk⟩ (row := none) (by cases a <;> simp [Value.ownBlock])
theorem OwnI.le {base base' : Nat} {w : World} {a : Option Addr} {cap : Nat} {xs : List Int} (h : OwnI base w a cap xs) (hb : base' ≤ base) : OwnI base' w a cap xs := Go.Joins.ownsRow_le h hb
theorem OwnI.rd {base : Nat} {w : World} {a : Option Addr} {cap : Nat} {xs : List Int} (h : OwnI base w a cap xs) : RdI w a xs := by
  intro j hj
  have hs := Go.Joins.ownsRow_form h (by omega)
  obtain ⟨g, c, hv⟩ := hs
  simp only [Value.slice.injEq] at hv
  obtain ⟨rfl, -, rfl⟩ := hv
  refine ⟨g, 0, rfl, ?_⟩
  rw [Nat.zero_add, World.ownsRow.cellAt h j (by omega)]
  simp [List.getD_eq_getElem?_getD, List.getElem?_map, List.getElem?_eq_getElem hj]
theorem OwnI.lt {base : Nat} {w : World} {a : Option Addr} {cap : Nat} {xs : List Int} (h : OwnI base w a cap xs) : ∀ p, a = some p → base ≤ p.block ∧ p.block < w.heap.size := by
  rintro p rfl
  exact World.ownsRow.lt h p.block rfl
theorem OwnI.lit {base : Nat} (W : World) (hb : base ≤ W.heap.size) (xs : List Int) (cs : Array Value) (hc : cs = (xs.map (Value.int .i64)).toArray) (hm : xs.length ≤ 1000) : OwnI base (W.alloc (.cells cs 3)) (some ⟨W.heap.size, 0, none⟩) xs.length xs := by
  subst hc
  have := World.ownsRow_lit (base := base) (e := 3) (size := 1) W (xs.map (Value.int .i64)).toArray xs.length hb (by unfold maxLen; omega) (by simp)
  simpa [OwnI] using this
theorem Tryd.infoInt : (Tryd.prog.info? 3).map (fun i => (i.zero, i.size, i.bytes)) = some (some (.int .i64 0), 1, 8) := by kernel_rfl
theorem app_i {ops : Array Oper} {rest : List Oper} {o : Oper} {act : Act} {Q : Exit → Act → World → Prop} (w0 W : World) (hgd : o.guard = none) (s x : Operand)
    (ho : o.op = .call { callee := .builtin .append, args := #[s, x], argTypes := #[55, 55] }) (a : Option Addr) (cap : Nat) (xs : List Int) (y : Int)
    (hs : act.eval s = .slice a xs.length cap) (hown : OwnI w0.heap.size W a cap xs) (he : Ext w0 W) (hx : act.eval x = .slice (some ⟨W.heap.size, 0, none⟩) 1 1) (hb : xs.length ≤ 1099511627776)
    (h : ∀ a' cap' w', OwnI w0.heap.size w' a' cap' (xs ++ [y]) → Ext w0 w' → wpList Tryd.prog ops Q rest (act.put o.dst (.slice a' (xs.length + 1) cap')) w') :
    wpList Tryd.prog ops Q (o :: rest) act (W.alloc (.cells #[.int .i64 y] 3)) := by
  obtain ⟨i0, hi, hz0, hz1, hz2⟩ := info_parts Tryd.infoInt
  refine wpList_append_own _ hgd s x 55 ho w0.heap.size 3 i0 (.int .i64 0) 1 8 Tryd.underlying55 hi hz0 hz1 hz2 rfl (by decide) _ xs.length (xs.map (Value.int .i64)) hs (hown.alloc _) ⟨W.heap.size, 0, none⟩ 1 1 [.int .i64 y] hx rfl ?_ (by simp [Value.oneCell']) (by unfold maxLen; omega) (by omega) (by have := he.size; simp; omega) ?_
  · intro j u hj
    match j, hj with
    | 0, hj =>
      simp at hj; subst hj
      have := cell_of_row (W.alloc (.cells #[.int .i64 y] 3)) W.heap.size 0 #[.int .i64 y] 3 (0, 0) (heap_alloc_new W _)
      simp [Addr.add]
  · intro v' w' hown' hg hnil
    obtain ⟨g, c, rfl⟩ := Go.Joins.ownsRow_form hown' (by omega)
    have e1 : Ext w0 w' := by
      refine Below.trans (Below.alloc he he.size (.cells #[.int .i64 y] 3)) ⟨hg.os, hg.tape, hg.output, hg.size, fun k hk => hg.block k (by have := he.size; simp; omega) ?_⟩
      intro e
      cases a with
      | none => simp [Value.ownBlock] at e
      | some p => have := hown.lt p rfl; simp [Value.ownBlock] at e; omega
    refine h (some ⟨g, 0, none⟩) c w' ?_ e1
    simpa [OwnI] using hown'

end Go.Proofs.YtckfdehendifoaaDoor
/- The contracts of the reference calamusref03, by its places. -/
namespace Go.Proofs.YtckfdehendifoaaDoor
open Go.RowKit
set_option linter.unusedVariables false
set_option linter.unusedSimpArgs false
theorem is_ext (s : ByteArray) (i n : Nat) (hn : 1 ≤ n) (hi : i + n ≤ s.size) : isL (ls (s.extract i (i + n))) = decide (szL ((ls s).drop i) = n) := by
  rw [ls_ext2, Nat.add_sub_cancel_left]
  exact is_take _ n hn (by rw [List.length_drop, ls_len]; omega)
def upTo (l : List UInt8) (i : Nat) : List Int := (plcTo l i).map Int.ofNat ++ [(i : Int)]
theorem upTo_len (l : List UInt8) (i : Nat) : (upTo l i).length ≤ i + 1 := by unfold upTo; have := plcTo_len l i; simp; omega
theorem upTo_next (l : List UInt8) (i n : Nat) (hn : szL (l.drop i) = n) (h0 : n ≠ 0) : upTo l i ++ [(i : Int) + n] = upTo l (i + n) := by
  unfold upTo; rw [plcTo_add l i n hn h0]; simp
theorem upTo_end (l : List UInt8) (h : validL l = true) : upTo l l.length = splitI l := by rw [splitI_ok h]; rfl
set_option maxHeartbeats 4000000 in
set_option maxRecDepth 100000 in
theorem rsplit_c (s : ByteArray) (w : World) (hs : s.size ≤ 1099511627775) : Calls Tryd.prog 61 #[.string s] w fun e w' => ∃ a cap, e = .returned (.slice a (splitI (ls s)).length cap) ∧ OwnI w.heap.size w' a cap (splitI (ls s)) ∧ Ext w w' := by
  go_enter Tryd.func61, Tryd.ntmps61
  go_wp2
  go_loopw [3, 4] (fun v i wr => ∃ (k : Nat) (a : Option Addr) (cap : Nat), k ≤ s.size ∧ i = .int .i64 k ∧ v = .slice a (upTo (ls s) k).length cap ∧ OwnI w.heap.size wr a cap (upTo (ls s) k) ∧ validL ((ls s).drop k) = validL (ls s) ∧ Ext w wr) (fun _ i _ => s.size - (intOf i).toNat)
  case atStart => exact ⟨0, some ⟨w.heap.size, 0, none⟩, 1, by omega, rfl, rfl, OwnI.lit w (Nat.le_refl _) [0] _ rfl (by simp), by simp, (by (repeat (first | exact Ext.refl _ | exact ‹Ext _ _› | refine Ext.alloc ?_ _ | refine Ext.drew ?_ | refine Ext.drewN ?_ _ | (refine Ext.setCell ?_ (by first | omega | (simp; done) | (simp; omega)) _) | refine Ext.trans ?_ ‹Ext _ _›)))⟩
  case round =>
    obtain ⟨k, a, cap, hk, rfl, rfl, hown, hok, hx⟩ := hrel
    have Hok := Lib.hid hok
    have Hown := Lib.hid hown
    clear hok hown
    have hul := upTo_len (ls s) k
    by_cases hlt : k < s.size
    · obtain ⟨wo, rfl⟩ : ∃ wo : World, wo = wr := ⟨_, rfl⟩
      go_wp2
      go_loopw [5] (fun v w2 => ∃ n : Nat, 1 ≤ n ∧ n ≤ 5 ∧ v = .int .i64 n ∧ (szL ((ls s).drop k) = 0 ∨ n ≤ szL ((ls s).drop k)) ∧ Ext wo w2) (fun v _ => 5 - (intOf v).toNat)
      case atStart => exact ⟨1, by omega, by omega, rfl, by omega, (by (repeat (first | exact Ext.refl _ | exact ‹Ext _ _› | refine Ext.alloc ?_ _ | refine Ext.drew ?_ | refine Ext.drewN ?_ _ | (refine Ext.setCell ?_ (by first | omega | (simp; done) | (simp; omega)) _) | refine Ext.trans ?_ ‹Ext _ _›)))⟩
      case round =>
        obtain ⟨n, hn1, hn5, rfl, hz, hx2⟩ := hrel
        have hlu := upTo_len (ls s) k
        go_wp2_with (first | (go_at_call 70; refine (ris_c _ _).mono ?_; rintro e w1 ⟨rfl, hx1⟩) | (at_builtin; refine app_i w _ rfl _ _ rfl _ _ (upTo (ls s) k) _ rfl (Hown.out.ext (by (repeat (first | exact Ext.refl _ | exact ‹Ext _ _› | refine Ext.alloc ?_ _ | refine Ext.drew ?_ | refine Ext.drewN ?_ _ | (refine Ext.setCell ?_ (by first | omega | (simp; done) | (simp; omega)) _) | refine Ext.trans ?_ ‹Ext _ _›)))) (by (repeat (first | exact Ext.refl _ | exact ‹Ext _ _› | refine Ext.alloc ?_ _ | refine Ext.drew ?_ | refine Ext.drewN ?_ _ | (refine Ext.setCell ?_ (by first | omega | (simp; done) | (simp; omega)) _) | refine Ext.trans ?_ ‹Ext _ _›))) rfl (by omega) ?_; intro a2 cap2 w2 hown2 hx2))
        all_goals (try simp only [Bool.not_eq_true', Bool.not_eq_false'] at *)
        · go_roundw
          case rel =>
            have hi : isL (ls (s.extract k (k + n))) = false := by rename_i h; rcases h with h | h; (exfalso; omega); exact h
            rw [is_ext s k n hn1 (by omega), decide_eq_false_iff_not] at hi
            exact ⟨n + 1, by omega, by omega, by go_num, by omega, (by (repeat (first | exact Ext.refl _ | exact ‹Ext _ _› | refine Ext.alloc ?_ _ | refine Ext.drew ?_ | refine Ext.drewN ?_ _ | (refine Ext.setCell ?_ (by first | omega | (simp; done) | (simp; omega)) _) | refine Ext.trans ?_ ‹Ext _ _›)))⟩
          case measure => simp [intOf]; omega
        · have hi : isL (ls (s.extract k (k + n))) = true := by
            have h : (k : Int) + n ≤ s.size ∧ isL (ls (s.extract k (k + n))) = true := by assumption
            exact h.2
          rw [is_ext s k n hn1 (by omega), decide_eq_true_eq] at hi
          go_roundw
          case rel =>
            have hnx := upTo_next (ls s) k n hi (by omega)
            refine ⟨k + n, a2, cap2, by omega, by go_num, ?_, ?_, ?_, (by (repeat (first | exact Ext.refl _ | exact ‹Ext _ _› | refine Ext.alloc ?_ _ | refine Ext.drew ?_ | refine Ext.drewN ?_ _ | (refine Ext.setCell ?_ (by first | omega | (simp; done) | (simp; omega)) _) | refine Ext.trans ?_ ‹Ext _ _›)))⟩
            · rw [← hnx]; simp
            · rw [← hnx]; exact hown2
            · rw [← Hok.out, validL_step (l := (ls s).drop k) (by rw [List.length_drop, ls_len]; omega) (by omega), hi, List.drop_drop]
          case measure => simp [intOf]; omega
        · go_roundw
          case rel =>
            have hz2 := szL_le ((ls s).drop k)
            rw [List.length_drop, ls_len] at hz2
            exact ⟨n + 1, by omega, by omega, by go_num, by omega, (by (repeat (first | exact Ext.refl _ | exact ‹Ext _ _› | refine Ext.alloc ?_ _ | refine Ext.drew ?_ | refine Ext.drewN ?_ _ | (refine Ext.setCell ?_ (by first | omega | (simp; done) | (simp; omega)) _) | refine Ext.trans ?_ ‹Ext _ _›)))⟩
          case measure => simp [intOf]; omega
        · have hz4 := szL_hi ((ls s).drop k)
          have hv : validL (ls s) = false := by rw [← Hok.out]; exact validL_bad (by rw [List.length_drop, ls_len]; omega) (by omega)
          go_ret
          exact ⟨none, 0, by rw [splitI_bad hv]; rfl, by rw [splitI_bad hv]; exact OwnI.nil _ _, (by (repeat (first | exact Ext.refl _ | exact ‹Ext _ _› | refine Ext.alloc ?_ _ | refine Ext.drew ?_ | refine Ext.drewN ?_ _ | (refine Ext.setCell ?_ (by first | omega | (simp; done) | (simp; omega)) _) | refine Ext.trans ?_ ‹Ext _ _›)))⟩
    · have hk' : k = s.size := by omega
      subst hk'
      have hv : validL (ls s) = true := by rw [← Hok.out, ← ls_len s, List.drop_length]; exact validL_nil
      have He : Hid (upTo (ls s) s.size = splitI (ls s)) := Lib.hid (by rw [← ls_len s]; exact upTo_end _ hv)
      go_wp2
      go_ret
      exact ⟨a, cap, by first | rfl | (simp; done) | (rw [← He.out]; rfl) | (simp [He.out]; done), by rw [← He.out]; exact Hown.out, (by (repeat (first | exact Ext.refl _ | exact ‹Ext _ _› | refine Ext.alloc ?_ _ | refine Ext.drew ?_ | refine Ext.drewN ?_ _ | (refine Ext.setCell ?_ (by first | omega | (simp; done) | (simp; omega)) _) | refine Ext.trans ?_ ‹Ext _ _›)))⟩

set_option maxHeartbeats 4000000 in
set_option maxRecDepth 100000 in
theorem rfind_c (a : Option Addr) (cap : Nat) (xs : List Int) (p : Int) (w : World) (hr : RdI w a xs) (hl : xs.length ≤ 1152921504606846976) : Calls Tryd.prog 60 #[.slice a xs.length cap, .int .i64 p] w fun e w' => e = .returned (.int .i64 (findF xs p 0)) ∧ Ext w w' := by
  have HR := Lib.hid hr
  clear hr
  go_enter Tryd.func60, Tryd.ntmps60
  go_wp2
  go_loopw [5] (fun i wr => ∃ k : Nat, k ≤ xs.length ∧ i = .int .i64 k ∧ findF (xs.drop k) p k = findF xs p 0 ∧ Ext w wr) (fun i _ => xs.length - (intOf i).toNat)
  case atStart => exact ⟨0, by omega, rfl, by simp, (by (repeat (first | exact Ext.refl _ | exact ‹Ext _ _› | refine Ext.alloc ?_ _ | refine Ext.drew ?_ | refine Ext.drewN ?_ _ | (refine Ext.setCell ?_ (by first | omega | (simp; done) | (simp; omega)) _) | refine Ext.trans ?_ ‹Ext _ _›)))⟩
  case round =>
    obtain ⟨k, hk, rfl, hok, hx⟩ := hrel
    have Hok := Lib.hid hok
    clear hok
    by_cases hlt : k < xs.length
    · have Hs := Lib.hid (findF_step xs p k hlt)
      obtain ⟨g, o, rfl, hc⟩ := (HR.out.ext hx) k hlt
      go_wp2
      all_goals (try simp only [beq_iff_eq, beq_eq_false_iff_ne] at *)
      · go_ret
        refine ⟨ret1 ?_, (by (repeat (first | exact Ext.refl _ | exact ‹Ext _ _› | refine Ext.alloc ?_ _ | refine Ext.drew ?_ | refine Ext.drewN ?_ _ | (refine Ext.setCell ?_ (by first | omega | (simp; done) | (simp; omega)) _) | refine Ext.trans ?_ ‹Ext _ _›)))⟩
        rw [← Hok.out, Hs.out, if_pos (by assumption)]
      · go_roundw
        case rel =>
          refine ⟨k + 1, by omega, by go_num, ?_, (by (repeat (first | exact Ext.refl _ | exact ‹Ext _ _› | refine Ext.alloc ?_ _ | refine Ext.drew ?_ | refine Ext.drewN ?_ _ | (refine Ext.setCell ?_ (by first | omega | (simp; done) | (simp; omega)) _) | refine Ext.trans ?_ ‹Ext _ _›)))⟩
          rw [← Hok.out, Hs.out, if_neg (by assumption)]
        case measure => simp [intOf]; omega
    · have Hs := Lib.hid (findF_end xs p k (by omega))
      go_wp2
      go_ret
      exact ⟨ret1 (by rw [← Hok.out, Hs.out]), (by (repeat (first | exact Ext.refl _ | exact ‹Ext _ _› | refine Ext.alloc ?_ _ | refine Ext.drew ?_ | refine Ext.drewN ?_ _ | (refine Ext.setCell ?_ (by first | omega | (simp; done) | (simp; omega)) _) | refine Ext.trans ?_ ‹Ext _ _›)))⟩

set_option maxHeartbeats 4000000 in
set_option maxRecDepth 100000 in
theorem rvalid_c (s : ByteArray) (w : World) (hs : s.size ≤ 1099511627775) : Calls Tryd.prog 31 #[.string s] w fun e w' => e = .returned (.bool (validL (ls s))) ∧ Ext w w' := by
  have hsl := splitI_len (ls s)
  rw [ls_len] at hsl
  have Hv : Hid (decide (0 < (splitI (ls s)).length) = validL (ls s)) := Lib.hid (by
    unfold splitI plcs
    rcases Bool.eq_false_or_eq_true (validL (ls s)) with h | h <;> simp [h])
  go_enter Tryd.func31, Tryd.ntmps31
  go_wp2_with (first | (go_at_call 61; refine (rsplit_c _ _ hs).mono ?_; rintro e w1 ⟨a, cap, rfl, hown, hx1⟩))
  all_goals (go_ret; exact ⟨retb Hv.out, (by (repeat (first | exact Ext.refl _ | exact ‹Ext _ _› | refine Ext.alloc ?_ _ | refine Ext.drew ?_ | refine Ext.drewN ?_ _ | (refine Ext.setCell ?_ (by first | omega | (simp; done) | (simp; omega)) _) | refine Ext.trans ?_ ‹Ext _ _›)))⟩)

set_option maxHeartbeats 4000000 in
set_option maxRecDepth 100000 in
theorem rplace_c (s : ByteArray) (p : Int) (w : World) (hs : s.size ≤ 1099511627775) : Calls Tryd.prog 30 #[.string s, .int .i64 p] w fun e w' => e = .returned (.bool (placeB (ls s) p)) ∧ Ext w w' := by
  have hsl := splitI_len (ls s)
  rw [ls_len] at hsl
  have Hp := Lib.hid (place_find (ls s) p)
  go_enter Tryd.func30, Tryd.ntmps30
  go_wp2_with (first | (go_at_call 61; refine (rsplit_c _ _ hs).mono ?_; rintro e w1 ⟨a, cap, rfl, hown, hx1⟩) | (go_at_call 60; refine (rfind_c _ _ (splitI (ls s)) _ _ (OwnI.rd (by assumption)) (by omega)).mono ?_; rintro e w1 ⟨rfl, hx1⟩))
  all_goals (go_ret; exact ⟨retb Hp.out, (by (repeat (first | exact Ext.refl _ | exact ‹Ext _ _› | refine Ext.alloc ?_ _ | refine Ext.drew ?_ | refine Ext.drewN ?_ _ | (refine Ext.setCell ?_ (by first | omega | (simp; done) | (simp; omega)) _) | refine Ext.trans ?_ ‹Ext _ _›)))⟩)

end Go.Proofs.YtckfdehendifoaaDoor
/- The contracts of the reference calamusref03, from place to place. -/
namespace Go.Proofs.YtckfdehendifoaaDoor
open Go.RowKit
set_option linter.unusedVariables false
set_option linter.unusedSimpArgs false
set_option maxHeartbeats 4000000 in
set_option maxRecDepth 100000 in
theorem rnext_c (s : ByteArray) (p : Int) (w : World) (hs : s.size ≤ 1099511627775) : Calls Tryd.prog 37 #[.string s, .int .i64 p] w fun e w' => e = .returned (.int .i64 (nextI (ls s) p)) ∧ Ext w w' := by
  have hsl := splitI_len (ls s)
  rw [ls_len] at hsl
  rcases place_cases s p with hp | ⟨k, rfl, hk, hp, hv⟩
  · have hf := find_bad hp
    have Hn : Hid (nextI (ls s) p = -1) := Lib.hid (by unfold nextI; simp [hp])
    go_enter Tryd.func37, Tryd.ntmps37
    go_wp2_with (first | (go_at_call 61; refine (rsplit_c _ _ hs).mono ?_; rintro e w1 ⟨a, cap, rfl, hown, hx1⟩) | (go_at_call 60; refine (rfind_c _ _ (splitI (ls s)) _ _ (OwnI.rd (by assumption)) (by omega)).mono ?_; rintro e w1 ⟨rfl, hx1⟩))
    all_goals (go_ret; exact ⟨ret1 Hn.out.symm, (by (repeat (first | exact Ext.refl _ | exact ‹Ext _ _› | refine Ext.alloc ?_ _ | refine Ext.drew ?_ | refine Ext.drewN ?_ _ | (refine Ext.setCell ?_ (by first | omega | (simp; done) | (simp; omega)) _) | refine Ext.trans ?_ ‹Ext _ _›)))⟩)
  · have hf := find_at hp
    by_cases hlt : k < (ls s).length
    · obtain ⟨h1, h2⟩ := next_at hp hlt
      obtain ⟨m, hm⟩ : ∃ m, m = (plcTo (ls s) k).length := ⟨_, rfl⟩
      rw [← hm] at hf h1 h2
      have H2 := Lib.hid h2
      have h3 : ((m : Int) + 1 == ((splitI (ls s)).length : Int)) = false := by simp; omega
      clear hm h2 hp hlt
      go_enter Tryd.func37, Tryd.ntmps37
      go_wp2_with (first | (go_at_call 61; refine (rsplit_c _ _ hs).mono ?_; rintro e w1 ⟨a, cap, rfl, hown, hx1⟩) | (go_at_call 60; refine (rfind_c _ _ (splitI (ls s)) _ _ (OwnI.rd (by assumption)) (by omega)).mono ?_; rintro e w1 ⟨rfl, hx1⟩; obtain ⟨g, o, rfl, hc⟩ := (RdI.ext (OwnI.rd (by assumption)) hx1) (m + 1) h1))
      all_goals (go_ret; refine ⟨ret1 ?_, (by (repeat (first | exact Ext.refl _ | exact ‹Ext _ _› | refine Ext.alloc ?_ _ | refine Ext.drew ?_ | refine Ext.drewN ?_ _ | (refine Ext.setCell ?_ (by first | omega | (simp; done) | (simp; omega)) _) | refine Ext.trans ?_ ‹Ext _ _›)))⟩; rw [← H2.out]; simp [List.getD_eq_getElem?_getD, List.getElem?_eq_getElem h1])
    · obtain ⟨h1, h2⟩ := next_end hp (by rw [ls_len] at hlt ⊢; omega)
      obtain ⟨m, hm⟩ : ∃ m, m = (plcTo (ls s) k).length := ⟨_, rfl⟩
      rw [← hm] at hf h1
      have H2 := Lib.hid h2
      have h3 : ((m : Int) + 1 == ((splitI (ls s)).length : Int)) = true := by rw [h1]; simp
      have h4 : m + 1 ≤ (splitI (ls s)).length := by omega
      clear hm h2 hp hlt h1
      go_enter Tryd.func37, Tryd.ntmps37
      go_wp2_with (first | (go_at_call 61; refine (rsplit_c _ _ hs).mono ?_; rintro e w1 ⟨a, cap, rfl, hown, hx1⟩) | (go_at_call 60; refine (rfind_c _ _ (splitI (ls s)) _ _ (OwnI.rd (by assumption)) (by omega)).mono ?_; rintro e w1 ⟨rfl, hx1⟩))
      all_goals (go_ret; exact ⟨ret1 H2.out.symm, (by (repeat (first | exact Ext.refl _ | exact ‹Ext _ _› | refine Ext.alloc ?_ _ | refine Ext.drew ?_ | refine Ext.drewN ?_ _ | (refine Ext.setCell ?_ (by first | omega | (simp; done) | (simp; omega)) _) | refine Ext.trans ?_ ‹Ext _ _›)))⟩)

set_option maxHeartbeats 4000000 in
set_option maxRecDepth 100000 in
theorem rprev_c (s : ByteArray) (p : Int) (w : World) (hs : s.size ≤ 1099511627775) : Calls Tryd.prog 41 #[.string s, .int .i64 p] w fun e w' => e = .returned (.int .i64 (prevI (ls s) p)) ∧ Ext w w' := by
  have hsl := splitI_len (ls s)
  rw [ls_len] at hsl
  rcases place_cases s p with hp | ⟨k, rfl, hk, hp, hv⟩
  · have hf := find_bad hp
    have Hn : Hid (prevI (ls s) p = -1) := Lib.hid (by unfold prevI; simp [hp])
    go_enter Tryd.func41, Tryd.ntmps41
    go_wp2_with (first | (go_at_call 61; refine (rsplit_c _ _ hs).mono ?_; rintro e w1 ⟨a, cap, rfl, hown, hx1⟩) | (go_at_call 60; refine (rfind_c _ _ (splitI (ls s)) _ _ (OwnI.rd (by assumption)) (by omega)).mono ?_; rintro e w1 ⟨rfl, hx1⟩))
    all_goals (go_ret; exact ⟨ret1 Hn.out.symm, (by (repeat (first | exact Ext.refl _ | exact ‹Ext _ _› | refine Ext.alloc ?_ _ | refine Ext.drew ?_ | refine Ext.drewN ?_ _ | (refine Ext.setCell ?_ (by first | omega | (simp; done) | (simp; omega)) _) | refine Ext.trans ?_ ‹Ext _ _›)))⟩)
  · have hf := find_at hp
    by_cases hlt : 0 < k
    · obtain ⟨h1, h2, h3⟩ := prev_at hp hlt
      obtain ⟨m, hm⟩ : ∃ m, m + 1 = (plcTo (ls s) k).length := ⟨(plcTo (ls s) k).length - 1, by omega⟩
      rw [← hm] at hf h1 h2 h3
      simp only [Nat.add_sub_cancel] at h2 h3
      have H2 := Lib.hid h2
      clear hm h2 hp hlt h1
      go_enter Tryd.func41, Tryd.ntmps41
      go_wp2_with (first | (go_at_call 61; refine (rsplit_c _ _ hs).mono ?_; rintro e w1 ⟨a, cap, rfl, hown, hx1⟩) | (go_at_call 60; refine (rfind_c _ _ (splitI (ls s)) _ _ (OwnI.rd (by assumption)) (by omega)).mono ?_; rintro e w1 ⟨rfl, hx1⟩; obtain ⟨g, o, rfl, hc⟩ := (RdI.ext (OwnI.rd (by assumption)) hx1) m h3))
      all_goals (go_ret; refine ⟨ret1 ?_, (by (repeat (first | exact Ext.refl _ | exact ‹Ext _ _› | refine Ext.alloc ?_ _ | refine Ext.drew ?_ | refine Ext.drewN ?_ _ | (refine Ext.setCell ?_ (by first | omega | (simp; done) | (simp; omega)) _) | refine Ext.trans ?_ ‹Ext _ _›)))⟩; rw [← H2.out]; simp [List.getD_eq_getElem?_getD, List.getElem?_eq_getElem h3])
    · have hk0 : k = 0 := by omega
      subst hk0
      have e0 : ((0 : Nat) : Int) = 0 := rfl
      have Hn : Hid (prevI (ls s) 0 = -1) := Lib.hid (prev_zero _ rfl).1
      have hz : (plcTo (ls s) 0).length = 0 := by simp [plcTo]
      rw [hz, e0] at hf
      rw [e0]
      clear hz hp hlt e0
      go_enter Tryd.func41, Tryd.ntmps41
      go_wp2_with (first | (go_at_call 61; refine (rsplit_c _ _ hs).mono ?_; rintro e w1 ⟨a, cap, rfl, hown, hx1⟩) | (go_at_call 60; refine (rfind_c _ _ (splitI (ls s)) _ _ (OwnI.rd (by assumption)) (by omega)).mono ?_; rintro e w1 ⟨rfl, hx1⟩))
      all_goals (go_ret; exact ⟨ret1 Hn.out.symm, (by (repeat (first | exact Ext.refl _ | exact ‹Ext _ _› | refine Ext.alloc ?_ _ | refine Ext.drew ?_ | refine Ext.drewN ?_ _ | (refine Ext.setCell ?_ (by first | omega | (simp; done) | (simp; omega)) _) | refine Ext.trans ?_ ‹Ext _ _›)))⟩)

set_option maxHeartbeats 4000000 in
set_option maxRecDepth 100000 in
theorem rrune_c (s : ByteArray) (p : Int) (w : World) (hs : s.size ≤ 1099511627775) : Calls Tryd.prog 63 #[.string s, .int .i64 p] w fun e w' => e = .returned (.string ⟨(runeL (ls s) p).toArray⟩) ∧ Ext w w' := by
  by_cases hn : nextI (ls s) p < 0
  · have Hr := Lib.hid (rune_bad hn)
    go_enter Tryd.func63, Tryd.ntmps63
    go_wp2_with (first | (go_at_call 37; refine (rnext_c _ _ _ hs).mono ?_; rintro e w1 ⟨rfl, hx1⟩))
    go_ret
    exact ⟨by rw [Hr.out]; rfl, (by (repeat (first | exact Ext.refl _ | exact ‹Ext _ _› | refine Ext.alloc ?_ _ | refine Ext.drew ?_ | refine Ext.drewN ?_ _ | (refine Ext.setCell ?_ (by first | omega | (simp; done) | (simp; omega)) _) | refine Ext.trans ?_ ‹Ext _ _›)))⟩
  · have h0 : 0 ≤ nextI (ls s) p := by omega
    obtain ⟨k, n, rfl, h1, h2, h3, h4⟩ := rune_ok s p h0
    have H4 := Lib.hid h4
    clear hn h0 h4
    go_enter Tryd.func63, Tryd.ntmps63
    go_wp2_with (first | (go_at_call 37; refine (rnext_c _ _ _ hs).mono ?_; rintro e w1 ⟨rfl, hx1⟩))
    go_ret
    exact ⟨rets H4.out.symm, (by (repeat (first | exact Ext.refl _ | exact ‹Ext _ _› | refine Ext.alloc ?_ _ | refine Ext.drew ?_ | refine Ext.drewN ?_ _ | (refine Ext.setCell ?_ (by first | omega | (simp; done) | (simp; omega)) _) | refine Ext.trans ?_ ‹Ext _ _›)))⟩

end Go.Proofs.YtckfdehendifoaaDoor
