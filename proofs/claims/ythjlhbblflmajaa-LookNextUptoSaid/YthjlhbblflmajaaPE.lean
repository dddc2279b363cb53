/- Words for the plain proofs: functions with rounds, ranges of whole numbers. -/
import Derived.Test.YthjlhbblflmajaaWWords
import Derived.Test.YthjlhbblflmajaaWMore
import Derived.Test.YthjlhbblflmajaaBase
namespace Go.Proofs.Ythjlhbblflmajaa
open Go.RowKit
set_option linter.unusedVariables false
set_option linter.unusedSimpArgs false
open Go.RowKit Go.Proofs.YthjlhbblflmajaaW.PrintWords Go.Proofs.YthjlhbblflmajaaW.PrintMore

theorem Ev.pos {α : Type} {c : Prop} [Decidable c] {a b : Nat → Option α} {r : α} (h : c) (k : Ev a r) : Ev (fun n => if c then a n else b n) r := by
  obtain ⟨K, hk⟩ := k
  exact ⟨K, fun n hn => by show (if c then a n else b n) = _; rw [if_pos h]; exact hk n hn⟩
theorem Ev.neg {α : Type} {c : Prop} [Decidable c] {a b : Nat → Option α} {r : α} (h : ¬ c) (k : Ev b r) : Ev (fun n => if c then a n else b n) r := by
  obtain ⟨K, hk⟩ := k
  exact ⟨K, fun n hn => by show (if c then a n else b n) = _; rw [if_neg h]; exact hk n hn⟩
theorem Ev.ite {α : Type} {c : Prop} [Decidable c] {a b : Nat → Option α} {r : α} (h1 : c → Ev a r) (h2 : ¬ c → Ev b r) : Ev (fun n => if c then a n else b n) r := by
  by_cases h : c
  · exact Ev.pos h (h1 h)
  · exact Ev.neg h (h2 h)
theorem Ev.eq {α : Type} {g : Nat → Option α} {r r' : α} (h : Ev g r) (e : r = r') : Ev g r' := e ▸ h
theorem Ev.ret {α : Type} {r r' : α} (e : r = r') : Ev (fun _ => some r) r' := ⟨0, fun _ _ => by rw [e]⟩
/-- What is come to without rounds. -/
theorem Ev.val {α : Type} {g : Option α} {r : α} (e : g = some r) : Ev (fun _ => g) r := ⟨0, fun _ _ => e⟩
/-- A call without rounds. -/
theorem Ev.call {α β : Type} {g : Option α} {f : Nat → α → Option β} {a : α} {r : β} (h : g = some a) (k : Ev (fun n => f n a) r) : Ev (fun n => g.bind (f n)) r := Ev.bind (Ev.val h) k
/-- At a number of rounds. -/
theorem Ev.at {α : Type} {g : Nat → Option α} {r : α} (h : Ev g r) : ∃ k, g k = some r := h.rounds
/-- A row of whole numbers of the call's own, as the printer tells it. -/
theorem kdR_int {base : Nat} {w : World} {v : Value} {xs : List Int} (h : w.ownsRow base 3 1 v xs.length (xs.map (Value.int .i64))) : Kd.R (Kd.int .i64) 3 w base (fun _ => True) v xs := by
  refine ⟨fun _ _ => trivial, _, h, by simp [Kd.int, Kd.scalar], fun j p hj => ?_⟩
  obtain ⟨hl, rfl⟩ := List.getElem?_eq_some_iff.1 hj
  show ((xs.map (Value.int .i64)).drop (j * 1)).take 1 = [Value.int .i64 xs[j]]
  rw [Nat.mul_one, List.drop_eq_getElem_cons (by simpa using hl)]
  simp
theorem w64 {n : Int} (h0 : -9223372036854775808 ≤ n) (h1 : n ≤ 9223372036854775807) : wrap64 n = n := IntWalk.wrap64_in n ⟨h0, h1⟩
theorem mx_eq (a b : Int) : mx a b = max a b := by unfold mx; omega
theorem mn_eq (a b : Int) : mn a b = min a b := by unfold mn; omega
theorem bt_nat (s : ByteArray) (k : Nat) (h : k < s.size) : bt s k = byL (ls s) k := by
  unfold bt
  rw [dif_pos (by simpa using h), ← byL_eq s k h]
  rfl
theorem bt_byL (s : ByteArray) (i : Int) (h0 : 0 ≤ i) (h : i < s.size) : bt s i = byL (ls s) i.toNat := by
  obtain ⟨k, rfl⟩ : ∃ k : Nat, i = k := ⟨i.toNat, by omega⟩
  rw [bt_nat s k (by omega)]; rfl
theorem rd_nat (xs : List Int) (k : Nat) (h : k < xs.length) : rd xs k = xs[k] := by
  unfold rd; simp [List.getD_eq_getElem?_getD, List.getElem?_eq_getElem h]
theorem rd_getD (xs : List Int) (k : Nat) : rd xs k = xs.getD k 0 := rfl
theorem empty_iff (s : ByteArray) : s.toList = [] ↔ s.size = 0 := by
  rw [Lib.toList_data, ← List.length_eq_zero_iff, ← Lib.size_eq]
theorem toList_ls (s : ByteArray) : s.toList = ls s := Lib.toList_data s
theorem size_ls (s : ByteArray) : s.size = (ls s).length := (ls_len s).symm
theorem ba_ext {s t : ByteArray} (h : ls s = ls t) : s = t := by
  apply ByteArray.ext; exact Array.toList_inj.1 h
end Go.Proofs.Ythjlhbblflmajaa
